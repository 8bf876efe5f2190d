/-
  Contracts: a row of the problem; the game of the greedy method.
  Conditions: none.
-/
import Derived.Test.YtojbjnpkdlfijaaDI06
import Derived.Test.YtojbjnpkdlfijaaProg
import Derived.Shelf.Sort.AssemblyIn
import Derived.Shelf.SlicesE.Clone
import Derived.Shelf.SlicesE.Delete
import Derived.KernelRfl
import Derived.Sort.EveryDepth
import Derived.Sort.OwnSortedInts
import Derived.WalkKit
import Derived.Deep.LoopGhost
import Derived.Lib.Walk
import Derived.Lib.SliceRun
import Derived.Shelf.RegionOpenPlain
set_option maxRecDepth 100000
set_option maxHeartbeats 4000000
set_option linter.unusedSimpArgs false
set_option linter.unusedVariables false
namespace Go.Vi
open Go.Proofs.Ytojbjnpkdlfijaa.Ir
open Go.Proofs
structure Game where
 rows:List (List Int)
 bounds:List Int
 offers:List Off
def codG:Cod Game where
 put a:=.agg [.row (.lst (.i .i64)) a.rows,.row (.i .i64) a.bounds,.row .off a.offers]
 dec
  | .agg [r,v,x]=>match decRow (.lst (.i .i64)) r,decRow (.i .i64) v,decRow .off x with
   |some c,some v,some x=>some ⟨c,v,x⟩
   |_,_,_=>none
  |_=>none
 ok v a h:=by
  split at h
  ·split at h
   ·rename_i h1 h2 h3
    simp only[Option.some.injEq] at h;subst h
    simp only[SV.g,gL,decRow_ok h1,decRow_ok h2,decRow_ok h3]
   ·cases h
  ·cases h
 inj a b h:=by
  obtain⟨c,v,x⟩:=a
  obtain⟨c',v',x'⟩:=b
  simp only[SV.g,gL,AV.agg.injEq,List.cons.injEq,and_true,true_and,AV.sl.injEq] at h
  have m1:=flatA_inj (.lst (.i .i64)) h.1.1 h.1.2
  have m2:=flatA_inj (.i .i64) h.2.1.1 h.2.1.2
  have m3:=flatA_inj .off h.2.2.1 h.2.2.2
  rw[m1,m2,m3]
def r335:SCtr:=⟨46,Prob,.one codP,fun _=>True,fun p=> .si .i64 (if checkE p=0 then nrows p else 0)⟩
theorem h335:Holds Try.prog r335:=by
 refine con (L:=[r79,r157]) r335 F335 (fun _ _=> .look) (OwnOK.none _) (by simpa using⟨h79,h157⟩) (by kernel_rfl) (by kernel_rfl) (fun _=>rfl) ?_
 rintro(p:Prob) -
 refine vcOf (let z0:=decide (checkE p≠(0:Int));let z1:=SV.si .i64 (if checkE p=(0:Int) then nrows p else(0:Int));True∧(z0=true→(SV.il .i64 0).same z1)∧(z0=false→p.classes.length≤8∧(SV.si .i64 (nrows p)).same z1)) (by kernel_rfl) ?_
 simp only[vcs]
 refine⟨fun h=>by rw[if_neg h],fun h=>?_⟩
 have hc:checkE p=0:=Classical.not_not.1 h
 rw[if_pos hc]
 have:=(good_of hc).1
 exact⟨this,rfl⟩
def rowR (p:Prob) (r:Int) (n:Nat):List Int:=(p.offers.take n).map (coefS p r)
def r336:SCtr:=⟨47,Prob×Int,.cons codP (.one (codI .i64)),fun a=>checkE a.1=0∧0≤a.2∧a.2<nrows a.1,fun a=> .tup [.row (.i .i64) (rowR a.1 a.2 a.1.offers.length),.si .i64 (boundS a.1 a.2)]⟩
def Λ336 (a:Prob×Int):Nat→LoopAnn
 |5=> .inv Int (fun i=>⟨[(1,.si .i64 a.2),(4,.ow 1 (rowR a.1 a.2 i.toNat).length 1),(6,.ptr 2 0 20),(20,.row .off a.1.offers),(21,.si .i64 a.1.offers.length),(22,.si .i64 i)],[.cells a.1.ss 27 20 false,.row (.i .i64) (rowR a.1 a.2 i.toNat) 3 true,.cells a.1.ss 69 20 false]⟩)
   (fun s=>iS s 22) (fun i=>0≤i∧i≤a.1.offers.length) (fun i=>(a.1.offers.length - i).toNat) fun _ _=> .look
 |_=> .look
theorem h336:Holds Try.prog r336:=by
 refine con (L:=[r335,r156,r158]) r336 F336 Λ336 (OwnOK.none _) (by simpa using⟨h335,h156,h158⟩) (by kernel_rfl) (by kernel_rfl) (fun _=>rfl) ?_
 rintro⟨p,r⟩ ⟨hc,r0,r1⟩
 simp only at hc r0 r1
 refine vcOf (let z0:=decide (r<(0:Int));let z1:=SId.i .i64;let z2:=SV.il .i64 0;let z3:=[SV.si .i64 (boundS p r)];let z4:=SV.tup (SV.row z1 (rowR p r p.offers.length)::z3);let z5:=decide ((if checkE p=(0:Int) then nrows p else(0:Int))≤r);let z6:=SV.ptr 2 0 20;let z7:=SV.row SId.off p.offers;let z8:=(↑p.offers.length:Int);let z9:=(↑p.offers.length:Int);let z10:=SV.si .i64 z9;let z11:=[SV.si .i64 p.supply.a0,SV.si .i64 p.supply.a1,SV.si .i64 p.supply.a2,SV.si .i64 p.supply.a3,SV.si .i64 p.supply.a4,SV.si .i64 p.supply.a5,SV.si .i64 p.opn.a0,SV.si .i64 p.opn.a1,SV.si .i64 p.opn.a2,SV.si .i64 p.opn.a3,SV.si .i64 p.opn.a4,SV.si .i64 p.opn.a5,SV.si .i64 p.cls.a0,SV.si .i64 p.cls.a1,SV.si .i64 p.cls.a2,SV.si .i64 p.cls.a3,SV.si .i64 p.cls.a4,SV.si .i64 p.cls.a5,SV.row z1 p.classes,z7];let z12:=SObj.cells z11 27 20 false;let z13:=SObj.cells z11 69 20 false;(z0=true→0=0∧(SV.tup [SV.row z1 [],z2]).same z4)∧(z0=false→True∧(z5=true→0=0∧(SV.tup [SV.row z1 [],z2]).same z4)∧(z5=false→((((SV.si .i64 r).same (SV.si .i64 r)∧(SV.ow 1 0 1).same (SV.ow 1 (rowR p r 0).length 1)∧z6.same z6∧z7.same z7∧(SV.si .i64 z8).same z10∧z2.same (SV.si .i64 0)∧True)∧z12.same z12∧(SObj.row z1 [] 3 true).same (SObj.row z1 (rowR p r 0) 3 true)∧z13.same z13∧True)∧(0:Int)≤(0:Int)∧(0:Int)≤z9)∧∀(x:Int),let z14:=nthD p.offers x.toNat SId.off.dflt;let z15:=rowR p r x.toNat;let z16:=z15.length+1;let z17:=x+(1:Int);let z18:=z15++[coefS p r z14];let z19:=SV.si .i64 z17;(0:Int)≤x∧x≤z9→(decide (x<z9)=true→(0:Int)≤x∧x<z8∧x.toNat<p.offers.length∧(p.classes.length≤8∧(0:Int)≤r∧r<nrows p∧(0:Int)≤z14.bidder∧z14.bidder<(↑p.classes.length:Int))∧z15.length=z15.length∧z16*8≤140737488355328∧z16≤1000000000000∧inR .i64 z17∧(((SV.si .i64 r).same (SV.si .i64 r)∧(SV.ow 1 z18.length 1).same (SV.ow 1 (rowR p r z17.toNat).length 1)∧z6.same z6∧z7.same z7∧z10.same z10∧z19.same z19∧True)∧z12.same z12∧(SObj.row z1 z18 3 true).same (SObj.row z1 (rowR p r z17.toNat) 3 true)∧z13.same z13∧True)∧((0:Int)≤z17∧z17≤z9)∧(z9 - z17).toNat<(z9 - x).toNat)∧(decide (x<z9)=false→(p.classes.length≤8∧(0:Int)≤r∧r<nrows p)∧z15.length=z15.length∧(SV.tup (SV.row z1 z15::z3)).same z4)))) (by kernel_rfl) ?_
 simp only[vcs]
 obtain⟨g1,g2,g3,g4,g5⟩:=good_of hc
 have how:∀{x y:Nat},x=y→(SV.ow 1 x 1).same (SV.ow 1 y 1):=by rintro _ _ rfl;rfl
 have hrow:∀{x y:List Int},x=y→(SObj.row (.i .i64) x 3 true).same (SObj.row (.i .i64) y 3 true):=by rintro _ _ rfl;rfl
 rw[if_pos hc]
 refine⟨fun h=>by omega,fun _=>⟨fun h=>by omega,fun _=>⟨⟨?_,by omega,by omega⟩,?_⟩⟩⟩
 ·exact⟨how rfl,hrow rfl⟩
 ·rintro i ⟨i0,i1⟩
  have hL:(rowR p r i.toNat).length≤160:=by unfold rowR;rw[List.length_map,List.length_take];omega
  refine⟨fun hi=>?_,fun hi=>?_⟩
  ·have hx:=g5 _ (nthD_mem (d:=SId.off.dflt) (show i.toNat<p.offers.length by omega))
   have e:rowR p r (i+1).toNat=rowR p r i.toNat++[coefS p r (nthD p.offers i.toNat SId.off.dflt)]:=by
    unfold rowR
    rw[take_nth (d:=SId.off.dflt) i0 hi,List.map_append]
    rfl
   rw[e]
   exact⟨i0,hi,by omega,⟨g1,r0,r1,hx.1,hx.2.1⟩,by omega,by omega,by omega,⟨how rfl,hrow rfl⟩,by omega,by omega⟩
  ·rw[show i.toNat=p.offers.length by omega]
   exact⟨⟨g1,r0,r1⟩,rfl⟩
def rowsR (p:Prob) (n:Nat):List (List Int):=(List.range n).map fun r:Nat=>rowR p r p.offers.length
def bndR (p:Prob) (n:Nat):List Int:=(List.range n).map fun r:Nat=>boundS p r
def nR (p:Prob):Nat:=if checkE p=0 then p.classes.length+12 else 0
def gameR (p:Prob):Game:=⟨rowsR p (nR p),bndR p (nR p),p.offers⟩
theorem rowsR_len {p:Prob} {n:Nat}:(rowsR p n).length=n:=by simp[rowsR]
theorem bndR_len {p:Prob} {n:Nat}:(bndR p n).length=n:=by simp[bndR]
theorem rowsR_succ {p:Prob} {i:Int} (h:0≤i):rowsR p (i+1).toNat=rowsR p i.toNat++[rowR p i p.offers.length]:=by
 unfold rowsR
 rw[show(i+1).toNat=i.toNat+1 from by omega,List.range_succ,List.map_append]
 simp only[List.map_cons,List.map_nil,show((i.toNat:Nat):Int)=i from by omega]
theorem bndR_succ {p:Prob} {i:Int} (h:0≤i):bndR p (i+1).toNat=bndR p i.toNat++[boundS p i]:=by
 unfold bndR
 rw[show(i+1).toNat=i.toNat+1 from by omega,List.range_succ,List.map_append]
 simp only[List.map_cons,List.map_nil,show((i.toNat:Nat):Int)=i from by omega]
def r325:SCtr:=⟨30,Prob,.one codP,fun _=>True,fun p=>codG.put (gameR p)⟩
def Λ325 (p:Prob):Nat→LoopAnn
 |3=> .inv Int (fun i=>⟨[(1,.ptr 0 0 20),(2,.ptr 1 0 3),(3,.ptr 2 0 3),(11,.si .i64 (nR p)),(12,.si .i64 i)],[.cells p.ss 27 20 false,.cells [.sc (.slice none 0 0),.sc (.slice none 0 0),.sc (.slice none 0 0)] 54 3 false,.cells [.ow 4 (rowsR p i.toNat).length 1,.ow 3 (bndR p i.toNat).length 1,.row .off p.offers] 54 3 false,.row (.i .i64) (bndR p i.toNat) 3 true,.row (.lst (.i .i64)) (rowsR p i.toNat) 24 false]⟩)
   (fun s=>iS s 12) (fun i=>0≤i∧i≤nR p) (fun i=>(nR p - i).toNat) fun _ _=> .look
 |_=> .look
theorem h325:Holds Try.prog r325:=by
 refine con (L:=[r335,r336]) r325 F325 Λ325 (OwnOK.none _) (by simpa using⟨h335,h336⟩) (by kernel_rfl) (by kernel_rfl) (fun _=>rfl) ?_
 rintro(p:Prob) -
 refine vcOf (let z0:=SV.ptr 0 0 20;let z1:=SV.ptr 1 0 3;let z2:=SV.ptr 2 0 3;let z3:=(↑(nR p):Int);let z4:=SV.si .i64 z3;let z5:=SId.i .i64;let z6:=[SV.row SId.off p.offers];let z7:=SObj.cells (SV.si .i64 p.supply.a0::SV.si .i64 p.supply.a1::SV.si .i64 p.supply.a2::SV.si .i64 p.supply.a3::SV.si .i64 p.supply.a4::SV.si .i64 p.supply.a5::SV.si .i64 p.opn.a0::SV.si .i64 p.opn.a1::SV.si .i64 p.opn.a2::SV.si .i64 p.opn.a3::SV.si .i64 p.opn.a4::SV.si .i64 p.opn.a5::SV.si .i64 p.cls.a0::SV.si .i64 p.cls.a1::SV.si .i64 p.cls.a2::SV.si .i64 p.cls.a3::SV.si .i64 p.cls.a4::SV.si .i64 p.cls.a5::SV.row z5 p.classes::z6) 27 20 false;let z8:=SV.sc (Value.slice none 0 0);let z9:=SObj.cells [z8,z8,z8] 54 3 false;True∧(((z0.same z0∧z1.same z1∧z2.same z2∧(SV.si .i64 (if checkE p=(0:Int) then nrows p else(0:Int))).same z4∧(SV.il .i64 0).same (SV.si .i64 0)∧True)∧z7.same z7∧z9.same z9∧(SObj.cells (SV.ow 4 0 1::SV.ow 3 0 1::z6) 54 3 false).same (SObj.cells (SV.ow 4 (rowsR p 0).length 1::SV.ow 3 (bndR p 0).length 1::z6) 54 3 false)∧(SObj.row z5 [] 3 true).same (SObj.row z5 (bndR p 0) 3 true)∧(SObj.row z5.lst [] 24 false).same (SObj.row z5.lst (rowsR p 0) 24 false)∧True)∧(0:Int)≤(0:Int)∧(0:Int)≤z3)∧∀(x:Int),let z10:=rowsR p x.toNat;let z11:=z10.length+1;let z12:=bndR p x.toNat;let z13:=z12.length+1;let z14:=x+(1:Int);let z15:=SV.si .i64 z14;let z16:=z10++[rowR p x p.offers.length];(0:Int)≤x∧x≤z3→(decide (x<z3)=true→(checkE p=(0:Int)∧(0:Int)≤x∧x<nrows p)∧1=1∧z10.length=z10.length∧z11*24≤140737488355328∧z11≤1000000000000∧1=1∧z12.length=z12.length∧z13*8≤140737488355328∧z13≤1000000000000∧inR .i64 z14∧((z0.same z0∧z1.same z1∧z2.same z2∧z4.same z4∧z15.same z15∧True)∧z7.same z7∧z9.same z9∧(SObj.cells (SV.ow 4 z16.length 1::SV.ow 3 (z12++[boundS p x]).length 1::z6) 54 3 false).same (SObj.cells (SV.ow 4 (rowsR p z14.toNat).length 1::SV.ow 3 (bndR p z14.toNat).length 1::z6) 54 3 false)∧(SObj.row z5 (z12++[boundS p x]) 3 true).same (SObj.row z5 (bndR p z14.toNat) 3 true)∧(SObj.row z5.lst z16 24 false).same (SObj.row z5.lst (rowsR p z14.toNat) 24 false)∧True)∧((0:Int)≤z14∧z14≤z3)∧(z3 - z14).toNat<(z3 - x).toNat)∧(decide (x<z3)=false→z10.length=z10.length∧z12.length=z12.length∧(SV.agg (SV.row z5.lst z10::SV.row z5 z12::z6)).same (SV.agg [SV.row z5.lst (gameR p).rows,SV.row z5 (gameR p).bounds,SV.row SId.off (gameR p).offers]))) (by kernel_rfl) ?_
 simp only[vcs]
 have hn:∀x:Int,0≤x→x<nR p→checkE p=0∧x<nrows p∧nR p≤20:=by
  intro x hx0 hx
  unfold nR at hx ⊢
  split at hx
  ·rename_i hc
   have:=(good_of hc).1
   rw[if_pos hc]
   exact⟨hc,by unfold nrows;omega,by omega⟩
  ·omega
 have e0:(if checkE p=0 then nrows p else 0)=((nR p:Nat):Int):=by
  unfold nR nrows
  split
  ·omega
  ·rfl
 have hcell:∀{a a' b b':Nat} {l:List Off},a=a'→b=b'→(SObj.cells [.ow 4 a 1,.ow 3 b 1,.row .off l] 54 3 false).same (.cells [.ow 4 a' 1,.ow 3 b' 1,.row .off l] 54 3 false):=by rintro _ _ _ _ _ rfl rfl;rfl
 have hrow:∀{x y:List Int},x=y→(SObj.row (.i .i64) x 3 true).same (SObj.row (.i .i64) y 3 true):=by rintro _ _ rfl;rfl
 have hrow2:∀{x y:List (List Int)},x=y→(SObj.row (.lst (.i .i64)) x 24 false).same (SObj.row (.lst (.i .i64)) y 24 false):=by rintro _ _ rfl;rfl
 refine⟨⟨⟨e0,hcell rfl rfl,hrow rfl,hrow2 rfl⟩,by omega,by omega⟩,?_⟩
 rintro i ⟨i0,i1⟩
 refine⟨fun hi=>?_,fun hi=>?_⟩
 ·obtain⟨hc,h1,h2⟩:=hn i i0 hi
  have l1:=@rowsR_len p i.toNat
  have l2:=@bndR_len p i.toNat
  rw[rowsR_succ i0,bndR_succ i0]
  exact⟨⟨hc,i0,h1⟩,by omega,by omega,by omega,by omega,by omega,⟨hcell rfl rfl,hrow rfl,hrow2 rfl⟩,by omega,by omega⟩
 ·rw[show i.toNat=nR p by omega]
  rfl
def GameOk (g:Game):Prop:=(g.rows.length=g.bounds.length∧g.bounds.length≤1000∧g.offers.length≤1000)∧(∀r∈g.rows,r.length=g.offers.length∧∀x∈r,0≤x∧x≤1000)∧∀b∈g.bounds, -1000≤b∧b≤1000
def valOk (g:Game) (c:List Int):Prop:=∀x∈c,0≤(nthD g.offers x.toNat SId.off.dflt).value∧(nthD g.offers x.toNat SId.off.dflt).value≤1000000
def idxOk (g:Game) (c:List Int):Prop:=c.length≤1000∧∀x∈c,0≤x∧x<g.offers.length
def useG (g:Game) (c:List Int) (r:Nat):Int:=(c.map fun x=>nthD (nthD g.rows r []) x.toNat 0).sum
def fitG (g:Game) (c:List Int):Bool:=(List.range g.bounds.length).all fun r=>decide (0≤nthD g.bounds r 0 - useG g c r)
def valG (g:Game) (c:List Int):Int:=(c.map fun x=>(nthD g.offers x.toNat SId.off.dflt).value).sum
theorem sumTk {f:Int→Int} {c:List Int} {i:Int} (h0:0≤i) (h:i<c.length):((c.take (i+1).toNat).map f).sum=((c.take i.toNat).map f).sum+f (nthD c i.toNat 0):=by
 rw[take_nth (d:=0) h0 h,List.map_append,List.sum_append]
 simp
theorem sumBd {f:Int→Int} {c:List Int} {k:Nat} {m:Int} (hm:0≤m) (h:∀x∈c,0≤f x∧f x≤m):0≤((c.take k).map f).sum∧((c.take k).map f).sum≤c.length*m:=by
 induction c generalizing k with
 |nil=>simp
 |cons x c ih=>
  cases k with
  |zero=>simp;exact Int.mul_nonneg (by omega) hm
  |succ k=>
   have h1:=h x (by simp)
   obtain⟨h2,h3⟩:=ih (k:=k) fun y hy=>h y (by simp[hy])
   simp only[List.take_succ_cons,List.map_cons,List.sum_cons,List.length_cons]
   rw[show(((c.length+1:Nat):Int))*m=c.length*m+m by rw[Int.natCast_add,Int.add_mul];simp]
   omega
def r327:SCtr:=⟨32,Game×List Int,.cons codG (.one (codR (.i .i64))),fun a=>GameOk a.1∧idxOk a.1 a.2,fun a=> .sb (fitG a.1 a.2)⟩
def Λ327 (g:Game) (c:List Int):Nat→LoopAnn
 |2=> .inv Int (fun i=>⟨[(1,.row (.i .i64) c),(2,.ptr 0 0 3),(10,.row (.i .i64) g.bounds),(11,.si .i64 g.bounds.length),(12,.si .i64 i)],[.cells [.row (.lst (.i .i64)) g.rows,.row (.i .i64) g.bounds,.row .off g.offers] 54 3 false]⟩)
   (fun s=>iS s 12) (fun i=>(0≤i∧i≤g.bounds.length)∧∀r:Nat,r<i→0≤nthD g.bounds r 0 - useG g c r) (fun i=>(g.bounds.length - i).toNat) fun i k=>match k with
   |5=> .inv (Int×Int) (fun y=>⟨[(1,.row (.i .i64) c),(2,.ptr 0 0 3),(5,.si .i64 i),(6,.si .i64 y.2),(10,.row (.i .i64) g.bounds),(11,.si .i64 g.bounds.length),(12,.si .i64 i),(17,.row (.i .i64) c),(18,.si .i64 c.length),(19,.si .i64 y.1)],[.cells [.row (.lst (.i .i64)) g.rows,.row (.i .i64) g.bounds,.row .off g.offers] 54 3 false]⟩)
     (fun s=>(iS s 19,iS s 6)) (fun y=>(0≤y.1∧y.1≤c.length)∧y.2=nthD g.bounds i.toNat 0 - useG g (c.take y.1.toNat) i.toNat) (fun y=>(c.length - y.1).toNat) fun _ _=> .look
   |_=> .look
 |_=> .look
theorem h327:Holds Try.prog r327:=by
 refine con (L:=[]) r327 F327 (fun a=>Λ327 a.1 a.2) (OwnOK.none _) (by simp) (by kernel_rfl) (by kernel_rfl) (fun _=>rfl) ?_
 rintro⟨g,c⟩ ⟨⟨⟨q1,q2,q3⟩,hr,hb⟩,hcl,hci⟩
 simp only at q1 q2 q3 hr hb hcl hci
 refine vcOf (let z0:=SId.i .i64;let z1:=SV.ptr 0 0 3;let z2:=SV.row z0 g.bounds;let z3:=(↑g.bounds.length:Int);let z4:=(↑g.bounds.length:Int);let z5:=SV.si .i64 z4;let z6:=SObj.cells [SV.row z0.lst g.rows,z2,SV.row SId.off g.offers] 54 3 false;let z7:=(↑c.length:Int);let z8:=SV.si .i64 z7;((((SV.row z0 c).same (SV.row z0 c)∧z1.same z1∧z2.same z2∧(SV.si .i64 z3).same z5∧(SV.il .i64 0).same (SV.si .i64 0)∧True)∧z6.same z6∧True)∧((0:Int)≤(0:Int)∧(0:Int)≤z4)∧∀(r:Nat),(↑r:Int)<(0:Int)→(0:Int)≤nthD g.bounds r (0:Int) - useG g c r)∧∀(x:Int),let z9:=nthD g.bounds x.toNat (0:Int);let z10:=SV.si .i64 z9;let z11:=nthD g.rows x.toNat z0.lst.dflt;let z12:=x+(1:Int);let z13:=SV.si .i64 z12;(((0:Int)≤x∧x≤z4)∧∀(r:Nat),(↑r:Int)<x→(0:Int)≤nthD g.bounds r (0:Int) - useG g c r)→(decide (x<z4)=true→(0:Int)≤x∧x<z3∧x.toNat<g.bounds.length∧((((SV.row z0 c).same (SV.row z0 c)∧z1.same z1∧(SV.si .i64 x).same (SV.si .i64 x)∧z10.same z10∧z2.same z2∧z5.same z5∧(SV.si .i64 x).same (SV.si .i64 x)∧(SV.row z0 c).same (SV.row z0 c)∧(SV.si .i64 (↑c.length:Int)).same z8∧(SV.il .i64 0).same (SV.si .i64 0)∧True)∧z6.same z6∧True)∧((0:Int)≤(0:Int)∧(0:Int)≤z7)∧z9=z9 - useG g [] x.toNat)∧∀(x_1:Int×Int),let z14:=nthD c x_1.fst.toNat (0:Int);let z15:=x_1.snd - nthD z11 z14.toNat (0:Int);let z16:=x_1.fst+(1:Int);let z17:=SV.si .i64 x;let z18:=SV.si .i64 z15;let z19:=SV.si .i64 z16;let z20:=decide (x_1.snd<(0:Int));((0:Int)≤x_1.fst∧x_1.fst≤z7)∧x_1.snd=z9 - useG g (List.take x_1.fst.toNat c) x.toNat→(decide (x_1.fst<z7)=true→(0:Int)≤x_1.fst∧x_1.fst<(↑c.length:Int)∧x_1.fst.toNat<c.length∧(0:Int)≤x∧x<(↑g.rows.length:Int)∧x.toNat<g.rows.length∧(0:Int)≤z14∧z14<(↑z11.length:Int)∧z14.toNat<z11.length∧inR .i64 z15∧inR .i64 z16∧(((SV.row z0 c).same (SV.row z0 c)∧z1.same z1∧z17.same z17∧z18.same z18∧z2.same z2∧z5.same z5∧z17.same z17∧(SV.row z0 c).same (SV.row z0 c)∧z8.same z8∧z19.same z19∧True)∧z6.same z6∧True)∧(((0:Int)≤z16∧z16≤z7)∧z15=z9 - useG g (List.take z16.toNat c) x.toNat)∧(z7 - z16).toNat<(z7 - x_1.fst).toNat)∧(decide (x_1.fst<z7)=false→(z20=true→(SV.bl false).same (SV.sb (fitG g c)))∧(z20=false→inR .i64 z12∧(((SV.row z0 c).same (SV.row z0 c)∧z1.same z1∧z2.same z2∧z5.same z5∧z13.same z13∧True)∧z6.same z6∧True)∧(((0:Int)≤z12∧z12≤z4)∧∀(r:Nat),(↑r:Int)<z12→(0:Int)≤nthD g.bounds r (0:Int) - useG g c r)∧(z4 - z12).toNat<(z4 - x).toNat)))∧(decide (x<z4)=false→(SV.bl true).same (SV.sb (fitG g c)))) (by kernel_rfl) ?_
 simp only[vcs]
 have hd:(SId.i IntKind.i64).lst.dflt=([]:List Int):=rfl
 rw[hd]
 have hrr:∀r:Nat,r<g.rows.length→(nthD g.rows r []).length=g.offers.length∧∀x∈c,0≤nthD (nthD g.rows r []) x.toNat 0∧nthD (nthD g.rows r []) x.toNat 0≤1000:=fun r h=>by
  have:=hr _ (nthD_mem (d:=[]) h)
  refine⟨this.1,fun x hx=>?_⟩
  have h2:=hci x hx
  exact this.2 _ (nthD_mem (by rw[this.1];omega))
 refine⟨⟨by omega,fun r h=>by omega⟩,?_⟩
 rintro i ⟨⟨i0,i1⟩,hdone⟩
 refine⟨fun hi=>⟨i0,hi,by omega,⟨by omega,by simp[useG]⟩,?_⟩,fun hi=>?_⟩
 ·obtain⟨hrl,hrx⟩:=hrr i.toNat (by omega)
  have hbi:=hb _ (nthD_mem (d:=0) (show i.toNat<g.bounds.length by omega))
  rintro⟨j,v⟩ ⟨⟨j0,j1⟩,hv⟩
  simp only at j0 j1 hv ⊢
  refine⟨fun hj=>?_,fun hj=>?_⟩
  ·have hx:=hci _ (nthD_mem (d:=0) (show j.toNat<c.length by omega))
   have hs:useG g (c.take (j+1).toNat) i.toNat=useG g (c.take j.toNat) i.toNat+nthD (nthD g.rows i.toNat []) (nthD c j.toNat 0).toNat 0:=sumTk (f:=fun x=>nthD (nthD g.rows i.toNat []) x.toNat 0) j0 hj
   have hbd:0≤useG g (c.take j.toNat) i.toNat∧useG g (c.take j.toNat) i.toNat≤c.length*1000:=sumBd (f:=fun x=>nthD (nthD g.rows i.toNat []) x.toNat 0) (m:=1000) (by omega) hrx
   have hvx:=hrx _ (nthD_mem (d:=0) (show j.toNat<c.length by omega))
   rw[hs,hrl]
   exact⟨j0,hj,by omega,i0,by omega,by omega,hx.1,hx.2,by omega,by omega,by omega,⟨by omega,by omega⟩,by omega⟩
  ·have hjc:j.toNat=c.length:=by omega
   rw[hjc,List.take_length] at hv
   refine⟨fun hneg=>?_,fun hpos=>⟨by omega,⟨by omega,fun r h=>?_⟩,by omega⟩⟩
   ·symm
    rw[←Bool.not_eq_true,fitG,List.all_eq_true]
    intro h
    have:=of_decide_eq_true (h i.toNat (List.mem_range.2 (by omega)))
    omega
   ·by_cases h2:(r:Int)<i
    ·exact hdone r h2
    ·rw[show r=i.toNat by omega,←hv];omega
 ·symm
  rw[fitG,List.all_eq_true]
  intro r h
  rw[List.mem_range] at h
  exact decide_eq_true (hdone r (by omega))
def r328:SCtr:=⟨33,Game×List Int,.cons codG (.one (codR (.i .i64))),fun a=>GameOk a.1∧idxOk a.1 a.2∧valOk a.1 a.2,fun a=> .si .i64 (valG a.1 a.2)⟩
def Λ328 (g:Game) (c:List Int):Nat→LoopAnn
 |3=> .inv Int (fun i=>⟨[(2,.ptr 0 0 3),(5,.si .i64 (valG g (c.take i.toNat))),(8,.row (.i .i64) c),(9,.si .i64 c.length),(10,.si .i64 i)],[.cells [.row (.lst (.i .i64)) g.rows,.row (.i .i64) g.bounds,.row .off g.offers] 54 3 false]⟩)
   (fun s=>iS s 10) (fun i=>0≤i∧i≤c.length) (fun i=>(c.length - i).toNat) fun _ _=> .look
 |_=> .look
theorem h328:Holds Try.prog r328:=by
 refine con (L:=[]) r328 F328 (fun a=>Λ328 a.1 a.2) (OwnOK.none _) (by simp) (by kernel_rfl) (by kernel_rfl) (fun _=>rfl) ?_
 rintro⟨g,c⟩ ⟨⟨⟨q1,q2,q3⟩,hr,hb⟩,⟨hcl,hci⟩,hvv⟩
 simp only[valOk] at q1 q2 q3 hr hb hcl hci hvv
 refine vcOf (let z0:=SV.ptr 0 0 3;let z1:=SV.il .i64 0;let z2:=SId.i .i64;let z3:=(↑c.length:Int);let z4:=SV.si .i64 z3;let z5:=SObj.cells [SV.row z2.lst g.rows,SV.row z2 g.bounds,SV.row SId.off g.offers] 54 3 false;(((z0.same z0∧z1.same (SV.si .i64 (valG g []))∧(SV.row z2 c).same (SV.row z2 c)∧(SV.si .i64 (↑c.length:Int)).same z4∧z1.same (SV.si .i64 0)∧True)∧z5.same z5∧True)∧(0:Int)≤(0:Int)∧(0:Int)≤z3)∧∀(x:Int),let z6:=nthD c x.toNat (0:Int);let z7:=valG g (List.take x.toNat c);let z8:=z7+(nthD g.offers z6.toNat SId.off.dflt).value;let z9:=x+(1:Int);let z10:=SV.si .i64 z9;(0:Int)≤x∧x≤z3→(decide (x<z3)=true→(0:Int)≤x∧x<(↑c.length:Int)∧x.toNat<c.length∧(0:Int)≤z6∧z6<(↑g.offers.length:Int)∧z6.toNat<g.offers.length∧inR .i64 z8∧inR .i64 z9∧((z0.same z0∧(SV.si .i64 z8).same (SV.si .i64 (valG g (List.take z9.toNat c)))∧(SV.row z2 c).same (SV.row z2 c)∧z4.same z4∧z10.same z10∧True)∧z5.same z5∧True)∧((0:Int)≤z9∧z9≤z3)∧(z3 - z9).toNat<(z3 - x).toNat)∧(decide (x<z3)=false→(SV.si .i64 z7).same (SV.si .i64 (valG g c)))) (by kernel_rfl) ?_
 conv=>zeta
 try simp only[vcs]
 refine⟨⟨by simp[valG],by omega,by omega⟩,?_⟩
 rintro i ⟨i0,i1⟩
 refine⟨fun hi=>?_,fun hi=>?_⟩
 ·have hx:=hci _ (nthD_mem (d:=0) (show i.toNat<c.length by omega))
  have hs:valG g (c.take (i+1).toNat)=valG g (c.take i.toNat)+(nthD g.offers (nthD c i.toNat 0).toNat SId.off.dflt).value:=sumTk (f:=fun x=>(nthD g.offers x.toNat SId.off.dflt).value) i0 hi
  have hbd:0≤valG g (c.take i.toNat)∧valG g (c.take i.toNat)≤c.length*1000000:=sumBd (f:=fun x=>(nthD g.offers x.toNat SId.off.dflt).value) (m:=1000000) (by omega) hvv
  have hv1:=hvv _ (nthD_mem (d:=0) (show i.toNat<c.length by omega))
  rw[hs]
  refine⟨i0,hi,by omega,hx.1,hx.2,by omega,by omega,by omega,by first|trivial|rfl,by omega,by omega⟩
 ·rw[show i.toNat=c.length by omega,List.take_length]
end Go.Vi
namespace Go.Proofs
open Go.Shelf
def Try.layS_ren:Ren:=
 ⟨fun
  |189=>48
  |125=>65
  |257=>64
  |128=>80
  |129=>81
  |294=>71
  |295=>72
  |296=>73
  |297=>74
  |298=>75
  |299=>76
  |216=>77
  |300=>78
  |301=>79
  |328=>83
  |329=>84
  |330=>85
  |331=>86
  |332=>87
  |215=>88
  |343=>89
  |n=>n,
 fun
  |28=>24
  |3=>3
  |46=>94
  |0=>0
  |51=>109
  |53=>111
  |4=>4
  |183=>101
  |182=>100
  |131=>106
  |5=>5
  |9=>9
  |218=>112
  |222=>116
  |228=>119
  |229=>83
  |n=>n,
 fun n=>n⟩
def Try.layC_ren:Ren:=
 ⟨fun
  |41=>36
  |n=>n,
 fun
  |22=>24
  |23=>3
  |4=>4
  |n=>n,
 fun n=>n⟩
def Try.layD_ren:Ren:=
 ⟨fun
  |45=>66
  |n=>n,
 fun
  |22=>24
  |23=>3
  |3=>3
  |4=>4
  |0=>0
  |n=>n,
 fun n=>n⟩
theorem Try.layS:Lays.n189 Try.prog Try.layS_ren:={mixed:=by kernel_rfl,f125:=Try.func65.trans (by kernel_rfl),f128:=Try.func80.trans (by kernel_rfl),f129:=Try.func81.trans (by kernel_rfl),f189:=Try.func48.trans (by kernel_rfl),f215:=Try.func88.trans (by kernel_rfl),f216:=Try.func77.trans (by kernel_rfl),f257:=Try.func64.trans (by kernel_rfl),f294:=Try.func71.trans (by kernel_rfl),f295:=Try.func72.trans (by kernel_rfl),f296:=Try.func73.trans (by kernel_rfl),f297:=Try.func74.trans (by kernel_rfl),f298:=Try.func75.trans (by kernel_rfl),f299:=Try.func76.trans (by kernel_rfl),f300:=Try.func78.trans (by kernel_rfl),f301:=Try.func79.trans (by kernel_rfl),f328:=Try.func83.trans (by kernel_rfl),f329:=Try.func84.trans (by kernel_rfl),f330:=Try.func85.trans (by kernel_rfl),f331:=Try.func86.trans (by kernel_rfl),f332:=Try.func87.trans (by kernel_rfl),f343:=Try.func89.trans (by kernel_rfl),t0:=Try.underlying0,a0:=Try.isAgg0,z0:=Try.sizeOf0,v0:=Try.zeroValue0,t3:=Try.underlying3,a3:=Try.isAgg3,z3:=Try.sizeOf3,v3:=Try.zeroValue3,t4:=Try.underlying4,a4:=Try.isAgg4,z4:=Try.sizeOf4,v4:=Try.zeroValue4,t5:=Try.underlying5,a5:=Try.isAgg5,z5:=Try.sizeOf5,v5:=Try.zeroValue5,t9:=Try.underlying9,a9:=Try.isAgg9,z9:=Try.sizeOf9,v9:=Try.zeroValue9,t28:=Try.underlying24,a28:=Try.isAgg24,z28:=Try.sizeOf24,v28:=Try.zeroValue24,t46:=Try.underlying94,a46:=Try.isAgg94,z46:=Try.sizeOf94,v46:=Try.zeroValue94,t51:=Try.underlying109,a51:=Try.isAgg109,z51:=Try.sizeOf109,v51:=Try.zeroValue109,t53:=Try.underlying111,a53:=Try.isAgg111,z53:=Try.sizeOf111,v53:=Try.zeroValue111,t131:=Try.underlying106,a131:=Try.isAgg106,z131:=Try.sizeOf106,v131:=Try.zeroValue106,t182:=Try.underlying100,a182:=Try.isAgg100,z182:=Try.sizeOf100,v182:=Try.zeroValue100,t183:=Try.underlying101,a183:=Try.isAgg101,z183:=Try.sizeOf101,v183:=Try.zeroValue101,t218:=Try.underlying112,a218:=Try.isAgg112,z218:=Try.sizeOf112,v218:=Try.zeroValue112,t222:=Try.underlying116,a222:=Try.isAgg116,z222:=Try.sizeOf116,v222:=Try.zeroValue116,t228:=Try.underlying119,a228:=Try.isAgg119,z228:=Try.sizeOf119,v228:=Try.zeroValue119,t229:=Try.underlying83,a229:=Try.isAgg83,z229:=Try.sizeOf83,v229:=Try.zeroValue83}
theorem Try.layC:SlLaysE0.n41 Try.prog Try.layC_ren:={mixed:=by kernel_rfl,f41:=⟨Try.f36.name,by decide,Try.func36.trans (by kernel_rfl)⟩,t4:=Try.underlying4,a4:=Try.isAgg4,z4:=Try.sizeOf4,v4:=Try.zeroValue4,t22:=Try.underlying24,a22:=Try.isAgg24,z22:=Try.sizeOf24,v22:=Try.zeroValue24}
theorem Try.layD:SlLaysE.n45 Try.prog Try.layD_ren:={mixed:=by kernel_rfl,f45:=⟨Try.f66.name,by decide,Try.func66.trans (by kernel_rfl)⟩,t0:=Try.underlying0,a0:=Try.isAgg0,z0:=Try.sizeOf0,v0:=Try.zeroValue0,t3:=Try.underlying3,a3:=Try.isAgg3,z3:=Try.sizeOf3,v3:=Try.zeroValue3,t4:=Try.underlying4,a4:=Try.isAgg4,z4:=Try.sizeOf4,v4:=Try.zeroValue4,t22:=Try.underlying24,a22:=Try.isAgg24,z22:=Try.sizeOf24,v22:=Try.zeroValue24,a23:=Try.isAgg3,z23:=Try.sizeOf3}
end Go.Proofs
namespace Go.Proofs
open Go.Shelf Go.RowKit Go.Lib
theorem cloneW {P:Program} {ρ:Ren} (L:SlLaysE0.n41 P ρ) (i0:TypeInfo) (z:Value) (size bytes:Nat) (hi:P.info? (ρ.t 23)=some i0) (hz0:i0.zero=some z) (hz1:i0.size=size) (hz2:i0.bytes=bytes) (hzs:z.cells.size=size) (hsz:0<size)
  (z23:∀w,(Go.sizeOf (ρ.t 23)).run P w= .ok size w) (p:Addr) (n c:Nat) (news:List Value) (w:World) (hl:news.length=n*size) (hn:n≤maxLen) (hbig:n*bytes≤140737488355328)
  (hc:∀j u,news[j]?=some u→w.cell? (p.add j)=some u) (h1:∀u∈news,u.oneCell'=true):
  Calls P (ρ.f 41) #[.slice (some p) n c] w fun e w'=>∃v',e= .returned v'∧w'.ownsRow w.heap.size (ρ.t 23) size v' n news∧v'≠ .slice none 0 0∧Below w.heap.size w w':=by
 have mixed:=L.mixed;have t4:=L.t4;have a4:=L.a4;have z4:=L.z4;have v4:=L.v4;have t22:=L.t22;have a22:=L.a22;have z22:=L.z22;have v22:=L.v22
 have q22:∀(w:World) (a:Option Addr) (n c n' c':Nat),(binOp .eql (ρ.t 22) (.slice a n c) (.slice none n' c')).run P w= .ok (.bool a.isNone) w:=fun w a n c n' c'=>Lib.run_eql_slice_nil w _ _ a n c n' c' L.t22
 have u22:∀w,Sem.run P (underlying (ρ.t 22)) w= .ok (TypeDesc.slice (ρ.t 23)) w:=run_underlying t22
 have A:Aside (∀j u,news[j]?=some u→w.cell? (p.add j)=some u):=hc
 clear hc
 obtain⟨_,_,FG⟩:=L.f41
 go_enter FG,SlBodyN.n41_ntmps ρ
 go_wp2_with (at_builtin;refine wpList_append_own _ rfl _ _ (ρ.t 22) rfl w.heap.size (ρ.t 23) i0 z size bytes t22 hi hz0 hz1 hz2 hzs hsz _ _ _ rfl (World.ownsRow_made w #[] 0 (Nat.le_refl _) (Nat.zero_le _) (by simp)) p n c news rfl ?qc1 ?qc2 ?qc3 ?qc4 ?qc5 ?qc6 ?_)
 case qc1=>exact hl
 case qc2=>
  intro j u hj
  exact Lib.cell?_alloc_some _ (A.out j u hj)
 case qc3=>exact h1
 case qc4=>rw[Nat.zero_add];exact hn
 case qc5=>rw[Nat.zero_add];exact hbig
 case qc6=>simp
 intro v' w1 hown hgrow hnil
 go_wp2
 go_ret
 refine⟨v',rfl,by simpa using hown,?_,?_⟩
 ·exact hnil
 ·exact((Below.refl _ w).alloc (Nat.le_refl _) _).grown hgrow (by simp) (by intro k hk;simp[Value.ownBlock] at hk;omega)
end Go.Proofs
namespace Go.Vi
open Go.Proofs.Ytojbjnpkdlfijaa.Ir
open Go.Proofs
theorem flatI (l:List Int):flatA (.i .i64) l=l.map fun x=>AV.sc (.int .i64 x):=by
 unfold flatA
 induction l with
 |nil=>rfl
 |cons x l ih=>rw[List.flatMap_cons,ih];rfl
theorem ownRowI {A:Clr} {w:World} {σ:Sig} {l:List Int} {e:TypeId} (hS:SimO A w σ [.cells (l.map fun x=>AV.sc (.int .i64 x)) e 1 true]) (hl:1≤l.length):
  ∃b cap arr,σ=[some (b,cap)]∧cap≤maxLen∧w.heap[b]?=some (.cells arr e (0,0))∧arr.size=cap∧l.length≤cap∧arr.toList.take l.length=l.map (Value.int .i64):=by
 have ho:=hS.obj 0 _ rfl
 simp only[ObjOK] at ho
 obtain⟨_,_,h|⟨b,cap,arr,h1,h2,h3,h4,h5,h6⟩⟩:=ho
 ·rw[List.map_eq_nil_iff] at h
  rw[h.2] at hl
  simp at hl
 ·have hs:=hS.len
  simp at hs
  have h5':l.length≤arr.size:=by simpa using h5
  refine⟨b,cap,arr,?_,h2,h3,by omega,by omega,?_⟩
  ·match σ,hs,h1 with
   |[x],_,h1=>simp at h1;rw[h1]
  ·apply List.ext_getElem?
   intro j
   by_cases hj:j<l.length
   ·obtain⟨v,hv,hr⟩:=h6 j (.sc (.int .i64 l[j])) (by simp[hj])
    simp only[Rep] at hr
    rw[List.getElem?_take_of_lt hj,Array.getElem?_toList,hv,hr.1]
    simp[hj]
   ·rw[List.getElem?_take_eq_none (by omega),List.getElem?_eq_none (by simp;omega)]
def sortI (l:List Int):List Int:=l.mergeSort fun x y=>decide (x≤y)
theorem sortI_len {l:List Int}:(sortI l).length=l.length:=(List.mergeSort_perm _ _).length_eq
def r337:OCtr where
 f:=48
 α:=Nat×List Int
 put a:=[.ow 0 a.1 1]
 st a:=[.row (.i .i64) a.2 3 true]
 dec v o:=match v,o with
  |[.ow 0 n 1],[.row t l 3 true]=>match castL t (.i .i64) l with
   |some l=>some (n,l)
   |_=>none
  |_,_=>none
 ok v o a h:=by
  split at h
  ·split at h
   ·rename_i h4
    simp only[Option.some.injEq] at h;subst h
    obtain⟨rfl,hh⟩:=castL_eq h4
    cases hh
    exact⟨rfl,rfl⟩
   ·cases h
  ·cases h
 inj a b e1 e2:=by
  obtain⟨n,l⟩:=a
  obtain⟨n',l'⟩:=b
  simp only[gL,List.cons.injEq,SV.g,AV.os.injEq,true_and] at e1
  simp only[gO,List.map_cons,List.map_nil,SObj.g,List.cons.injEq,AObj.cells.injEq,and_true,true_and] at e2
  have h4:l=l':=by
   have hf:=congrArg List.length e2
   rw[flatA_len,flatA_len] at hf
   exact flatA_inj (.i .i64) (by simpa[SId.sz] using hf) e2
  rw[e1.1.1,h4]
 dom a:=a.1=a.2.length∧1≤a.2.length∧a.2.length≤1000000
 res _:=.tup []
 out a:=[.row (.i .i64) (sortI a.2) 3 true]
theorem h337:HoldsO Try.prog r337:=by
 rintro⟨n,l⟩ ⟨hn,h1,h2⟩
 simp only at hn h1 h2
 subst hn
 refine⟨by kernel_rfl,?_⟩
 intro A w σ vs hS hR
 have e0:∀m:List Int,gO [SObj.row (.i .i64) m 3 true]=[AObj.cells (m.map fun x=>AV.sc (.int .i64 x)) 3 1 true]:=fun m=>by
  simp only[gO,List.map_cons,List.map_nil,SObj.g,flatI]
  rfl
 have e1:gL (r337.put (l.length,l))=[.os 0 0 l.length (l.length*1)]:=rfl
 show Calls _ _ _ _ fun e w'=>∃u σ',e= .returned u∧SimO A w' σ' (gO [SObj.row (.i .i64) (sortI l) 3 true])∧Rep A w' σ' (gO [SObj.row (.i .i64) (sortI l) 3 true]) (.tup []) u∧Ext w σ (gO [SObj.row (.i .i64) l 3 true]) w' σ' (gO [SObj.row (.i .i64) (sortI l) 3 true])
 replace hS:SimO A w σ (gO [SObj.row (.i .i64) l 3 true]):=hS
 replace hR:RepL A w σ (gO [SObj.row (.i .i64) l 3 true]) (gL (r337.put (l.length,l))) vs:=hR
 rw[e0] at hS hR
 rw[e0,e0]
 rw[e1] at hR
 obtain⟨b,cap,arr,rfl,q2,q3,q4,q5,q6⟩:=ownRowI hS h1
 simp only[RepL] at hR
 obtain⟨v,r,rfl,hv,rfl⟩:=hR
 simp only[Rep] at hv
 obtain⟨hle,a,cp,rfl,hcp,hos⟩:=hv
 have ho:=hos 1 ⟨_,_,_,rfl,by simp⟩
 simp only[OsOk,List.getElem?_cons_zero] at ho
 obtain⟨rfl,rfl⟩:=ho.2.1 trivial trivial (by omega)
 have hb:b<w.heap.size:=hS.bnd 0 b cp rfl
 have hH:=holds_of_blockI (ss:=l) q3 q6
 have hc:Calls Try.prog (r337).f #[.slice (some ⟨b,0,none⟩) l.length cp] w fun e w'=>e= .returned (.tuple #[])∧∃n os,w'=Sort.grow (Sort.putRow (Value.int .i64) (Sort.ahead w n) b 0 (sortI l).toArray) os:=
  calls_of_every_depth fun D=>AnyS.slices_Sort_int_in Try.layS D b 0 cp l w hH hb (by omega)
 refine Calls.mono hc ?_
 rintro e w' ⟨rfl,n,os,rfl⟩
 have hg:=grownBy_sortedI (w:=w) (g:=b) (n:=n) (os:=os) (sortI l).toArray
 have hh:=heap_sortedI (w:=w) (n:=n) (os:=os) (sortI l).toArray q3
 have ht:=take_putCellsI arr (sortI l) (by rw[sortI_len];omega)
 have hz:(Sort.putCells (Value.int .i64) 0 (sortI l).toArray arr).size=arr.size:=by simp[Sort.putCells]
 generalize Sort.grow (Sort.putRow (Value.int .i64) (Sort.ahead w n) b 0 (sortI l).toArray) os=w' at*
 generalize Sort.putCells (Value.int .i64) 0 (sortI l).toArray arr=arr' at*
 have hU:=hS.upd (w':=w') (id:=0) (x':=.cells ((sortI l).map fun x=>AV.sc (.int .i64 x)) 3 1 true) (s':=some (b,cp)) rfl hg.size hg.os hg.tape hg.output
  (fun k hk hn=>hg.block k hk fun e=>by injection e with e;subst e;exact hn cp rfl) (fun b' c' e=>by injection e with e;injection e with e1 e2;subst e1;exact .inl ⟨cp,rfl⟩)
  ⟨_,_,_,rfl,by simp[sortI_len],fun _=>rfl⟩ ?_
 ·refine⟨_,[some (b,cp)],rfl,hU.1,?_,hU.2⟩
  simp only[Rep]
  exact⟨#[],rfl,by simp[RepL]⟩
 ·intro hx
  simp only[ObjOK]
  refine⟨fun _=>by rw[←flatI];exact flatA_pure _ _,by rw[←flatI];exact flatA_one _ _,.inr ⟨b,cp,arr',rfl,q2,hh,by omega,by simp[sortI_len];omega,?_⟩⟩
  intro j c hj
  rw[List.getElem?_map] at hj
  obtain⟨x,hx1,rfl⟩:=Option.map_eq_some_iff.1 hj
  have hjl:=(List.getElem?_eq_some_iff.1 hx1).1
  refine⟨.int .i64 x,?_,by simp[Rep,Value.oneCell']⟩
  have h9:(arr'.toList.take (sortI l).length)[j]?=((sortI l).map (Value.int .i64))[j]?:=by rw[ht]
  rw[List.getElem?_take_of_lt hjl,Array.getElem?_toList,List.getElem?_map,hx1] at h9
  exact h9
theorem cloneC {A:Clr} {w:World} {l:List Int} {vs:List Value} {fid:FuncId} (hfid:fid=Try.layC_ren.f 41) (hS:SimO A w [] []) (hl:l.length≤1000000) (hR:RepL A w [] [] [.sl l.length (l.map fun x=>AV.sc (.int .i64 x))] vs):
  Calls Try.prog fid vs.toArray w fun e w'=>RowKit.Below w.heap.size w w'∧((e= .returned (.slice none 0 0)∧l=[])∨∃g cap cur,e= .returned (.slice (some ⟨g,0,none⟩) l.length cap)∧w.heap.size≤g∧w'.heap[g]?=some (.cells cur 3 (0,0))∧l.length≤cap∧cap≤maxLen∧cur.size=cap∧cur.toList.take l.length=l.map (Value.int .i64)):=by
 subst hfid
 simp only[RepL] at hR
 obtain⟨v,r,rfl,hv,rfl⟩:=hR
 simp only[Rep] at hv
 obtain⟨a,cap,rfl,hcap,_,hM⟩:=hv
 cases a with
 |none=>
  have hnil:l=[]:=by
   cases l with
   |nil=>rfl
   |cons x l=>
    simp only[List.map_cons,RepM] at hM
    obtain⟨⟨b,_,e,_⟩,_⟩:=hM
    cases e
  refine Calls.mono (AnyE.slices_Clone_nil Try.layC l.length cap w) ?_
  rintro e w' ⟨rfl,rfl⟩
  exact⟨RowKit.Below.refl _ _,.inl ⟨rfl,hnil⟩⟩
 |some p=>
  have hc:∀j u,(l.map (Value.int .i64))[j]?=some u→w.cell? (p.add j)=some u:=by
   intro j u hj
   rw[List.getElem?_map] at hj
   obtain⟨x,hx,rfl⟩:=Option.map_eq_some_iff.1 hj
   obtain⟨b,v,e,_,hcell,hrep⟩:=RepM.get _ _ _ hM j (.sc (.int .i64 x)) (by simp[hx])
   injection e with e
   subst e
   simp only[Rep] at hrep
   rw[Nat.zero_add,hrep.1] at hcell
   exact hcell
  refine Calls.mono (cloneW Try.layC Try.t3 (.int .i64 0) 1 8 (by kernel_rfl) (by kernel_rfl) (by kernel_rfl) (by kernel_rfl) (by kernel_rfl) (by omega) Try.sizeOf3 p l.length cap (l.map (Value.int .i64)) w (by simp) (by have:maxLen=9223372036854775807:=rfl;omega) (by omega) hc (by simp[Value.oneCell'])) ?_
  rintro e w' ⟨v',rfl,hown,hne,hbel⟩
  refine⟨hbel,.inr ?_⟩
  obtain⟨_,h|⟨g,cap',cur,rfl,h1,h2,h3,h4,h5,h6⟩⟩:=hown
  ·exact absurd h.1 hne
  ·exact⟨g,cap',cur,rfl,h1,h2,h3,h4,by omega,by simpa using h6⟩
def r330:SCtr:=⟨36,List Int,.one (codR (.i .i64)),fun l=>l.length≤1000000,fun l=> .row (.i .i64) l⟩
theorem h330:Holds Try.prog r330:=by
 intro(l:List Int) (hl:l.length≤1000000)
 refine⟨by kernel_rfl,?_⟩
 intro A w σ vs hS hR
 have hσ:σ=[]:=by have:=hS.len;simpa using this
 subst hσ
 have e1:gL (r330.A.put l)=[.sl l.length (l.map fun x=>AV.sc (.int .i64 x))]:=by rw[←flatI];rfl
 have e2:(r330.res l).g= .sl l.length (l.map fun x=>AV.sc (.int .i64 x)):=by rw[←flatI];rfl
 rw[e1] at hR
 rw[e2]
 refine Calls.mono (cloneC (by rfl) hS hl hR) ?_
 rintro e w' ⟨hb,h⟩
 have hS':SimO A w' [] []:=⟨rfl,by simp,by simp,by simp,by simp,fun b h=>Nat.lt_of_lt_of_le (hS.avb b h) hb.size⟩
 have hE:Ext w [] [] w' [] []:=⟨hb.size,fun b h _=>⟨hb.block b h,fun⟨i,c,hi⟩=>by simp at hi⟩,Nat.le_refl _,fun _ _ ⟨_,_,_,_,h,_⟩=>by simp at h,fun _ ⟨_,_,_,h⟩=>by simp at h,hb.os,hb.tape,hb.output⟩
 rcases h with⟨rfl,rfl⟩|⟨g,cap,cur,rfl,h1,h2,h3,h4,h5,h6⟩
 ·exact⟨_,[],rfl,hS',by simp only[Rep];exact⟨none,0,rfl,by simp,by rw[←flatI];exact flatA_pure _ _,by simp[RepM]⟩,hE⟩
 ·refine⟨_,[],rfl,hS',?_,hE⟩
  simp only[Rep]
  refine⟨_,_,rfl,h3,by rw[←flatI];exact flatA_pure _ _,RepM.of_get _ _ _ fun i c hi=>?_⟩
  rw[List.getElem?_map] at hi
  obtain⟨x,hx,rfl⟩:=Option.map_eq_some_iff.1 hi
  have hil:=(List.getElem?_eq_some_iff.1 hx).1
  have h9:(cur.toList.take l.length)[i]?=(l.map (Value.int .i64))[i]?:=by rw[h6]
  rw[List.getElem?_take_of_lt hil,Array.getElem?_toList,List.getElem?_map,hx] at h9
  refine⟨⟨g,0,none⟩,.int .i64 x,rfl,⟨fun⟨i,c,hi⟩=>by simp at hi,fun hA=>by have:=hS.avb g hA;omega⟩,?_,by simp[Rep,Value.oneCell']⟩
  rw[Addr.add_lit]
  simp only[World.cell?,h2,Nat.zero_add,Option.isSome_none,Bool.false_eq_true,if_false]
  exact h9
def r330o:OCtr where
 f:=36
 α:=List Int
 put a:=[.row (.i .i64) a]
 st a:=[]
 dec v o:=match v,o with
  |[.row t l],[]=>castL t (.i .i64) l
  |_,_=>none
 ok v o a h:=by
  split at h
  ·obtain⟨rfl,hh⟩:=castL_eq h
   cases hh
   exact⟨rfl,rfl⟩
  ·cases h
 inj a b e1 e2:=by
  simp only[gL,List.cons.injEq,SV.g,AV.sl.injEq,and_true] at e1
  exact flatA_inj (.i .i64) (by simpa using e1.1) e1.2
 dom a:=a.length≤1000000
 res a:=.ow 0 a.length 1
 out a:=[.row (.i .i64) a 3 true]
theorem h330o:HoldsO Try.prog r330o:=by
 intro(l:List Int) (hl:l.length≤1000000)
 refine⟨by kernel_rfl,?_⟩
 intro A w σ vs hS hR
 replace hS:SimO A w σ []:=hS
 replace hR:RepL A w σ [] (gL (r330o.put l)) vs:=hR
 have hσ:σ=[]:=by have:=hS.len;simpa using this
 subst hσ
 have e1:gL (r330o.put l)=[.sl l.length (l.map fun x=>AV.sc (.int .i64 x))]:=by rw[←flatI];rfl
 have e2:(r330o.res l).g= .os 0 0 l.length (l.length*1):=rfl
 have e3:gO (r330o.out l)=[AObj.cells (l.map fun x=>AV.sc (.int .i64 x)) 3 1 true]:=by rw[←flatI];rfl
 rw[e1] at hR
 rw[e2,e3]
 show Calls _ _ _ _ fun e w'=>∃u σ',e= .returned u∧SimO A w' σ' [AObj.cells (l.map fun x=>AV.sc (.int .i64 x)) 3 1 true]∧Rep A w' σ' [AObj.cells (l.map fun x=>AV.sc (.int .i64 x)) 3 1 true] (.os 0 0 l.length (l.length*1)) u∧Ext w [] [] w' σ' [AObj.cells (l.map fun x=>AV.sc (.int .i64 x)) 3 1 true]
 refine Calls.mono (cloneC (by rfl) hS hl hR) ?_
 rintro e w' ⟨hb,h⟩
 have hle:LenLe [AObj.cells (l.map fun x=>AV.sc (.int .i64 x)) 3 1 true] 0 (l.length*1):=⟨_,_,_,_,rfl,by simp⟩
 rcases h with⟨rfl,rfl⟩|⟨g,cap,cur,rfl,h1,h2,h3,h4,h5,h6⟩
 ·refine⟨_,[none],rfl,⟨rfl,?_,?_,?_,?_,fun b h=>Nat.lt_of_lt_of_le (hS.avb b h) hb.size⟩,?_,hb.size,fun b h _=>⟨hb.block b h,?_⟩,Nat.zero_le _,fun _ _ ⟨_,_,_,_,h,_⟩=>by simp at h,fun _ ⟨_,_,_,h⟩=>by simp at h,hb.os,hb.tape,hb.output⟩
  ·intro i j b c d hi;cases i<;>simp at hi
  ·intro i b c hi;cases i<;>simp at hi
  ·intro i x hi
   cases i with
   |zero=>
    simp at hi;subst hi
    simp only[ObjOK]
    exact⟨fun _=>rfl,rfl,.inl (by simp)⟩
   |succ i=>simp at hi
  ·intro i b c hi;cases i<;>simp at hi
  ·simp only[Rep]
   exact⟨hle,none,0,rfl,by simp,fun sz _=>by simp[OsOk]⟩
  ·rintro⟨i,c,hi⟩;cases i<;>simp at hi
 ·have hg:g<w'.heap.size:=(Array.getElem?_eq_some_iff.1 h2).1
  refine⟨_,[some (g,cap)],rfl,⟨rfl,?_,?_,?_,?_,fun b h=>Nat.lt_of_lt_of_le (hS.avb b h) hb.size⟩,?_,hb.size,fun b h _=>⟨hb.block b h,?_⟩,Nat.zero_le _,fun _ _ ⟨_,_,_,_,h,_⟩=>by simp at h,fun _ ⟨_,_,_,h⟩=>by simp at h,hb.os,hb.tape,hb.output⟩
  ·intro i j b c d hi hj
   cases i with
   |zero=>cases j with
    |zero=>rfl
    |succ j=>simp at hj
   |succ i=>simp at hi
  ·intro i b c hi
   cases i with
   |zero=>simp at hi;omega
   |succ i=>simp at hi
  ·intro i x hi
   cases i with
   |zero=>
    simp at hi;subst hi
    simp only[ObjOK]
    refine⟨fun _=>by rw[←flatI];exact flatA_pure _ _,by rw[←flatI];exact flatA_one _ _,.inr ⟨g,cap,cur,rfl,h4,h2,by omega,by simp;omega,?_⟩⟩
    intro j c hj
    rw[List.getElem?_map] at hj
    obtain⟨x,hx1,rfl⟩:=Option.map_eq_some_iff.1 hj
    have hjl:=(List.getElem?_eq_some_iff.1 hx1).1
    refine⟨.int .i64 x,?_,by simp[Rep,Value.oneCell']⟩
    have h9:(cur.toList.take l.length)[j]?=(l.map (Value.int .i64))[j]?:=by rw[h6]
    rw[List.getElem?_take_of_lt hjl,Array.getElem?_toList,List.getElem?_map,hx1] at h9
    exact h9
   |succ i=>simp at hi
  ·intro i b c hi
   cases i with
   |zero=>
    simp at hi
    intro hA
    have:=hS.avb b hA
    omega
   |succ i=>simp at hi
  ·simp only[Rep]
   refine⟨hle,_,_,rfl,h3,fun sz hc=>?_⟩
   obtain⟨_,_,_,hc,_⟩:=hc
   simp at hc
   obtain⟨_,_,rfl,_⟩:=hc
   simp only[OsOk,List.getElem?_cons_zero]
   exact⟨fun _=>by rw[offR_le (Nat.zero_le _)],fun _ _ _=>by simp,.inl ⟨by omega,by omega⟩⟩
  ·rintro⟨i,c,hi⟩
   cases i with
   |zero=>simp at hi;omega
   |succ i=>simp at hi
def cutI (l:List Int) (i j:Nat):List Int:=l.take i++l.drop j++List.replicate (j - i) 0
theorem cutI_len {l:List Int} {i j:Nat} (h1:i≤j) (h2:j≤l.length):(cutI l i j).length=l.length:=by
 unfold cutI
 rw[List.length_append,List.length_append,List.length_take,List.length_drop,List.length_replicate]
 omega
def r347:OCtr where
 f:=66
 α:=(Nat×List Int)×Int×Int
 put a:=[.ow 0 a.1.1 1,.si .i64 a.2.1,.si .i64 a.2.2]
 st a:=[.row (.i .i64) a.1.2 3 true]
 dec v o:=match v,o with
  |[.ow 0 n 1,x,y],[.row t l 3 true]=>match castL t (.i .i64) l,x.int .i64,y.int .i64 with
   |some l,some i,some j=>some ((n,l),i,j)
   |_,_,_=>none
  |_,_=>none
 ok v o a h:=by
  split at h
  ·split at h
   ·rename_i h4 h5 h6
    simp only[Option.some.injEq] at h;subst h
    obtain⟨rfl,hh⟩:=castL_eq h4
    cases hh
    refine⟨?_,rfl⟩
    simp only[gL,int_g h5,int_g h6]
    rfl
   ·cases h
  ·cases h
 inj a b e1 e2:=by
  obtain⟨⟨n,l⟩,i,j⟩:=a
  obtain⟨⟨n',l'⟩,i',j'⟩:=b
  simp only[gL,List.cons.injEq,SV.g,AV.os.injEq,true_and,and_true,AV.sc.injEq,Value.int.injEq] at e1
  simp only[gO,List.map_cons,List.map_nil,SObj.g,List.cons.injEq,AObj.cells.injEq,and_true,true_and] at e2
  have h4:l=l':=by
   have hf:=congrArg List.length e2
   rw[flatA_len,flatA_len] at hf
   exact flatA_inj (.i .i64) (by simpa[SId.sz] using hf) e2
  rw[e1.1.1,h4,e1.2.1,e1.2.2]
 dom a:=(a.1.1=a.1.2.length∧1≤a.1.2.length∧a.1.2.length≤1000000)∧0≤a.2.1∧a.2.1≤a.2.2∧a.2.2≤a.1.2.length
 res a:=.os 0 0 (a.1.2.length - (a.2.2 - a.2.1).toNat) a.1.1 1
 out a:=[.row (.i .i64) (cutI a.1.2 a.2.1.toNat a.2.2.toNat) 3 true]
theorem h347:HoldsO Try.prog r347:=by
 rintro⟨⟨n,l⟩,i,j⟩ ⟨⟨hn,h1,h2⟩,i0,ij,jl⟩
 simp only at hn h1 h2 i0 ij jl
 subst hn
 obtain⟨i,rfl⟩:∃k:Nat,i=k:=⟨i.toNat,by omega⟩
 obtain⟨j,rfl⟩:∃k:Nat,j=k:=⟨j.toNat,by omega⟩
 refine⟨by kernel_rfl,?_⟩
 intro A w σ vs hS hR
 have e0:∀m:List Int,gO [SObj.row (.i .i64) m 3 true]=[AObj.cells (m.map fun x=>AV.sc (.int .i64 x)) 3 1 true]:=fun m=>by
  simp only[gO,List.map_cons,List.map_nil,SObj.g,flatI]
  rfl
 have e1:gL (r347.put ((l.length,l),(i:Int),(j:Int)))=[.os 0 0 l.length (l.length*1),.sc (.int .i64 i),.sc (.int .i64 j)]:=rfl
 have e2:(r347.res ((l.length,l),(i:Int),(j:Int))).g= .os 0 0 (l.length - (j - i)) (l.length*1):=by
  show AV.os 0 (0*1) (l.length - ((j:Int) - (i:Int)).toNat) (l.length*1)=_
  rw[Nat.zero_mul,show((j:Int) - (i:Int)).toNat=j - i by omega]
 show Calls _ _ _ _ fun e w'=>∃u σ',e= .returned u∧SimO A w' σ' (gO [SObj.row (.i .i64) (cutI l i j) 3 true])∧Rep A w' σ' (gO [SObj.row (.i .i64) (cutI l i j) 3 true]) (r347.res ((l.length,l),(i:Int),(j:Int))).g u∧Ext w σ (gO [SObj.row (.i .i64) l 3 true]) w' σ' (gO [SObj.row (.i .i64) (cutI l i j) 3 true])
 replace hS:SimO A w σ (gO [SObj.row (.i .i64) l 3 true]):=hS
 replace hR:RepL A w σ (gO [SObj.row (.i .i64) l 3 true]) (gL (r347.put ((l.length,l),(i:Int),(j:Int)))) vs:=hR
 rw[e0] at hS hR
 rw[e0,e0,e2]
 rw[e1] at hR
 obtain⟨b,cap,arr,rfl,q2,q3,q4,q5,q6⟩:=ownRowI hS h1
 simp only[RepL] at hR
 obtain⟨v,r,rfl,hv,v2,r2,rfl,hv2,v3,r3,rfl,hv3,rfl⟩:=hR
 simp only[Rep] at hv hv2 hv3
 obtain⟨hle,a,cp,rfl,hcp,hos⟩:=hv
 obtain⟨rfl,_⟩:=hv2
 obtain⟨rfl,_⟩:=hv3
 have ho:=hos 1 ⟨_,_,_,rfl,by simp⟩
 simp only[OsOk,List.getElem?_cons_zero] at ho
 obtain⟨rfl,rfl⟩:=ho.2.1 trivial trivial (by omega)
 have hb:b<w.heap.size:=hS.bnd 0 b cp rfl
 have hH:=holds_of_blockI (ss:=l) q3 q6
 have hmx:maxLen=9223372036854775807:=rfl
 have hdl:=@cutI_len l i j (by omega) (by omega)
 have hc:Calls Try.prog (r347).f #[.slice (some ⟨b,0,none⟩) l.length cp,.int .i64 i,.int .i64 j] w fun e w'=>e= .returned (.slice (some ⟨b,0,none⟩) (l.length - (j - i)) cp)∧∃q,w'=Sort.putRow (Value.int .i64) (Sort.ahead w q) b 0 (cutI l i j).toArray:=by
  exact AnyE.slices_Delete Try.layD (Value.int .i64) (fun _=>rfl) 0 Try.zeroValue3 Try.t3 (by kernel_rfl) (by kernel_rfl) b 0 cp i j l.toArray w hH (by simpa using q5) (by omega) (by omega) (by simp;omega)
 refine Calls.mono hc ?_
 rintro e w' ⟨rfl,q,rfl⟩
 have hg:=grownBy_sortedI (w:=w) (g:=b) (n:=q) (os:=#[]) (cutI l i j).toArray
 have hh:=heap_sortedI (w:=w) (n:=q) (os:=#[]) (cutI l i j).toArray q3
 rw[Sort.grow_empty] at hg hh
 have ht:=take_putCellsI arr (cutI l i j) (by omega)
 have hz:(Sort.putCells (Value.int .i64) 0 (cutI l i j).toArray arr).size=arr.size:=by simp[Sort.putCells]
 generalize Sort.putRow (Value.int .i64) (Sort.ahead w q) b 0 (cutI l i j).toArray=w' at*
 generalize Sort.putCells (Value.int .i64) 0 (cutI l i j).toArray arr=arr' at*
 have hU:=hS.upd (w':=w') (id:=0) (x':=.cells ((cutI l i j).map fun x=>AV.sc (.int .i64 x)) 3 1 true) (s':=some (b,cp)) rfl hg.size hg.os hg.tape hg.output
  (fun k hk hn=>hg.block k hk fun e=>by injection e with e;subst e;exact hn cp rfl) (fun b' c' e=>by injection e with e;injection e with e1 e2;subst e1;exact .inl ⟨cp,rfl⟩)
  ⟨_,_,_,rfl,by simp[hdl],fun _=>rfl⟩ ?_
 ·refine⟨_,[some (b,cp)],rfl,hU.1,?_,hU.2⟩
  simp only[Rep]
  refine⟨⟨_,_,_,_,rfl,by simp[hdl]⟩,_,_,rfl,by omega,fun sz hc=>?_⟩
  obtain⟨_,_,_,hc,_⟩:=hc
  simp at hc
  obtain⟨_,_,rfl,_⟩:=hc
  simp only[OsOk,List.getElem?_cons_zero]
  exact⟨fun _=>by rw[offR_le (Nat.zero_le _)],fun _ _ _=>by simp,.inl ⟨by omega,by omega⟩⟩
 ·intro hx
  simp only[ObjOK]
  refine⟨fun _=>by rw[←flatI];exact flatA_pure _ _,by rw[←flatI];exact flatA_one _ _,.inr ⟨b,cp,arr',rfl,q2,hh,by omega,by simp[hdl];omega,?_⟩⟩
  intro k c hj
  rw[List.getElem?_map] at hj
  obtain⟨x,hx1,rfl⟩:=Option.map_eq_some_iff.1 hj
  have hjl:=(List.getElem?_eq_some_iff.1 hx1).1
  refine⟨.int .i64 x,?_,by simp[Rep,Value.oneCell']⟩
  have h9:(arr'.toList.take (cutI l i j).length)[k]?=((cutI l i j).map (Value.int .i64))[k]?:=by rw[ht]
  rw[List.getElem?_take_of_lt hjl,Array.getElem?_toList,List.getElem?_map,hx1] at h9
  exact h9
def p3:Prob:=⟨⟨1,1,0,0,0,0⟩,⟨1,1,0,0,0,0⟩,⟨0,0,0,0,0,0⟩,[0,0,0],[⟨0,⟨1,1,0,0,0,0⟩,10⟩,⟨1,⟨1,0,0,0,0,0⟩,6⟩,⟨2,⟨0,1,0,0,0,0⟩,6⟩]⟩
def leD (D:Int→Int) (x y:Int):Bool:=decide (D y<D x)||(decide (D x=D y)&&decide (x≤y))
theorem leD_iff {D:Int→Int} {x y:Int}:leD D x y=true↔D y<D x∨(D x=D y∧x≤y):=by unfold leD;simp
theorem leD_trans {D:Int→Int} (a b c:Int) (h1:leD D a b=true) (h2:leD D b c=true):leD D a c=true:=by
 rw[leD_iff] at*
 rcases h1 with h1|⟨h1,k1⟩
 ·rcases h2 with h2|⟨h2,k2⟩
  ·exact .inl (by omega)
  ·exact .inl (by omega)
 ·rcases h2 with h2|⟨h2,k2⟩
  ·exact .inl (by omega)
  ·exact .inr ⟨by omega,by omega⟩
theorem leD_total {D:Int→Int} (a b:Int):(leD D a b||leD D b a)=true:=by
 rw[Bool.or_eq_true,leD_iff,leD_iff]
 by_cases h1:D b<D a
 ·exact .inl (.inl h1)
 ·by_cases h2:D a<D b
  ·exact .inr (.inl h2)
  ·have h3:D a=D b:=by omega
   by_cases h4:a≤b
   ·exact .inl (.inr ⟨h3,h4⟩)
   ·exact .inr (.inr ⟨h3.symm,by omega⟩)
theorem leD_anti {D:Int→Int} {a b:Int} (h1:leD D a b=true) (h2:leD D b a=true):a=b:=by
 rw[leD_iff] at*
 rcases h1 with h1|⟨h1,k1⟩
 ·rcases h2 with h2|⟨h2,k2⟩
  ·exact absurd h1 (by omega)
  ·exact absurd h1 (by omega)
 ·rcases h2 with h2|⟨h2,k2⟩
  ·exact absurd h2 (by omega)
  ·omega
abbrev Srt (D:Int→Int) (l:List Int):Prop:=l.Pairwise fun a b=>leD D a b=true
def srt (D:Int→Int) (l:List Int):List Int:=l.mergeSort (leD D)
theorem srt_perm {D:Int→Int} {l:List Int}:(srt D l).Perm l:=List.mergeSort_perm _ _
theorem srt_srt {D:Int→Int} {l:List Int}:Srt D (srt D l):=List.pairwise_mergeSort leD_trans leD_total l
theorem srt_len {D:Int→Int} {l:List Int}:(srt D l).length=l.length:=srt_perm.length_eq
theorem srt_mem {D:Int→Int} {l:List Int} {x:Int}:x∈srt D l↔x∈l:=srt_perm.mem_iff
theorem srt_eq {D:Int→Int} {l m:List Int} (hp:m.Perm l) (hs:Srt D m):m=srt D l:=
 List.Perm.eq_of_pairwise (fun a b _ _ h1 h2=>leD_anti h1 h2) hs srt_srt (hp.trans srt_perm.symm)
theorem srt_of {D:Int→Int} {l:List Int} (h:Srt D l):srt D l=l:=(srt_eq (List.Perm.refl _) h).symm
def seg (l:List Int) (a b:Nat):List Int:=(l.drop a).take (b - a)
def srtP (D:Int→Int) (l:List Int) (a b:Nat):List Int:=l.take a++srt D (seg l a b)++l.drop b
theorem seg_len {l:List Int} {a b:Nat} (h1:a≤b) (h2:b≤l.length):(seg l a b).length=b - a:=by
 unfold seg
 rw[List.length_take,List.length_drop]
 omega
theorem seg_succ {l:List Int} {a b:Nat} (h1:a≤b) (h2:b<l.length):seg l a (b+1)=seg l a b++[nthD l b 0]:=by
 unfold seg
 rw[show b+1 - a=(b - a)+1 by omega,List.take_succ_eq_append_getElem (by rw[List.length_drop];omega),List.getElem_drop]
 congr 2
 rw[nthD_eq h2]
 congr 1
 omega
theorem seg_nil {l:List Int} {a:Nat}:seg l a a=[]:=by unfold seg;simp
theorem srtP_len {D:Int→Int} {l:List Int} {a b:Nat} (h1:a≤b) (h2:b≤l.length):(srtP D l a b).length=l.length:=by
 unfold srtP
 rw[List.length_append,List.length_append,srt_len,seg_len h1 h2,List.length_take,List.length_drop]
 omega
theorem drop_nthI {l:List Int} {i:Nat} (h:i<l.length):l.drop i=nthD l i 0::l.drop (i+1):=by
 rw[List.drop_eq_getElem_cons h,nthD_eq h]
theorem srtP_nil {D:Int→Int} {l:List Int} {a:Nat}:srtP D l a a=l:=by
 unfold srtP
 rw[seg_nil]
 simp[srt]
theorem srtP_one {D:Int→Int} {l:List Int} {a:Nat} (h:a<l.length):srtP D l a (a+1)=l:=by
 have e:seg l a (a+1)=[nthD l a 0]:=by rw[seg_succ (Nat.le_refl _) h,seg_nil];rfl
 unfold srtP
 rw[e,srt_of (by simp),List.append_assoc]
 simp only[List.singleton_append]
 rw[←drop_nthI h,List.take_append_drop]
def insP (D:Int→Int) (l:List Int) (a i j:Nat):List Int:=l.take a++((srt D (seg l a i)).take (j - a)++nthD l i 0::(srt D (seg l a i)).drop (j - a))++l.drop (i+1)
theorem insP_len {D:Int→Int} {l:List Int} {a i j:Nat} (h1:a≤i) (h2:i<l.length):(insP D l a i j).length=l.length:=by
 have hs:=@srt_len D (seg l a i)
 rw[seg_len h1 (by omega)] at hs
 unfold insP
 simp only[List.length_append,List.length_cons,List.length_take,List.length_drop,hs]
 omega
theorem insP_start {D:Int→Int} {l:List Int} {a i:Nat} (h1:a≤i) (h2:i<l.length):insP D l a i i=srtP D l a i:=by
 have hs:=@srt_len D (seg l a i)
 rw[seg_len h1 (by omega)] at hs
 have e1:(srt D (seg l a i)).take (i - a)=srt D (seg l a i):=List.take_of_length_le (by omega)
 have e2:(srt D (seg l a i)).drop (i - a)=[]:=List.drop_of_length_le (by omega)
 unfold insP srtP
 rw[e1,e2,drop_nthI h2]
 simp
theorem swap_at {A B:List Int} {y x:Int}:((A++y::x::B).set (A.length+1) y).set A.length x=A++x::y::B:=by
 rw[List.set_append_right _ _ (by omega),List.set_append_right _ _ (by omega)]
 simp
theorem nth_app {A B:List Int} {y:Int}:nthD (A++y::B) A.length 0=y:=by unfold nthD;simp
theorem nth_app1 {A B:List Int} {y x:Int}:nthD (A++y::x::B) (A.length+1) 0=x:=by unfold nthD;simp
theorem insP_form {D:Int→Int} {l:List Int} {a i k:Nat} (h1:a+k+1≤i) (h2:i<l.length):
  insP D l a i (a+k+1)=(l.take a++(srt D (seg l a i)).take k)++nthD (srt D (seg l a i)) k 0::nthD l i 0::((srt D (seg l a i)).drop (k+1)++l.drop (i+1))∧
  insP D l a i (a+k)=(l.take a++(srt D (seg l a i)).take k)++nthD l i 0::nthD (srt D (seg l a i)) k 0::((srt D (seg l a i)).drop (k+1)++l.drop (i+1))∧
  (l.take a++(srt D (seg l a i)).take k).length=a+k:=by
 have hs:=@srt_len D (seg l a i)
 rw[seg_len (by omega) (by omega)] at hs
 have hk:k<(srt D (seg l a i)).length:=by omega
 have t1:(srt D (seg l a i)).take (k+1)=(srt D (seg l a i)).take k++[nthD (srt D (seg l a i)) k 0]:=by rw[List.take_succ_eq_append_getElem hk,nthD_eq hk]
 have t2:(srt D (seg l a i)).drop k=nthD (srt D (seg l a i)) k 0::(srt D (seg l a i)).drop (k+1):=by rw[List.drop_eq_getElem_cons hk,nthD_eq hk]
 unfold insP
 rw[show a+k+1 - a=k+1 by omega,show a+k - a=k by omega]
 refine⟨by rw[t1];simp,by rw[t2];simp,?_⟩
 rw[List.length_append,List.length_take,List.length_take]
 omega
theorem insP_at {D:Int→Int} {l:List Int} {a i j:Nat} (h0:a<j) (h1:j≤i) (h2:i<l.length):
  nthD (insP D l a i j) j 0=nthD l i 0∧nthD (insP D l a i j) (j - 1) 0=nthD (srt D (seg l a i)) (j - 1 - a) 0∧
  ((insP D l a i j).set j (nthD (srt D (seg l a i)) (j - 1 - a) 0)).set (j - 1) (nthD l i 0)=insP D l a i (j - 1):=by
 obtain⟨f1,f2,f3⟩:=@insP_form D l a i (j - 1 - a) (by omega) h2
 rw[show a+(j - 1 - a)+1=j by omega] at f1
 rw[show a+(j - 1 - a)=j - 1 by omega] at f2 f3
 rw[f1,f2]
 generalize l.take a++(srt D (seg l a i)).take (j - 1 - a)=A at*
 generalize nthD (srt D (seg l a i)) (j - 1 - a) 0=y at*
 generalize nthD l i 0=x at*
 generalize (srt D (seg l a i)).drop (j - 1 - a+1)++l.drop (i+1)=B at*
 have e1:j=A.length+1:=by omega
 have e2:j - 1=A.length:=by omega
 refine⟨?_,?_,?_⟩
 ·rw[e1]
  exact nth_app1
 ·rw[e2]
  exact nth_app
 ·rw[e2,e1]
  exact swap_at
theorem ins_srt {D:Int→Int} {S:List Int} {x:Int} {k:Nat} (hS:Srt D S) (h1:∀s∈S.drop k,leD D x s=true) (h2:k=0∨(k≤S.length∧leD D (nthD S (k - 1) 0) x=true)):Srt D (S.take k++x::S.drop k):=by
 have hsplit:Srt D (S.take k++S.drop k):=by rw[List.take_append_drop];exact hS
 obtain⟨p1,p2,p3⟩:=List.pairwise_append.1 hsplit
 have hx:∀s∈S.take k,leD D s x=true:=by
  rcases h2 with rfl|⟨hk,h2⟩
  ·simp
  ·intro s hs
   by_cases h0:k=0
   ·subst h0;simp at hs
   have hk1:k - 1<S.length:=by omega
   have e:S.take k=S.take (k - 1)++[nthD S (k - 1) 0]:=by
    conv=>lhs;rw[show k=(k - 1)+1 by omega]
    rw[List.take_succ_eq_append_getElem hk1,nthD_eq hk1]
   rw[e] at hs p1
   rcases List.mem_append.1 hs with hs|hs
   ·exact leD_trans _ _ _ ((List.pairwise_append.1 p1).2.2 s hs _ (by simp)) h2
   ·simp only[List.mem_singleton] at hs
    rw[hs];exact h2
 rw[Srt,List.pairwise_append]
 refine⟨p1,List.pairwise_cons.2 ⟨h1,p2⟩,fun s hs t ht=>?_⟩
 rcases List.mem_cons.1 ht with rfl|ht
 ·exact hx s hs
 ·exact p3 s hs t ht
theorem perm_ins {S:List Int} {x:Int} {k:Nat}:(S.take k++x::S.drop k).Perm (S++[x]):=by
 refine(List.perm_middle).trans ?_
 rw[List.take_append_drop]
 exact(List.perm_append_singleton x S).symm
theorem insP_done {D:Int→Int} {l:List Int} {a i j:Nat} (h0:a≤j) (h1:j≤i) (h2:i<l.length) (h3:∀s∈(srt D (seg l a i)).drop (j - a),leD D (nthD l i 0) s=true) (h4:j=a∨leD D (nthD (srt D (seg l a i)) (j - 1 - a) 0) (nthD l i 0)=true):
  insP D l a i j=srtP D l a (i+1):=by
 have hs:=@srt_len D (seg l a i)
 rw[seg_len (by omega) (by omega)] at hs
 have key:Srt D ((srt D (seg l a i)).take (j - a)++nthD l i 0::(srt D (seg l a i)).drop (j - a)):=by
  refine ins_srt srt_srt h3 ?_
  rcases h4 with rfl|h4
  ·exact .inl (by omega)
  ·exact .inr ⟨by omega,by rw[show j - a - 1=j - 1 - a by omega];exact h4⟩
 have hp:((srt D (seg l a i)).take (j - a)++nthD l i 0::(srt D (seg l a i)).drop (j - a)).Perm (seg l a (i+1)):=by
  rw[seg_succ (by omega) h2]
  exact perm_ins.trans (List.Perm.append srt_perm (List.Perm.refl _))
 unfold insP srtP
 rw[srt_eq hp key]
def swR (l:List Int) (a b n:Nat):List Int:=(List.range l.length).map fun k=>if a≤k∧k<a+n then nthD l (k - a+b) 0 else if b≤k∧k<b+n then nthD l (k - b+a) 0 else nthD l k 0
theorem swR_len {l:List Int} {a b n:Nat}:(swR l a b n).length=l.length:=by simp[swR]
theorem swR_nth {l:List Int} {a b n k:Nat} (h:k<l.length):nthD (swR l a b n) k 0=if a≤k∧k<a+n then nthD l (k - a+b) 0 else if b≤k∧k<b+n then nthD l (k - b+a) 0 else nthD l k 0:=by
 show(((List.range l.length).map _)[k]?).getD 0=_
 rw[List.getElem?_map,List.getElem?_range h]
 rfl
theorem swR_zero {l:List Int} {a b:Nat}:swR l a b 0=l:=by
 apply List.ext_getElem swR_len
 intro k h1 h2
 have:=@swR_nth l a b 0 k h2
 rw[nthD_eq h1,if_neg (by omega),if_neg (by omega),nthD_eq h2] at this
 exact this
theorem ext_nth {l m:List Int} (hl:l.length=m.length) (h:∀k,k<l.length→nthD l k 0=nthD m k 0):l=m:=
 List.ext_getElem hl fun k h1 h2=>by
  have:=h k h1
  rwa [nthD_eq h1,nthD_eq h2] at this
theorem nth_set {l:List Int} {i k:Nat} {v:Int} (h:k<l.length):nthD (l.set i v) k 0=if i=k then v else nthD l k 0:=by
 unfold nthD
 rw[List.getElem?_set]
 by_cases hi:i=k
 ·subst hi;simp[h]
 ·simp[hi]
theorem swR_succ {l:List Int} {a b n:Nat} (h1:a+n<b) (h2:b+n<l.length):
  ((swR l a b n).set (a+n) (nthD (swR l a b n) (b+n) 0)).set (b+n) (nthD (swR l a b n) (a+n) 0)=swR l a b (n+1):=by
 have e1:nthD (swR l a b n) (a+n) 0=nthD l (a+n) 0:=by rw[swR_nth (by omega),if_neg (by omega),if_neg (by omega)]
 have e2:nthD (swR l a b n) (b+n) 0=nthD l (b+n) 0:=by rw[swR_nth (by omega),if_neg (by omega),if_neg (by omega)]
 rw[e1,e2]
 refine ext_nth (by simp[swR_len]) fun k hk=>?_
 simp only[List.length_set,swR_len] at hk
 rw[nth_set (by simp[swR_len];exact hk),nth_set (by simp[swR_len];exact hk),swR_nth hk,swR_nth hk]
 by_cases c1:b+n=k
 ·rw[if_pos c1,if_neg (by omega),if_pos (by omega)]
  congr 1
  omega
 ·rw[if_neg c1]
  by_cases c2:a+n=k
  ·rw[if_pos c2,if_pos (by omega)]
   congr 1
   omega
  ·rw[if_neg c2]
   by_cases c3:a≤k∧k<a+n
   ·rw[if_pos c3,if_pos (by omega)]
   ·have d1:¬(a≤k∧k<a+(n+1)):=by omega
    rw[if_neg c3,if_neg d1]
    by_cases c4:b≤k∧k<b+n
    ·have d2:b≤k∧k<b+(n+1):=by omega
     rw[if_pos c4,if_pos d2]
    ·have d2:¬(b≤k∧k<b+(n+1)):=by omega
     rw[if_neg c4,if_neg d2]
theorem nth_append {A B:List Int} {k:Nat}:nthD (A++B) k 0=if k<A.length then nthD A k 0 else nthD B (k - A.length) 0:=by
 unfold nthD
 rw[List.getElem?_append]
 split<;>rfl
theorem swR_blocks {A X M Y B:List Int} (h:X.length=Y.length):swR (A++(X++(M++(Y++B)))) A.length (A.length+X.length+M.length) X.length=A++(Y++(M++(X++B))):=by
 refine ext_nth (by simp[swR_len];omega) fun k hk=>?_
 rw[swR_len] at hk
 rw[swR_nth hk]
 simp only[nth_append]
 simp only[List.length_append] at hk
 by_cases c1:k<A.length
 ·rw[if_neg (by omega),if_neg (by omega),if_pos c1,if_pos c1]
 by_cases c2:k<A.length+X.length
 ·rw[if_pos (by omega),if_neg (by omega),if_neg (by omega),if_neg (by omega),if_pos (by omega),if_neg c1,if_pos (by omega)]
  congr 1
  omega
 by_cases c3:k<A.length+X.length+M.length
 ·rw[if_neg (by omega),if_neg (by omega),if_neg c1,if_neg (by omega),if_pos (by omega),if_neg c1,if_neg (by omega),if_pos (by omega)]
  congr 1
  omega
 by_cases c4:k<A.length+X.length+M.length+Y.length
 ·rw[if_neg (by omega),if_pos (by omega),if_neg (by omega),if_pos (by omega),if_neg c1,if_neg (by omega),if_neg (by omega),if_pos (by omega)]
  congr 1
  omega
 ·rw[if_neg (by omega),if_neg (by omega),if_neg c1,if_neg (by omega),if_neg (by omega),if_neg (by omega),if_neg c1,if_neg (by omega),if_neg (by omega),if_neg (by omega)]
  congr 1
  omega
def rotR (l:List Int) (a m b:Nat):List Int:=l.take a++(seg l m b++(seg l a m++l.drop b))
theorem split4 {l:List Int} {a m b:Nat} (h1:a≤m) (h2:m≤b) (h3:b≤l.length):l=l.take a++(seg l a m++(seg l m b++l.drop b)):=by
 have e1:l.drop a=seg l a m++l.drop m:=by
  have:=List.take_append_drop (m - a) (l.drop a)
  rw[List.drop_drop,show a+(m - a)=m by omega] at this
  exact this.symm
 have e2:l.drop m=seg l m b++l.drop b:=by
  have:=List.take_append_drop (b - m) (l.drop m)
  rw[List.drop_drop,show m+(b - m)=b by omega] at this
  exact this.symm
 rw[←e2,←e1,List.take_append_drop]
def r334:SCtr:=⟨45,Int,.one (codI .i64),fun _=>True,fun _=> .sb false⟩
theorem h334:Holds Try.prog r334:=by
 refine con (L:=[]) r334 F334 (fun _ _=> .look) (OwnOK.none _) (by simp) (by kernel_rfl) (by kernel_rfl) (fun _=>rfl) ?_
 rintro(x:Int) -
 refine vcOf ((SV.sb (decide (x≠x))).same (SV.sb false)) (by kernel_rfl) ?_
 simp only[vcs]
 simp
def cmpI (x y:Int):Int:=if x<y then -1 else if y<x then 1 else 0
def r321:SCtr:=⟨26,Int×Int,.cons (codI .i64) (.one (codI .i64)),fun _=>True,fun a=> .si .i64 (cmpI a.1 a.2)⟩
theorem h321:Holds Try.prog r321:=by
 refine con (L:=[r334]) r321 F321 (fun _ _=> .look) (OwnOK.none _) (by simpa using h334) (by kernel_rfl) (by kernel_rfl) (fun _=>rfl) ?_
 rintro⟨x,y⟩ -
 refine vcOf (let z0:=SV.si .i64 (cmpI x y);True∧True∧(false=true→(false=true→(SV.il .i64 0).same z0)∧(false=false→(SV.il .i64 (-1:Int)).same z0))∧(false=false→(false=true→(SV.il .i64 1).same z0)∧(false=false→(decide (x<y)=true→(SV.il .i64 (-1:Int)).same z0)∧(decide (x<y)=false→(decide (y<x)=true→(SV.il .i64 1).same z0)∧(decide (y<x)=false→(SV.il .i64 0).same z0))))) (by kernel_rfl) ?_
 simp only[vcs]
 have h1:∀{X:Prop},(false=true)→X:=fun h=>absurd h (by decide)
 refine⟨fun h=>h1 h,fun _=>⟨fun h=>h1 h,fun _=>⟨fun h=>?_,fun h=>⟨fun h2=>?_,fun h2=>?_⟩⟩⟩⟩
 ·unfold cmpI;rw[if_pos h]
 ·unfold cmpI;rw[if_neg h,if_pos h2]
 ·unfold cmpI;rw[if_neg h,if_neg h2]
def totB (b:Bun):Int:=b.a0+b.a1+b.a2+b.a3+b.a4+b.a5
def r322:SCtr:=⟨27,Bun,.one (codE .bun),fun b=>b.ok=true,fun b=> .si .i64 (totB b)⟩
theorem h322:Holds Try.prog r322:=by
 refine con (L:=[]) r322 F322 (fun _ _=> .unroll 7) (OwnOK.none _) (by simp) (by kernel_rfl) (by kernel_rfl) (fun _=>rfl) ?_
 rintro(b:Bun) (h:b.ok=true)
 have h:=Bun.ok_iff.1 h
 refine vcOf (let z0:=(0:Int)+b.a0+b.a1;let z1:=z0+b.a2+b.a3+b.a4;inR .i64 ((0:Int)+b.a0)∧inR .i64 z0∧inR .i64 (z0+b.a2)∧inR .i64 (z0+b.a2+b.a3)∧inR .i64 z1∧inR .i64 (z1+b.a5)∧(SV.si .i64 (z1+b.a5)).same (SV.si .i64 (totB b))) (by kernel_rfl) ?_
 simp only[vcs]
 unfold totB
 omega
def oI (p:Prob) (i:Int):Off:=nthD p.offers i.toNat SId.off.dflt
def valO (p:Prob) (i:Int):Int:=(oI p i).value
def totO (p:Prob) (i:Int):Int:=totB (oI p i).want
def denI (p:Prob) (i:Int):Int:=valO p i*(5354228880 / totO p i)
def inO (p:Prob) (i:Int):Prop:=0≤i∧i<p.offers.length
theorem off_ok {p:Prob} (hc:checkE p=0) {i:Int} (h:inO p i):(1≤valO p i∧valO p i≤1000000)∧(1≤totO p i∧totO p i≤24)∧(oI p i).want.ok=true:=by
 obtain⟨h0,h1⟩:=h
 have hm:=nthD_mem (d:=SId.off.dflt) (show i.toNat<p.offers.length by omega)
 have hx:=(good_of hc).2.2.2.2 _ hm
 have ho:=(offer_zero ((check_zero hc).2 _ hm)).2.1
 have hk:=Bun.ok_iff.1 hx.2.2.1
 have hne:¬((oI p i).want.a0=0∧(oI p i).want.a1=0∧(oI p i).want.a2=0∧(oI p i).want.a3=0∧(oI p i).want.a4=0∧(oI p i).want.a5=0):=fun h=>ho (bun_eq.2 h)
 have hk:(0≤(oI p i).want.a0∧(oI p i).want.a0≤4)∧(0≤(oI p i).want.a1∧(oI p i).want.a1≤4)∧(0≤(oI p i).want.a2∧(oI p i).want.a2≤4)∧(0≤(oI p i).want.a3∧(oI p i).want.a3≤4)∧(0≤(oI p i).want.a4∧(oI p i).want.a4≤4)∧(0≤(oI p i).want.a5∧(oI p i).want.a5≤4):=hk
 refine⟨⟨hx.2.2.2.1,hx.2.2.2.2⟩,?_,hx.2.2.1⟩
 unfold totO totB
 omega
theorem div24 {t:Int} (h1:1≤t) (h2:t≤24):t*(5354228880 / t)=5354228880∧1≤5354228880 / t:=by
 have:t=1∨t=2∨t=3∨t=4∨t=5∨t=6∨t=7∨t=8∨t=9∨t=10∨t=11∨t=12∨t=13∨t=14∨t=15∨t=16∨t=17∨t=18∨t=19∨t=20∨t=21∨t=22∨t=23∨t=24:=by omega
 rcases this with rfl|rfl|rfl|rfl|rfl|rfl|rfl|rfl|rfl|rfl|rfl|rfl|rfl|rfl|rfl|rfl|rfl|rfl|rfl|rfl|rfl|rfl|rfl|rfl<;>decide
theorem den_lt {p:Prob} (hc:checkE p=0) {x y:Int} (hx:inO p x) (hy:inO p y):denI p x<denI p y↔valO p x*totO p y<valO p y*totO p x:=by
 obtain⟨vx,tx,_⟩:=off_ok hc hx
 obtain⟨vy,ty,_⟩:=off_ok hc hy
 obtain⟨dx,px⟩:=div24 tx.1 tx.2
 obtain⟨dy,py⟩:=div24 ty.1 ty.2
 unfold denI
 generalize 5354228880 / totO p x=qx at*
 generalize 5354228880 / totO p y=qy at*
 generalize valO p x=a at*
 generalize valO p y=b at*
 generalize totO p x=s at*
 generalize totO p y=t at*
 have hq:0<qx*qy:=Int.mul_pos (by omega) (by omega)
 have e1:(a*t)*(qx*qy)=(a*qx)*5354228880:=by rw[←dy];simp only[Int.mul_assoc,Int.mul_comm,Int.mul_left_comm]
 have e2:(b*s)*(qx*qy)=(b*qy)*5354228880:=by rw[←dx];simp only[Int.mul_assoc,Int.mul_comm,Int.mul_left_comm]
 constructor
 ·intro h
  have:(a*t)*(qx*qy)<(b*s)*(qx*qy):=by rw[e1,e2];omega
  exact Int.lt_of_mul_lt_mul_right this (by omega)
 ·intro h
  have:(a*t)*(qx*qy)<(b*s)*(qx*qy):=Int.mul_lt_mul_of_pos_right h hq
  rw[e1,e2] at this
  omega
def cmpO (p:Prob) (x y:Int):Int:=cmpI (valO p y*totO p x) (valO p x*totO p y)
theorem cmpO_neg {p:Prob} (hc:checkE p=0) {x y:Int} (hx:inO p x) (hy:inO p y):cmpO p x y<0↔denI p y<denI p x:=by
 rw[den_lt hc hy hx]
 unfold cmpO cmpI
 split
 ·simp[*]
 ·split<;>simp[*]
def r320:OCtr where
 f:=25
 α:=Int×Int×Prob
 put a:=[.si .i64 a.1,.si .i64 a.2.1,.ptr 0 0 20]
 st a:=[.cells a.2.2.ss 27 20 false]
 dec v o:=match v,o with
  |[x,y,.ptr 0 0 20],[.cells cs 27 20 false]=>match x.int .i64,y.int .i64,decProb cs with
   |some x,some y,some p=>some (x,y,p)
   |_,_,_=>none
  |_,_=>none
 ok v o a h:=by
  split at h
  ·split at h
   ·rename_i h1 h2 h3
    simp only[Option.some.injEq] at h;subst h
    refine⟨by simp only[gL,int_g h1,int_g h2];rfl,?_⟩
    simp only[gO,List.map_cons,List.map_nil,SObj.g,decProb_ok h3]
   ·cases h
  ·cases h
 inj a b h1 h2:=by
  simp only[gL,List.cons.injEq,and_true,SV.g,AV.sc.injEq,Value.int.injEq,true_and] at h1
  simp only[gO,List.map_cons,List.map_nil,SObj.g,List.cons.injEq,AObj.cells.injEq,and_true] at h2
  have h3:=codP.inj a.2.2 b.2.2 (by simp only[codP,SV.g,h2])
  exact Prod.ext h1.1 (Prod.ext h1.2 h3)
 dom a:=checkE a.2.2=0∧inO a.2.2 a.1∧inO a.2.2 a.2.1
 res a:=.si .i64 (cmpO a.2.2 a.1 a.2.1)
 out a:=[.cells a.2.2.ss 27 20 false]
theorem h320:HoldsO Try.prog r320:=by
 refine conO (L:=[r322,r321]) (W:=[]) r320 F320 (fun _ _=> .look) (by simp) (by simpa using⟨h322,h321⟩) (by kernel_rfl) (fun _=>rfl) (by kernel_rfl) ?_
 rintro⟨x,y,p⟩ ⟨hc,hx,hy⟩
 refine vcOf (let z0:=p.offers.length;let z1:=nthD p.offers x.toNat SId.off.dflt;let z2:=nthD p.offers y.toNat SId.off.dflt;let z3:=z2.value*totB z1.want;let z4:=z1.value*totB z2.want;let z5:=SObj.cells (Prob.ss p) 27 20 false;(0:Int)≤x∧x<(↑z0:Int)∧x.toNat<z0∧(0:Int)≤y∧y<(↑z0:Int)∧y.toNat<z0∧z1.want.ok=true∧inR .i64 z3∧z2.want.ok=true∧inR .i64 z4∧True∧(SV.si .i64 (cmpI z3 z4)).same (SV.si .i64 (cmpO p x y))∧z5.same z5∧True) (by kernel_rfl) ?_
 simp only[vcs]
 have hc:checkE p=0:=hc
 have hx:inO p x:=hx
 have hy:inO p y:=hy
 obtain⟨vx,tx,ox⟩:=off_ok hc hx
 obtain⟨vy,ty,oy⟩:=off_ok hc hy
 obtain⟨x0,x1⟩:=hx
 obtain⟨y0,y1⟩:=hy
 have hb:∀{v t:Int},1≤v∧v≤1000000→1≤t∧t≤24→ -9223372036854775808≤v*t∧v*t≤9223372036854775807:=fun {v t} h1 h2=>by
  have a:=Int.mul_nonneg (show 0≤v by omega) (show 0≤t by omega)
  have b:=Int.mul_le_mul h1.2 h2.2 (by omega) (show(0:Int)≤1000000 by omega)
  omega
 exact⟨x0,x1,by omega,y0,y1,by omega,ox,hb vy tx,oy,hb vx ty,rfl⟩
def decI:Nat→List SV→Option (List Int)
 |0,[.fn (.func 25) [] [.ptr 1 0 20]]=>some []
 |k+1,x::r=>match x.int .i64,decI k r with
  |some n,some l=>some (n::l)
  |_,_=>none
 |_,_=>none
theorem decI_ok:∀{k:Nat} {r:List SV} {l:List Int},decI k r=some l→gL r=gL (l.map (SV.si .i64)++[.fn (.func 25) [] [.ptr 1 0 20]])
 |0,r,l,h=>by
  unfold decI at h
  split at h
  ·simp only[Option.some.injEq] at h;subst h;rfl
  ·rename_i h0;cases h0
  ·cases h
 |k+1,[],l,h=>by simp[decI] at h
 |k+1,x::r,l,h=>by
  simp only[decI] at h
  split at h
  ·rename_i n l' h1 h2
   simp only[Option.some.injEq] at h;subst h
   simp only[gL,List.map_cons,List.cons_append,decI_ok h2,int_g h1]
   rfl
  ·cases h
theorem gL_ints:∀{l m:List Int} {z:List SV},l.length=m.length→gL (l.map (SV.si .i64)++z)=gL (m.map (SV.si .i64)++z)→l=m
 |[],[],_,_,_=>rfl
 |[],_::_,_,h,_=>by simp at h
 |_::_,[],_,h,_=>by simp at h
 |x::l,y::m,z,hl,h=>by
  simp only[List.map_cons,List.cons_append,gL,List.cons.injEq,SV.g,AV.sc.injEq,Value.int.injEq,true_and] at h
  rw[h.1,gL_ints (by simpa using hl) h.2]
def sortCtr (f:FuncId) (k:Nat) (β:Type) (toL:β→List Int) (ofL:List Int→Option β) (h0:∀b,(toL b).length=k) (h1:∀l b,ofL l=some b→l=toL b) (h2:∀b c,toL b=toL c→b=c) (dom:(Nat×List Int×Prob)×β→Prop) (out:(Nat×List Int×Prob)×β→List Int):OCtr where
 f:=f
 α:=(Nat×List Int×Prob)×β
 put a:=.ow 0 a.1.1 1::((toL a.2).map (SV.si .i64)++[.fn (.func 25) [] [.ptr 1 0 20]])
 st a:=[.row (.i .i64) a.1.2.1 3 true,.cells a.1.2.2.ss 27 20 false]
 dec v o:=match v,o with
  | .ow 0 n 1::r,[.row t l 3 true,.cells cs 27 20 false]=>match decI k r,castL t (.i .i64) l,decProb cs with
   |some xs,some l,some p=>match ofL xs with
    |some b=>some ((n,l,p),b)
    |none=>none
   |_,_,_=>none
  |_,_=>none
 ok v o a h:=by
  split at h
  ·split at h
   ·rename_i h3 h4 h5
    split at h
    ·rename_i b hb
     simp only[Option.some.injEq] at h;subst h
     obtain⟨rfl,hh⟩:=castL_eq h4
     cases hh
     have:=h1 _ _ hb
     subst this
     refine⟨by simp only[gL,decI_ok h3],?_⟩
     simp only[gO,List.map_cons,List.map_nil,SObj.g,decProb_ok h5]
    ·cases h
   ·cases h
  ·cases h
 inj a b e1 e2:=by
  obtain⟨⟨n,l,p⟩,x⟩:=a
  obtain⟨⟨n',l',p'⟩,x'⟩:=b
  simp only[gL,List.cons.injEq,SV.g,AV.os.injEq,true_and] at e1
  simp only[gO,List.map_cons,List.map_nil,SObj.g,List.cons.injEq,AObj.cells.injEq,and_true,true_and] at e2
  have h3:p=p':=codP.inj p p' (by simp only[codP,SV.g,e2.2])
  have h4:l=l':=by
   have hf:=congrArg List.length e2.1
   rw[flatA_len,flatA_len] at hf
   exact flatA_inj (.i .i64) (by simpa[SId.sz] using hf) e2.1
  have h5:x=x':=h2 _ _ (gL_ints (by rw[h0,h0]) e1.2)
  rw[e1.1.1,h3,h4,h5]
 dom:=dom
 res _:=.tup []
 out a:=[.row (.i .i64) (out a) 3 true,.cells a.1.2.2.ss 27 20 false]
abbrev Srg:=Nat×List Int×Prob
def to2 (b:Int×Int):List Int:=[b.1,b.2]
def of2:List Int→Option (Int×Int)
 |[a,b]=>some (a,b)
 |_=>none
theorem of2_ok:∀l b,of2 l=some b→l=to2 b:=fun l b h=>by
 unfold of2 at h
 split at h
 ·simp only[Option.some.injEq] at h;subst h;rfl
 ·cases h
theorem to2_inj:∀b c,to2 b=to2 c→b=c:=fun b c h=>by
 unfold to2 at h
 simp only[List.cons.injEq,and_true] at h
 exact Prod.ext h.1 h.2
def to3 (b:Int×Int×Int):List Int:=[b.1,b.2.1,b.2.2]
def of3:List Int→Option (Int×Int×Int)
 |[a,b,c]=>some (a,b,c)
 |_=>none
theorem of3_ok:∀l b,of3 l=some b→l=to3 b:=fun l b h=>by
 unfold of3 at h
 split at h
 ·simp only[Option.some.injEq] at h;subst h;rfl
 ·cases h
theorem to3_inj:∀b c,to3 b=to3 c→b=c:=fun b c h=>by
 unfold to3 at h
 simp only[List.cons.injEq,and_true] at h
 exact Prod.ext h.1 (Prod.ext h.2.1 h.2.2)
def offL (a:Srg):Prop:=(checkE a.2.2=0∧a.1=a.2.1.length)∧a.2.1.length≤1000∧∀x∈a.2.1,inO a.2.2 x
def rngL (l:List Int) (a b:Int):Prop:=0≤a∧a≤b∧b≤l.length
theorem orow {l m:List Int} (h:l=m):(SObj.row (.i .i64) l 3 true).same (SObj.row (.i .i64) m 3 true):=by subst h;rfl
def r363:OCtr:=sortCtr 82 3 (Int×Int×Int) to3 of3 (fun _=>rfl) of3_ok to3_inj (fun a=>a.1.1=a.1.2.1.length∧a.1.2.1.length≤1000∧0≤a.2.1∧0≤a.2.2.2∧a.2.1+a.2.2.2≤a.2.2.1∧a.2.2.1+a.2.2.2≤a.1.2.1.length) fun a=>swR a.1.2.1 a.2.1.toNat a.2.2.1.toNat a.2.2.2.toNat
def Λ363 (n:Nat) (l:List Int) (p:Prob) (a b k:Int):Nat→LoopAnn
 |1=> .inv (Int×List Int) (fun x=>⟨[(0,.ow 0 n 1),(1,.si .i64 a),(2,.si .i64 b),(3,.si .i64 k),(10,.si .i64 x.1)],[.row (.i .i64) x.2 3 true,.cells p.ss 27 20 false]⟩) (fun s=>(iS s 10,oS (.i .i64) s 0))
   (fun x=>(0≤x.1∧x.1≤k)∧x.2=swR l a.toNat b.toNat x.1.toNat) (fun x=>(k - x.1).toNat) fun _ _=> .look
 |_=> .look
theorem h363:HoldsO Try.prog r363:=by
 refine conO (L:=[]) (W:=[]) r363 F363 (fun a=>Λ363 a.1.1 a.1.2.1 a.1.2.2 a.2.1 a.2.2.1 a.2.2.2) (by simp) (by simp) (by kernel_rfl) (fun _=>rfl) (by kernel_rfl) ?_
 rintro⟨⟨n,l,p⟩,a,b,k⟩ ⟨hn,hl,a0,k0,h1,h2⟩
 refine vcOf (let z0:=SV.ow 0 n 1;let z1:=SId.i .i64;let z2:=SObj.row z1 l 3 true;let z3:=SObj.cells [SV.si .i64 p.supply.a0,SV.si .i64 p.supply.a1,SV.si .i64 p.supply.a2,SV.si .i64 p.supply.a3,SV.si .i64 p.supply.a4,SV.si .i64 p.supply.a5,SV.si .i64 p.opn.a0,SV.si .i64 p.opn.a1,SV.si .i64 p.opn.a2,SV.si .i64 p.opn.a3,SV.si .i64 p.opn.a4,SV.si .i64 p.opn.a5,SV.si .i64 p.cls.a0,SV.si .i64 p.cls.a1,SV.si .i64 p.cls.a2,SV.si .i64 p.cls.a3,SV.si .i64 p.cls.a4,SV.si .i64 p.cls.a5,SV.row z1 p.classes,SV.row SId.off p.offers] 27 20 false;(((z0.same z0∧(SV.si .i64 a).same (SV.si .i64 a)∧(SV.si .i64 b).same (SV.si .i64 b)∧(SV.si .i64 k).same (SV.si .i64 k)∧(SV.il .i64 0).same (SV.si .i64 0)∧True)∧z2.same z2∧z3.same z3∧True)∧((0:Int)≤(0:Int)∧(0:Int)≤k)∧l=swR l a.toNat b.toNat 0)∧∀(x:Int×List Int),let z4:=x.snd.length;let z5:=(b+x.fst).toNat;let z6:=(a+x.fst).toNat;let z7:=x.snd.set z6 (nthD x.snd z5 (0:Int));let z8:=x.fst+(1:Int);let z9:=SV.si .i64 z8;let z10:=z7.set z5 (nthD x.snd z6 (0:Int));let z11:=SObj.row z1 z10 3 true;((0:Int)≤x.fst∧x.fst≤k)∧x.snd=swR l a.toNat b.toNat x.fst.toNat→(decide (x.fst<k)=true→inR .i64 (a+x.fst)∧inR .i64 (b+x.fst)∧inR .i64 (b+x.fst)∧n=z4∧(0:Int)≤b+x.fst∧b+x.fst<(↑z4:Int)∧n=z4∧z5<z4∧inR .i64 (a+x.fst)∧n=z4∧(0:Int)≤a+x.fst∧a+x.fst<(↑z4:Int)∧n=z4∧z6<z4∧n=z4∧(0:Int)≤a+x.fst∧a+x.fst<(↑z4:Int)∧n=z4∧z6<z4∧n=z7.length∧(0:Int)≤b+x.fst∧b+x.fst<(↑z7.length:Int)∧n=z7.length∧z5<z7.length∧inR .i64 z8∧((z0.same z0∧(SV.si .i64 a).same (SV.si .i64 a)∧(SV.si .i64 b).same (SV.si .i64 b)∧(SV.si .i64 k).same (SV.si .i64 k)∧z9.same z9∧True)∧z11.same z11∧z3.same z3∧True)∧(((0:Int)≤z8∧z8≤k)∧z10=swR l a.toNat b.toNat z8.toNat)∧(k - z8).toNat<(k - x.fst).toNat)∧(decide (x.fst<k)=false→(SV.tup []).same (SV.tup [])∧(SObj.row z1 x.snd 3 true).same (SObj.row z1 (swR l a.toNat b.toNat k.toNat) 3 true)∧z3.same z3∧True)) (by kernel_rfl) ?_
 simp only[vcs]
 have hn:n=l.length:=hn
 have hl:l.length≤1000:=hl
 have a0:0≤a:=a0
 have k0:0≤k:=k0
 have h1:a+k≤b:=h1
 have h2:b+k≤l.length:=h2
 refine⟨⟨⟨by omega,by omega⟩,swR_zero.symm⟩,?_⟩
 rintro⟨i,m⟩ ⟨⟨i0,i1⟩,hm⟩
 simp only at i0 i1 hm ⊢
 have hml:m.length=l.length:=by rw[hm,swR_len]
 have e:(i+1).toNat=i.toNat+1:=by omega
 have ea:(a+i).toNat=a.toNat+i.toNat:=by omega
 have eb:(b+i).toNat=b.toNat+i.toNat:=by omega
 simp only[List.length_set,hml]
 refine⟨fun hi=>?_,fun hi=>orow ?_⟩
 ·have hs:=@swR_succ l a.toNat b.toNat i.toNat (by omega) (by omega)
  rw[←hm] at hs
  rw[e,ea,eb,hs]
  repeat' refine And.intro ?_ ?_
  all_goals first|omega|rfl
 ·rw[hm,show i=k by omega]
def r343:OCtr:=sortCtr 59 2 (Int×Int) to2 of2 (fun _=>rfl) of2_ok to2_inj (fun a=>offL a.1∧rngL a.1.2.1 a.2.1 a.2.2∧(seg a.1.2.1 a.2.1.toNat a.2.2.toNat).Pairwise (·<·)) fun a=>srtP (denI a.1.2.2) a.1.2.1 a.2.1.toNat a.2.2.toNat
def Λ343 (n:Nat) (l:List Int) (p:Prob) (a b:Int):Nat→LoopAnn
 |1=> .inv (Int×List Int) (fun x=>⟨[(0,.ow 0 n 1),(1,.si .i64 a),(2,.si .i64 b),(3,.fn (.func 25) [] [.ptr 1 0 20]),(8,.si .i64 x.1)],[.row (.i .i64) x.2 3 true,.cells p.ss 27 20 false]⟩) (fun s=>(iS s 8,oS (.i .i64) s 0))
   (fun x=>(a<x.1∧(x.1≤b∨x.1=a+1))∧x.2=srtP (denI p) l a.toNat (if a<b then x.1 else a).toNat) (fun x=>(b - x.1).toNat) fun x k=>match k with
    |4=> .inv (Int×List Int) (fun y=>⟨[(0,.ow 0 n 1),(1,.si .i64 a),(2,.si .i64 b),(3,.fn (.func 25) [] [.ptr 1 0 20]),(8,.si .i64 x.1),(9,.si .i64 y.1)],[.row (.i .i64) y.2 3 true,.cells p.ss 27 20 false]⟩) (fun s=>(iS s 9,oS (.i .i64) s 0))
      (fun y=>(a≤y.1∧y.1≤x.1)∧y.2=insP (denI p) l a.toNat x.1.toNat y.1.toNat∧∀s∈(srt (denI p) (seg l a.toNat x.1.toNat)).drop (y.1 - a).toNat,leD (denI p) (nthD l x.1.toNat 0) s=true) (fun y=>(y.1 - a).toNat) fun _ _=> .look
    |_=> .look
 |_=> .look
theorem h343:HoldsO Try.prog r343:=by
 refine conO (L:=[]) (W:=[r320]) r343 F343 (fun a=>Λ343 a.1.1 a.1.2.1 a.1.2.2 a.2.1 a.2.2) (by simpa using h320) (by simp) (by kernel_rfl) (fun _=>rfl) (by kernel_rfl) ?_
 rintro⟨⟨n,l,p⟩,a,b⟩ ⟨⟨⟨hc,hn⟩,hl,ho⟩,⟨a0,a1,a2⟩,hi⟩
 refine vcOf (let z0:=a+(1:Int);let z1:=SV.ow 0 n 1;let z2:=SV.fn (Fn.func 25) [] [SV.ptr 1 0 20];let z3:=SV.si .i64 z0;let z4:=SId.i .i64;let z5:=SObj.row z4 l 3 true;let z6:=SObj.cells [SV.si .i64 p.supply.a0,SV.si .i64 p.supply.a1,SV.si .i64 p.supply.a2,SV.si .i64 p.supply.a3,SV.si .i64 p.supply.a4,SV.si .i64 p.supply.a5,SV.si .i64 p.opn.a0,SV.si .i64 p.opn.a1,SV.si .i64 p.opn.a2,SV.si .i64 p.opn.a3,SV.si .i64 p.opn.a4,SV.si .i64 p.opn.a5,SV.si .i64 p.cls.a0,SV.si .i64 p.cls.a1,SV.si .i64 p.cls.a2,SV.si .i64 p.cls.a3,SV.si .i64 p.cls.a4,SV.si .i64 p.cls.a5,SV.row z4 p.classes,SV.row SId.off p.offers] 27 20 false;inR .i64 z0∧(((z1.same z1∧(SV.si .i64 a).same (SV.si .i64 a)∧(SV.si .i64 b).same (SV.si .i64 b)∧z2.same z2∧z3.same z3∧True)∧z5.same z5∧z6.same z6∧True)∧(a<z0∧(z0≤b∨z0=z0))∧l=srtP (denI p) l a.toNat (if a<b then z0 else a).toNat)∧∀(x:Int×List Int),let z7:=SV.si .i64 x.fst;let z8:=SObj.row z4 x.snd 3 true;let z9:=x.fst.toNat;let z10:=srt (denI p) (seg l a.toNat z9);let z11:=x.fst+(1:Int);let z12:=SV.si .i64 z11;let z13:=srtP (denI p) l a.toNat (if a<b then z11 else a).toNat;(a<x.fst∧(x.fst≤b∨x.fst=z0))∧x.snd=srtP (denI p) l a.toNat (if a<b then x.fst else a).toNat→(decide (x.fst<b)=true→(((z1.same z1∧(SV.si .i64 a).same (SV.si .i64 a)∧(SV.si .i64 b).same (SV.si .i64 b)∧z2.same z2∧z7.same z7∧z7.same z7∧True)∧z8.same z8∧z6.same z6∧True)∧(a≤x.fst∧x.fst≤x.fst)∧x.snd=insP (denI p) l a.toNat z9 z9∧∀(s:Int),s∈List.drop (x.fst - a).toNat z10→leD (denI p) (nthD l z9 (0:Int)) s=true)∧∀(x_1:Int×List Int),let z14:=x_1.fst.toNat;let z15:=x_1.snd.length;let z16:=x_1.fst - (1:Int);let z17:=z16.toNat;let z18:=nthD x_1.snd z14 (0:Int);let z19:=nthD x_1.snd z17 (0:Int);let z20:=decide (cmpO p z18 z19<(0:Int));let z21:=(x_1.snd.set z14 z19).length;let z22:=SV.si .i64 z16;let z23:=(x_1.snd.set z14 z19).set z17 z18;let z24:=SObj.row z4 z23 3 true;let z25:=SObj.row z4 x_1.snd 3 true;((a≤x_1.fst∧x_1.fst≤x.fst)∧x_1.snd=insP (denI p) l a.toNat z9 z14∧∀(s:Int),s∈List.drop (x_1.fst - a).toNat z10→leD (denI p) (nthD l z9 (0:Int)) s=true)→(decide (a<x_1.fst)=true→n=z15∧(0:Int)≤x_1.fst∧x_1.fst<(↑z15:Int)∧n=z15∧z14<z15∧inR .i64 z16∧n=z15∧(0:Int)≤z16∧z16<(↑z15:Int)∧n=z15∧z17<z15∧(checkE p=(0:Int)∧inO p z18∧inO p z19)∧(z20=true→inR .i64 z16∧inR .i64 z16∧n=z15∧(0:Int)≤z16∧z16<(↑z15:Int)∧n=z15∧z17<z15∧n=z15∧(0:Int)≤x_1.fst∧x_1.fst<(↑z15:Int)∧n=z15∧z14<z15∧n=z15∧(0:Int)≤x_1.fst∧x_1.fst<(↑z15:Int)∧n=z15∧z14<z15∧n=z21∧(0:Int)≤z16∧z16<(↑z21:Int)∧n=z21∧z17<z21∧inR .i64 z16∧((z1.same z1∧(SV.si .i64 a).same (SV.si .i64 a)∧(SV.si .i64 b).same (SV.si .i64 b)∧z2.same z2∧z7.same z7∧z22.same z22∧True)∧z24.same z24∧z6.same z6∧True)∧((a≤z16∧z16≤x.fst)∧z23=insP (denI p) l a.toNat z9 z17∧∀(s:Int),s∈List.drop (z16 - a).toNat z10→leD (denI p) (nthD l z9 (0:Int)) s=true)∧(z16 - a).toNat<(x_1.fst - a).toNat)∧(z20=false→inR .i64 z11∧((z1.same z1∧(SV.si .i64 a).same (SV.si .i64 a)∧(SV.si .i64 b).same (SV.si .i64 b)∧z2.same z2∧z12.same z12∧True)∧z25.same z25∧z6.same z6∧True)∧((a<z11∧(z11≤b∨z11=z0))∧x_1.snd=z13)∧(b - z11).toNat<(b - x.fst).toNat))∧(decide (a<x_1.fst)=false→inR .i64 z11∧((z1.same z1∧(SV.si .i64 a).same (SV.si .i64 a)∧(SV.si .i64 b).same (SV.si .i64 b)∧z2.same z2∧z12.same z12∧True)∧z25.same z25∧z6.same z6∧True)∧((a<z11∧(z11≤b∨z11=z0))∧x_1.snd=z13)∧(b - z11).toNat<(b - x.fst).toNat))∧(decide (x.fst<b)=false→(SV.tup []).same (SV.tup [])∧z8.same (SObj.row z4 (srtP (denI p) l a.toNat b.toNat) 3 true)∧z6.same z6∧True)) (by kernel_rfl) ?_
 simp only[vcs]
 have hc:checkE p=0:=hc
 have hn:n=l.length:=hn
 have hl:l.length≤1000:=hl
 have ho:∀x∈l,inO p x:=ho
 have a0:0≤a:=a0
 have a1:a≤b:=a1
 have a2:b≤l.length:=a2
 have hi:(seg l a.toNat b.toNat).Pairwise (·<·):=hi
 generalize hD:denI p=D at*
 have sl:∀{i:Int},a≤i→i≤b→(srtP D l a.toNat i.toNat).length=l.length:=fun h1 h2=>srtP_len (by omega) (by omega)
 refine⟨by omega,⟨⟨by omega,.inr trivial⟩,?_⟩,?_⟩
 ·by_cases hab:a<b
  ·rw[if_pos hab,show(a+1).toNat=a.toNat+1 by omega,srtP_one (by omega)]
  ·rw[if_neg hab,srtP_nil]
 rintro⟨i,m⟩ ⟨⟨i0,i1⟩,hm⟩
 simp only at i0 i1 hm ⊢
 refine⟨fun hib=>?_,fun hib=>orow ?_⟩
 ·rw[if_pos (by omega)] at hm
  have hx:=ho _ (nthD_mem (d:=(0:Int)) (show i.toNat<l.length by omega))
  have hS:∀s∈srt D (seg l a.toNat i.toNat),s<nthD l i.toNat 0∧inO p s:=fun s hs=>by
   have h1:=srt_mem.1 hs
   have h2:(seg l a.toNat (i.toNat+1)).Pairwise (·<·):=by
    refine hi.sublist ?_
    unfold seg
    exact List.take_sublist_take_left (by omega)
   rw[seg_succ (by omega) (by omega)] at h2
   refine⟨(List.pairwise_append.1 h2).2.2 s h1 _ (by simp),ho s ?_⟩
   unfold seg at h1
   exact List.mem_of_mem_drop (List.mem_of_mem_take h1)
  have hSl:(srt D (seg l a.toNat i.toNat)).length=i.toNat - a.toNat:=by rw[srt_len,seg_len (by omega) (by omega)]
  have il:∀{j:Nat},(insP D l a.toNat i.toNat j).length=l.length:=fun {j}=>insP_len (by omega) (by omega)
  refine⟨⟨⟨by omega,by omega⟩,?_,?_⟩,?_⟩
  ·rw[hm,insP_start (by omega) (by omega)]
  ·intro s hs
   rw[List.drop_of_length_le (by omega)] at hs
   simp at hs
  rintro⟨j,m2⟩ ⟨⟨j0,j1⟩,hm2,hle⟩
  simp only at j0 j1 hm2 hle ⊢
  subst hm2
  simp only[List.length_set,il]
  have fin:(j=a∨leD D (nthD (srt D (seg l a.toNat i.toNat)) (j.toNat - 1 - a.toNat) 0) (nthD l i.toNat 0)=true)→insP D l a.toNat i.toNat j.toNat=srtP D l a.toNat (if a<b then i+1 else a).toNat:=fun h=>by
   rw[if_pos (by omega),show(i+1).toNat=i.toNat+1 by omega]
   refine insP_done (by omega) (by omega) (by omega) ?_ ?_
   ·rw[show j.toNat - a.toNat=(j - a).toNat by omega];exact hle
   ·rcases h with h|h
    ·exact .inl (by omega)
    ·exact .inr h
  refine⟨fun hj=>?_,fun hj=>?_⟩
  ·obtain⟨k1,k2,k3⟩:=@insP_at D l a.toNat i.toNat j.toNat (by omega) (by omega) (by omega)
   have ej:(j - 1).toNat=j.toNat - 1:=by omega
   rw[ej,k1,k2,k3]
   have hs:=nthD_mem (d:=(0:Int)) (show j.toNat - 1 - a.toNat<(srt D (seg l a.toNat i.toNat)).length by omega)
   obtain⟨s1,s2⟩:=hS _ hs
   have hcmp:=cmpO_neg hc hx s2
   rw[hD] at hcmp
   rw[hcmp]
   refine⟨by omega,by omega,by omega,by omega,by omega,by omega,by omega,by omega,by omega,by omega,by omega,⟨hc,hx,s2⟩,fun h1=>?_,fun h1=>?_⟩
   ·repeat' refine And.intro ?_ ?_
    all_goals first|omega|rfl|skip
    intro s hs2
    rw[show(j - 1 - a).toNat=j.toNat - 1 - a.toNat by omega,List.drop_eq_getElem_cons (show j.toNat - 1 - a.toNat<(srt D (seg l a.toNat i.toNat)).length by omega)] at hs2
    rcases List.mem_cons.1 hs2 with rfl|hs2
    ·rw[←nthD_eq (d:=(0:Int))]
     exact leD_iff.2 (.inl h1)
    ·refine hle s ?_
     rw[show(j - a).toNat=j.toNat - 1 - a.toNat+1 by omega]
     exact hs2
   ·have:=fin (.inr (leD_iff.2 (by omega)))
    repeat' refine And.intro ?_ ?_
    all_goals first|omega|exact this|rfl
  ·have:=fin (.inl (by omega))
   repeat' refine And.intro ?_ ?_
   all_goals first|omega|exact this|rfl
 ·rw[hm]
  by_cases hab:a<b
  ·rw[if_pos hab,show i=b by omega]
  ·rw[if_neg hab,show a=b by omega]
theorem drop_seg {l:List Int} {a b:Nat} (h1:a≤b):l.drop a=seg l a b++l.drop b:=by
 have:=List.take_append_drop (b - a) (l.drop a)
 rw[List.drop_drop,show a+(b - a)=b by omega] at this
 exact this.symm
theorem seg_mid {P Q R:List Int} {a b:Nat} (ha:a=P.length) (hb:b=P.length+Q.length):seg (P++(Q++R)) a b=Q:=by
 subst ha
 subst hb
 unfold seg
 rw[List.drop_left,show P.length+Q.length - P.length=Q.length by omega,List.take_left]
theorem srtP_mid {D:Int→Int} {P Q R:List Int} {a b:Nat} (ha:a=P.length) (hb:b=P.length+Q.length):srtP D (P++(Q++R)) a b=P++(srt D Q++R):=by
 have h:=@seg_mid P Q R a b ha hb
 unfold srtP
 rw[h,ha,hb,List.take_left]
 have:(P++(Q++R)).drop (P.length+Q.length)=R:=by rw[←List.append_assoc,←List.length_append,List.drop_left]
 rw[this]
 simp
theorem seg_mem {l:List Int} {a b:Nat} {x:Int}:x∈seg l a b↔∃k,a≤k∧k<b∧k<l.length∧nthD l k 0=x:=by
 unfold seg
 constructor
 ·intro h
  obtain⟨j,hj,rfl⟩:=List.getElem_of_mem h
  simp only[List.length_take,List.length_drop] at hj
  refine⟨a+j,by omega,by omega,by omega,?_⟩
  rw[List.getElem_take,List.getElem_drop,nthD_eq (show a+j<l.length by omega)]
 ·rintro⟨k,h1,h2,h3,rfl⟩
  have hj:k - a<((l.drop a).take (b - a)).length:=by simp only[List.length_take,List.length_drop];omega
  have:((l.drop a).take (b - a))[k - a]=nthD l k 0:=by
   rw[List.getElem_take,List.getElem_drop,nthD_eq h3]
   congr 1
   omega
  rw[←this]
  exact List.getElem_mem hj
theorem srt_idx {D:Int→Int} {l:List Int} {a b:Nat} (h:Srt D (seg l a b)) {i j:Nat} (h1:a≤i) (h2:i<j) (h3:j<b) (h4:b≤l.length):leD D (nthD l i 0) (nthD l j 0)=true:=by
 have hl:=seg_len (l:=l) (show a≤b by omega) h4
 have:=List.pairwise_iff_getElem.1 h (i - a) (j - a) (by omega) (by omega) (by omega)
 have e1:(seg l a b)[i - a]'(by omega)=nthD l i 0:=by
  unfold seg
  rw[List.getElem_take,List.getElem_drop,nthD_eq (show i<l.length by omega)]
  congr 1
  omega
 have e2:(seg l a b)[j - a]'(by omega)=nthD l j 0:=by
  unfold seg
  rw[List.getElem_take,List.getElem_drop,nthD_eq (show j<l.length by omega)]
  congr 1
  omega
 rwa [e1,e2] at this
theorem leD_den {D:Int→Int} {x y:Int} (h:leD D x y=true):D y≤D x:=by rw[leD_iff] at h;omega
theorem leD_refl {D:Int→Int} {x:Int}:leD D x x=true:=leD_iff.2 (by omega)
theorem srt_idx' {D:Int→Int} {l:List Int} {a b:Nat} (h:Srt D (seg l a b)) {i j:Nat} (h1:a≤i) (h2:i≤j) (h3:j<b) (h4:b≤l.length):leD D (nthD l i 0) (nthD l j 0)=true:=by
 by_cases hij:i=j
 ·subst hij;exact leD_refl
 ·exact srt_idx h h1 (by omega) h3 h4
theorem seg_sub {l:List Int} {a b c d:Nat} (h1:a≤c) (h2:d≤b):(seg l c d).Sublist (seg l a b):=by
 by_cases hcd:c≤d
 ·by_cases hb:d≤l.length
  ·have e:seg l a b=seg l a c++(seg l c d++(seg (l.take b) d b)):=by
    apply List.append_cancel_right (bs:=l.drop b)
    have e1:=drop_seg (l:=l) (show a≤b by omega)
    have e2:=drop_seg (l:=l) (show a≤c by omega)
    have e3:=drop_seg (l:=l) hcd
    have e4:=drop_seg (l:=l) (show d≤b by omega)
    have e5:seg (l.take b) d b=seg l d b:=by
     unfold seg
     rw[List.drop_take,List.take_take]
     congr 1
     omega
    rw[←e1,e2,e3,e4,e5]
    simp
   rw[e]
   exact(List.sublist_append_left _ _).trans (List.sublist_append_right _ _)
  ·have e:seg l c d=l.drop c:=by unfold seg;exact List.take_of_length_le (by rw[List.length_drop];omega)
   have e2:seg l a b=l.drop a:=by unfold seg;exact List.take_of_length_le (by rw[List.length_drop];omega)
   rw[e,e2,drop_seg (l:=l) h1]
   exact List.sublist_append_right _ _
 ·have:seg l c d=[]:=by unfold seg;rw[show d - c=0 by omega];simp
  rw[this]
  exact List.nil_sublist _
theorem rotR_len {l:List Int} {a m b:Nat} (h1:a≤m) (h2:m≤b) (h3:b≤l.length):(rotR l a m b).length=l.length:=by
 unfold rotR
 simp only[List.length_append,List.length_take,List.length_drop,seg_len h1 (show m≤l.length by omega),seg_len h2 h3]
 omega
theorem mem_seg {l:List Int} {a b:Nat} {x:Int} (h:x∈seg l a b):x∈l:=by
 unfold seg at h
 exact List.mem_of_mem_drop (List.mem_of_mem_take h)
theorem rotR_mem {l:List Int} {a m b:Nat} {x:Int} (h:x∈rotR l a m b):x∈l:=by
 unfold rotR at h
 simp only[List.mem_append] at h
 rcases h with h|h|h|h
 ·exact List.mem_of_mem_take h
 ·exact mem_seg h
 ·exact mem_seg h
 ·exact List.mem_of_mem_drop h
theorem srtP_mem {D:Int→Int} {l:List Int} {a b:Nat} {x:Int} (h:x∈srtP D l a b):x∈l:=by
 unfold srtP at h
 simp only[List.mem_append] at h
 rcases h with(h|h)|h
 ·exact List.mem_of_mem_take h
 ·exact mem_seg (srt_mem.1 h)
 ·exact List.mem_of_mem_drop h
theorem rotR_triv {l:List Int} {a m b:Nat} (h1:a≤m) (h2:m≤b) (h3:b≤l.length) (h:a=m∨m=b):rotR l a m b=l:=by
 have:=split4 h1 h2 h3
 conv=>rhs;rw[this]
 unfold rotR
 rcases h with rfl|rfl
 ·rw[seg_nil];simp
 ·rw[seg_nil];simp
theorem srtP_triv {D:Int→Int} {l:List Int} {a b:Nat} (h1:a≤b) (h:Srt D (seg l a b)):srtP D l a b=l:=by
 unfold srtP
 rw[srt_of h,List.append_assoc,←drop_seg h1,List.take_append_drop]
theorem sym_law {D:Int→Int} {l:List Int} {a s m e b mid:Nat} (h1:a≤s) (h2:s≤m) (h3:m≤e) (h4:e≤b) (h5:b≤l.length) (hmid:mid=s+(e - m)) (hL:Srt D (seg l a m)) (hR:Srt D (seg l m b))
  (H1:∀x∈seg l a s,∀y∈seg l e b,leD D x y=true) (H2:∀x∈seg l m e,∀y∈seg l s m,leD D x y=true):
  (seg (rotR l s m e) a s=seg l a s∧seg (rotR l s m e) s mid=seg l m e∧seg (rotR l s m e) a mid=seg l a s++seg l m e)∧
  (seg (srtP D (rotR l s m e) a mid) mid e=seg l s m∧seg (srtP D (rotR l s m e) a mid) e b=seg l e b∧seg (srtP D (rotR l s m e) a mid) mid b=seg l s m++seg l e b)∧
  srtP D (srtP D (rotR l s m e) a mid) mid b=srtP D l a b:=by
 have la:(l.take a).length=a:=by rw[List.length_take];omega
 have l1:=seg_len (l:=l) h1 (show s≤l.length by omega)
 have l2:=seg_len (l:=l) h2 (show m≤l.length by omega)
 have l3:=seg_len (l:=l) h3 (show e≤l.length by omega)
 have l4:=seg_len (l:=l) h4 h5
 have hsp:l=l.take a++(seg l a s++(seg l s m++(seg l m e++(seg l e b++l.drop b)))):=by
  rw[←drop_seg h4,←drop_seg h3,←drop_seg h2,←drop_seg h1,List.take_append_drop]
 have hts:l.take s=l.take a++seg l a s:=by
  conv=>lhs;rw[hsp]
  rw[←List.append_assoc]
  exact List.take_left' (by rw[List.length_append,la,l1];omega)
 have hrot:rotR l s m e=l.take a++(seg l a s++(seg l m e++(seg l s m++(seg l e b++l.drop b)))):=by
  unfold rotR
  rw[hts,drop_seg h4]
  simp
 have hLL:seg l a m=seg l a s++seg l s m:=by
  have:=drop_seg (l:=l) (show a≤m by omega)
  rw[drop_seg h1,drop_seg h2,←List.append_assoc] at this
  exact(List.append_cancel_right this).symm
 have hRR:seg l m b=seg l m e++seg l e b:=by
  have:=drop_seg (l:=l) (show m≤b by omega)
  rw[drop_seg h3,drop_seg h4,←List.append_assoc] at this
  exact(List.append_cancel_right this).symm
 have hWh:seg l a b=seg l a s++(seg l s m++(seg l m e++seg l e b)):=by
  have:=drop_seg (l:=l) (show a≤b by omega)
  rw[drop_seg (show a≤m by omega),drop_seg (show m≤b by omega),←List.append_assoc] at this
  rw[←List.append_cancel_right this,hLL,hRR]
  simp
 have hsr:srtP D l a b=l.take a++srt D (seg l a b)++l.drop b:=rfl
 rw[hrot,hsr,hWh]
 rw[hLL,Srt,List.pairwise_append] at hL
 rw[hRR,Srt,List.pairwise_append] at hR
 generalize l.take a=A at*
 generalize seg l a s=X1 at*
 generalize seg l s m=X2 at*
 generalize seg l m e=Y1 at*
 generalize seg l e b=Y2 at*
 generalize l.drop b=Z at*
 have hs1:A++(X1++(Y1++(X2++(Y2++Z))))=A++((X1++Y1)++(X2++(Y2++Z))):=by simp
 have g1:srtP D (A++(X1++(Y1++(X2++(Y2++Z))))) a mid=A++(srt D (X1++Y1)++(X2++(Y2++Z))):=by
  rw[hs1]
  exact srtP_mid (by omega) (by rw[List.length_append];omega)
 have hs2:A++(srt D (X1++Y1)++(X2++(Y2++Z)))=(A++srt D (X1++Y1))++((X2++Y2)++Z):=by simp
 have lS:(srt D (X1++Y1)).length=X1.length+Y1.length:=by rw[srt_len,List.length_append]
 refine⟨⟨seg_mid (by omega) (by omega),?_,?_⟩,⟨?_,?_,?_⟩,?_⟩
 ·rw[←List.append_assoc]
  exact seg_mid (by rw[List.length_append];omega) (by rw[List.length_append];omega)
 ·rw[hs1]
  exact seg_mid (by omega) (by rw[List.length_append];omega)
 ·rw[g1,←List.append_assoc]
  exact seg_mid (by rw[List.length_append,lS];omega) (by rw[List.length_append,lS];omega)
 ·rw[g1,←List.append_assoc,←List.append_assoc]
  exact seg_mid (by rw[List.length_append,List.length_append,lS];omega) (by rw[List.length_append,List.length_append,lS];omega)
 ·rw[g1,hs2]
  exact seg_mid (by rw[List.length_append,lS];omega) (by rw[List.length_append,List.length_append,lS];omega)
 ·rw[g1,hs2,srtP_mid (by rw[List.length_append,lS];omega) (by rw[List.length_append,List.length_append,lS];omega)]
  have:srt D (X1++Y1)++srt D (X2++Y2)=srt D (X1++(X2++(Y1++Y2))):=by
   refine srt_eq ?_ ?_
   ·refine(List.Perm.append srt_perm srt_perm).trans ?_
    rw[List.append_assoc]
    refine List.Perm.append_left X1 ?_
    rw[←List.append_assoc,←List.append_assoc]
    exact List.Perm.append_right Y2 List.perm_append_comm
   ·rw[Srt,List.pairwise_append]
    refine⟨srt_srt,srt_srt,fun x hx y hy=>?_⟩
    have hx:=srt_mem.1 hx
    have hy:=srt_mem.1 hy
    rcases List.mem_append.1 hx with hx|hx
    ·rcases List.mem_append.1 hy with hy|hy
     ·exact hL.2.2 x hx y hy
     ·exact H1 x hx y hy
    ·rcases List.mem_append.1 hy with hy|hy
     ·exact H2 x hx y hy
     ·exact hR.2.2 x hx y hy
  rw[←this]
  simp
theorem rot_gt {A X Y B:List Int} {i j:Nat} (hi:X.length=i) (hj:Y.length=j) (h:j<i) {m:Nat} (hm:A.length+i=m):
  swR (A++(X++(Y++B))) (m - i) m j=(A++Y)++(X.drop j++(X.take j++B)):=by
 have e:A++(X++(Y++B))=A++(X.take j++(X.drop j++(Y++B))):=by
  rw[←List.append_assoc (X.take j),List.take_append_drop]
 have lt:(X.take j).length=j:=by rw[List.length_take];omega
 have ld:(X.drop j).length=i - j:=by rw[List.length_drop];omega
 have hs:=@swR_blocks A (X.take j) (X.drop j) Y B (by omega)
 rw[lt,ld,show A.length+j+(i - j)=m by omega] at hs
 rw[e,show m - i=A.length by omega,hs]
 simp
theorem rot_lt {A X Y B:List Int} {i j:Nat} (hi:X.length=i) (hj:Y.length=j) (h:i<j) {m:Nat} (hm:A.length+i=m):
  swR (A++(X++(Y++B))) (m - i) (m+j - i) i=A++(Y.drop (j - i)++(Y.take (j - i)++(X++B))):=by
 have e:A++(X++(Y++B))=A++(X++(Y.take (j - i)++(Y.drop (j - i)++B))):=by
  rw[←List.append_assoc (Y.take (j - i)),List.take_append_drop]
 have lt:(Y.take (j - i)).length=j - i:=by rw[List.length_take];omega
 have ld:(Y.drop (j - i)).length=i:=by rw[List.length_drop];omega
 have hs:=@swR_blocks A X (Y.take (j - i)) (Y.drop (j - i)) B (by omega)
 rw[hi,lt,show A.length+i+(j - i)=m+j - i by omega] at hs
 rw[e,show m - i=A.length by omega,hs]
theorem rot_eq {A X Y B:List Int} {i:Nat} (hi:X.length=i) (hj:Y.length=i) {m:Nat} (hm:A.length+i=m):
  swR (A++(X++(Y++B))) (m - i) m i=A++(Y++(X++B)):=by
 have hs:=@swR_blocks A X [] Y B (by omega)
 simp only[List.nil_append,List.length_nil,Nat.add_zero] at hs
 rw[hi,hm] at hs
 rw[show m - i=A.length by omega,hs]
theorem seg_get {l:List Int} {a b k:Nat} (h:k<(seg l a b).length):(seg l a b)[k]=nthD l (a+k) 0:=by
 have h2:nthD (seg l a b) k 0=nthD l (a+k) 0:=by
  have h3:k<b - a:=by
   unfold seg at h
   rw[List.length_take] at h
   omega
  unfold seg nthD
  rw[List.getElem?_take,if_pos h3,List.getElem?_drop]
 rwa [nthD_eq h] at h2
def mvP (l:List Int) (a b c:Nat):List Int:=l.take a++((seg l (a+1) b).take c++nthD l a 0::((seg l (a+1) b).drop c++l.drop b))
theorem mvP_start {l:List Int} {a b:Nat} (h1:a<b) (h2:b≤l.length):mvP l a b 0=l:=by
 unfold mvP
 rw[List.take_zero,List.drop_zero,List.nil_append,←drop_seg (by omega),←drop_nthI (by omega),List.take_append_drop]
theorem mvP_len {l:List Int} {a b c:Nat} (h1:a<b) (h2:b≤l.length):(mvP l a b c).length=l.length:=by
 have:=seg_len (l:=l) (show a+1≤b by omega) h2
 unfold mvP
 simp only[List.length_append,List.length_cons,List.length_take,List.length_drop,this]
 omega
theorem mvP_at {l:List Int} {a b c:Nat} (h1:a+1+c<b) (h2:b≤l.length):
  nthD (mvP l a b c) (a+c) 0=nthD l a 0∧nthD (mvP l a b c) (a+c+1) 0=nthD l (a+1+c) 0∧((mvP l a b c).set (a+c) (nthD l (a+1+c) 0)).set (a+c+1) (nthD l a 0)=mvP l a b (c+1):=by
 have hl:=seg_len (l:=l) (show a+1≤b by omega) h2
 have hc:c<(seg l (a+1) b).length:=by omega
 have hy:(seg l (a+1) b)[c]=nthD l (a+1+c) 0:=seg_get hc
 have t1:(seg l (a+1) b).take (c+1)=(seg l (a+1) b).take c++[nthD l (a+1+c) 0]:=by rw[List.take_succ_eq_append_getElem hc,hy]
 have t2:(seg l (a+1) b).drop c=nthD l (a+1+c) 0::(seg l (a+1) b).drop (c+1):=by rw[List.drop_eq_getElem_cons hc,hy]
 have f1:mvP l a b c=(l.take a++(seg l (a+1) b).take c)++nthD l a 0::nthD l (a+1+c) 0::((seg l (a+1) b).drop (c+1)++l.drop b):=by
  unfold mvP
  rw[t2]
  simp
 have f2:mvP l a b (c+1)=(l.take a++(seg l (a+1) b).take c)++nthD l (a+1+c) 0::nthD l a 0::((seg l (a+1) b).drop (c+1)++l.drop b):=by
  unfold mvP
  rw[t1]
  simp
 have f3:(l.take a++(seg l (a+1) b).take c).length=a+c:=by
  rw[List.length_append,List.length_take,List.length_take]
  omega
 rw[f1,f2]
 generalize l.take a++(seg l (a+1) b).take c=A at*
 generalize (seg l (a+1) b).drop (c+1)++l.drop b=B at*
 generalize nthD l a 0=x at*
 generalize nthD l (a+1+c) 0=y at*
 rw[←f3]
 refine⟨nth_app,nth_app1,?_⟩
 rw[List.set_append_right _ _ (by omega),List.set_append_right _ _ (by omega)]
 simp
theorem mvP_done {D:Int→Int} {l:List Int} {a b c:Nat} (h1:a+1+c≤b) (h2:b≤l.length) (hT:Srt D (seg l (a+1) b)) (h3:∀s∈(seg l (a+1) b).drop c,leD D (nthD l a 0) s=true) (h4:c=0∨leD D (nthD l (a+c) 0) (nthD l a 0)=true):mvP l a b c=srtP D l a b:=by
 have hl:=seg_len (l:=l) (show a+1≤b by omega) h2
 have key:Srt D ((seg l (a+1) b).take c++nthD l a 0::(seg l (a+1) b).drop c):=by
  refine ins_srt hT h3 ?_
  rcases h4 with rfl|h4
  ·exact .inl rfl
  ·by_cases hc:c=0
   ·exact .inl hc
   ·refine .inr ⟨by omega,?_⟩
    have:nthD (seg l (a+1) b) (c - 1) 0=nthD l (a+c) 0:=by
     rw[nthD_eq (show c - 1<(seg l (a+1) b).length by omega),seg_get]
     congr 1
     omega
    rw[this]
    exact h4
 have hs:seg l a b=nthD l a 0::seg l (a+1) b:=by
  have e1:=drop_seg (l:=l) (show a≤b by omega)
  rw[drop_nthI (show a<l.length by omega),drop_seg (show a+1≤b by omega),←List.cons_append] at e1
  exact(List.append_cancel_right e1).symm
 have hp:((seg l (a+1) b).take c++nthD l a 0::(seg l (a+1) b).drop c).Perm (seg l a b):=by
  rw[hs]
  refine List.perm_middle.trans ?_
  rw[List.take_append_drop]
 unfold mvP srtP
 rw[←srt_eq hp key]
 simp
theorem u64_in {n:Int} (h0:0≤n) (h1:n<18446744073709551616):inR .u64 n:=by
 show IntKind.u64.wrap n=n
 simp only[IntKind.wrap,IntKind.bits,IntKind.signed]
 simp
 omega
theorem pow_mono {a b:Nat} (h:a≤b):(4294967296:Int)^a≤4294967296^b:=by
 obtain⟨m,rfl⟩:=Nat.exists_eq_add_of_le h
 rw[Int.pow_add]
 have q1:=pow_pos a
 have q2:=pow_pos m
 have:=Int.mul_le_mul_of_nonneg_left (show(1:Int)≤4294967296^m by omega) (Int.le_of_lt q1)
 rwa [Int.mul_one] at this
@[reducible] def sF:SId:=.pair .b (.pair (.lst (.i .u32)) (.lst (.i .u32)))
def Sz (k:Nat) (q:Rat):Prop:=(q.num.natAbs:Int)<4294967296^k∧(q.den:Int)<4294967296^k
theorem Sz.mono {j k:Nat} {q:Rat} (h:Sz j q) (hk:j≤k):Sz k q:=by
 have:=pow_mono hk
 exact⟨by have:=h.1;omega,by have:=h.2;omega⟩
end Go.Vi
