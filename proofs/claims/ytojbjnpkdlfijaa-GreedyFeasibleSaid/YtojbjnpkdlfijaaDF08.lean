/-
  Contracts: a row of the problem; the game of the greedy method.
  Conditions: none.
-/
import Derived.Test.YtojbjnpkdlfijaaDF06
import Derived.Test.YtojbjnpkdlfijaaDF07
set_option maxRecDepth 100000
set_option maxHeartbeats 4000000
set_option linter.unusedSimpArgs false
set_option linter.unusedVariables false
namespace Go.Vi
open Go.Proofs.Ytojbjnpkdlfijaa.Ir
open Go.Proofs
structure Game where
 rows:List (List Int)
 bounds:List Int
 offers:List Off
def codG:Cod Game where
 put a:=.agg [.row (.lst (.i .i64)) a.rows,.row (.i .i64) a.bounds,.row .off a.offers]
 dec
  | .agg [r,v,x]=>match decRow (.lst (.i .i64)) r,decRow (.i .i64) v,decRow .off x with
   |some c,some v,some x=>some ⟨c,v,x⟩
   |_,_,_=>none
  |_=>none
 ok v a h:=by
  split at h
  ·split at h
   ·rename_i h1 h2 h3
    simp only[Option.some.injEq] at h;subst h
    simp only[SV.g,gL,decRow_ok h1,decRow_ok h2,decRow_ok h3]
   ·cases h
  ·cases h
 inj a b h:=by
  obtain⟨c,v,x⟩:=a
  obtain⟨c',v',x'⟩:=b
  simp only[SV.g,gL,AV.agg.injEq,List.cons.injEq,and_true,true_and,AV.sl.injEq] at h
  have m1:=flatA_inj (.lst (.i .i64)) h.1.1 h.1.2
  have m2:=flatA_inj (.i .i64) h.2.1.1 h.2.1.2
  have m3:=flatA_inj .off h.2.2.1 h.2.2.2
  rw[m1,m2,m3]
def r335:SCtr:=⟨46,Prob,.one codP,fun _=>True,fun p=> .si .i64 (if checkE p=0 then nrows p else 0)⟩
theorem h335:Holds Try.prog r335:=by
 refine con (L:=[r79,r157]) r335 F335 (fun _ _=> .look) (OwnOK.none _) (by simpa using⟨h79,h157⟩) (by kernel_rfl) (by kernel_rfl) (fun _=>rfl) ?_
 rintro(p:Prob) -
 refine vcOf (let z0:=decide (checkE p≠(0:Int));let z1:=SV.si .i64 (if checkE p=(0:Int) then nrows p else(0:Int));True∧(z0=true→(SV.il .i64 0).same z1)∧(z0=false→p.classes.length≤8∧(SV.si .i64 (nrows p)).same z1)) (by kernel_rfl) ?_
 simp only[vcs]
 refine⟨fun h=>by rw[if_neg h],fun h=>?_⟩
 have hc:checkE p=0:=Classical.not_not.1 h
 rw[if_pos hc]
 have:=(good_of hc).1
 exact⟨this,rfl⟩
def rowR (p:Prob) (r:Int) (n:Nat):List Int:=(p.offers.take n).map (coefS p r)
def r336:SCtr:=⟨47,Prob×Int,.cons codP (.one (codI .i64)),fun a=>checkE a.1=0∧0≤a.2∧a.2<nrows a.1,fun a=> .tup [.row (.i .i64) (rowR a.1 a.2 a.1.offers.length),.si .i64 (boundS a.1 a.2)]⟩
def Λ336 (a:Prob×Int):Nat→LoopAnn
 |5=> .inv Int (fun i=>⟨[(1,.si .i64 a.2),(4,.ow 1 (rowR a.1 a.2 i.toNat).length 1),(6,.ptr 2 0 20),(20,.row .off a.1.offers),(21,.si .i64 a.1.offers.length),(22,.si .i64 i)],[.cells a.1.ss 27 20 false,.row (.i .i64) (rowR a.1 a.2 i.toNat) 3 true,.cells a.1.ss 69 20 false]⟩)
   (fun s=>iS s 22) (fun i=>0≤i∧i≤a.1.offers.length) (fun i=>(a.1.offers.length - i).toNat) fun _ _=> .look
 |_=> .look
theorem h336:Holds Try.prog r336:=by
 refine con (L:=[r335,r156,r158]) r336 F336 Λ336 (OwnOK.none _) (by simpa using⟨h335,h156,h158⟩) (by kernel_rfl) (by kernel_rfl) (fun _=>rfl) ?_
 rintro⟨p,r⟩ ⟨hc,r0,r1⟩
 simp only at hc r0 r1
 refine vcOf (let z0:=decide (r<(0:Int));let z1:=SId.i .i64;let z2:=SV.il .i64 0;let z3:=[SV.si .i64 (boundS p r)];let z4:=SV.tup (SV.row z1 (rowR p r p.offers.length)::z3);let z5:=decide ((if checkE p=(0:Int) then nrows p else(0:Int))≤r);let z6:=SV.ptr 2 0 20;let z7:=SV.row SId.off p.offers;let z8:=(↑p.offers.length:Int);let z9:=(↑p.offers.length:Int);let z10:=SV.si .i64 z9;let z11:=[SV.si .i64 p.supply.a0,SV.si .i64 p.supply.a1,SV.si .i64 p.supply.a2,SV.si .i64 p.supply.a3,SV.si .i64 p.supply.a4,SV.si .i64 p.supply.a5,SV.si .i64 p.opn.a0,SV.si .i64 p.opn.a1,SV.si .i64 p.opn.a2,SV.si .i64 p.opn.a3,SV.si .i64 p.opn.a4,SV.si .i64 p.opn.a5,SV.si .i64 p.cls.a0,SV.si .i64 p.cls.a1,SV.si .i64 p.cls.a2,SV.si .i64 p.cls.a3,SV.si .i64 p.cls.a4,SV.si .i64 p.cls.a5,SV.row z1 p.classes,z7];let z12:=SObj.cells z11 27 20 false;let z13:=SObj.cells z11 69 20 false;(z0=true→0=0∧(SV.tup [SV.row z1 [],z2]).same z4)∧(z0=false→True∧(z5=true→0=0∧(SV.tup [SV.row z1 [],z2]).same z4)∧(z5=false→((((SV.si .i64 r).same (SV.si .i64 r)∧(SV.ow 1 0 1).same (SV.ow 1 (rowR p r 0).length 1)∧z6.same z6∧z7.same z7∧(SV.si .i64 z8).same z10∧z2.same (SV.si .i64 0)∧True)∧z12.same z12∧(SObj.row z1 [] 3 true).same (SObj.row z1 (rowR p r 0) 3 true)∧z13.same z13∧True)∧(0:Int)≤(0:Int)∧(0:Int)≤z9)∧∀(x:Int),let z14:=nthD p.offers x.toNat SId.off.dflt;let z15:=rowR p r x.toNat;let z16:=z15.length+1;let z17:=x+(1:Int);let z18:=z15++[coefS p r z14];let z19:=SV.si .i64 z17;(0:Int)≤x∧x≤z9→(decide (x<z9)=true→(0:Int)≤x∧x<z8∧x.toNat<p.offers.length∧(p.classes.length≤8∧(0:Int)≤r∧r<nrows p∧(0:Int)≤z14.bidder∧z14.bidder<(↑p.classes.length:Int))∧z15.length=z15.length∧z16*8≤140737488355328∧z16≤1000000000000∧inR .i64 z17∧(((SV.si .i64 r).same (SV.si .i64 r)∧(SV.ow 1 z18.length 1).same (SV.ow 1 (rowR p r z17.toNat).length 1)∧z6.same z6∧z7.same z7∧z10.same z10∧z19.same z19∧True)∧z12.same z12∧(SObj.row z1 z18 3 true).same (SObj.row z1 (rowR p r z17.toNat) 3 true)∧z13.same z13∧True)∧((0:Int)≤z17∧z17≤z9)∧(z9 - z17).toNat<(z9 - x).toNat)∧(decide (x<z9)=false→(p.classes.length≤8∧(0:Int)≤r∧r<nrows p)∧z15.length=z15.length∧(SV.tup (SV.row z1 z15::z3)).same z4)))) (by kernel_rfl) ?_
 simp only[vcs]
 obtain⟨g1,g2,g3,g4,g5⟩:=good_of hc
 have how:∀{x y:Nat},x=y→(SV.ow 1 x 1).same (SV.ow 1 y 1):=by rintro _ _ rfl;rfl
 have hrow:∀{x y:List Int},x=y→(SObj.row (.i .i64) x 3 true).same (SObj.row (.i .i64) y 3 true):=by rintro _ _ rfl;rfl
 rw[if_pos hc]
 refine⟨fun h=>by omega,fun _=>⟨fun h=>by omega,fun _=>⟨⟨?_,by omega,by omega⟩,?_⟩⟩⟩
 ·exact⟨how rfl,hrow rfl⟩
 ·rintro i ⟨i0,i1⟩
  have hL:(rowR p r i.toNat).length≤160:=by unfold rowR;rw[List.length_map,List.length_take];omega
  refine⟨fun hi=>?_,fun hi=>?_⟩
  ·have hx:=g5 _ (nthD_mem (d:=SId.off.dflt) (show i.toNat<p.offers.length by omega))
   have e:rowR p r (i+1).toNat=rowR p r i.toNat++[coefS p r (nthD p.offers i.toNat SId.off.dflt)]:=by
    unfold rowR
    rw[take_nth (d:=SId.off.dflt) i0 hi,List.map_append]
    rfl
   rw[e]
   exact⟨i0,hi,by omega,⟨g1,r0,r1,hx.1,hx.2.1⟩,by omega,by omega,by omega,⟨how rfl,hrow rfl⟩,by omega,by omega⟩
  ·rw[show i.toNat=p.offers.length by omega]
   exact⟨⟨g1,r0,r1⟩,rfl⟩
def rowsR (p:Prob) (n:Nat):List (List Int):=(List.range n).map fun r:Nat=>rowR p r p.offers.length
def bndR (p:Prob) (n:Nat):List Int:=(List.range n).map fun r:Nat=>boundS p r
def nR (p:Prob):Nat:=if checkE p=0 then p.classes.length+12 else 0
def gameR (p:Prob):Game:=⟨rowsR p (nR p),bndR p (nR p),p.offers⟩
theorem rowsR_len {p:Prob} {n:Nat}:(rowsR p n).length=n:=by simp[rowsR]
theorem bndR_len {p:Prob} {n:Nat}:(bndR p n).length=n:=by simp[bndR]
theorem rowsR_succ {p:Prob} {i:Int} (h:0≤i):rowsR p (i+1).toNat=rowsR p i.toNat++[rowR p i p.offers.length]:=by
 unfold rowsR
 rw[show(i+1).toNat=i.toNat+1 from by omega,List.range_succ,List.map_append]
 simp only[List.map_cons,List.map_nil,show((i.toNat:Nat):Int)=i from by omega]
theorem bndR_succ {p:Prob} {i:Int} (h:0≤i):bndR p (i+1).toNat=bndR p i.toNat++[boundS p i]:=by
 unfold bndR
 rw[show(i+1).toNat=i.toNat+1 from by omega,List.range_succ,List.map_append]
 simp only[List.map_cons,List.map_nil,show((i.toNat:Nat):Int)=i from by omega]
def r325:SCtr:=⟨30,Prob,.one codP,fun _=>True,fun p=>codG.put (gameR p)⟩
def Λ325 (p:Prob):Nat→LoopAnn
 |3=> .inv Int (fun i=>⟨[(1,.ptr 0 0 20),(2,.ptr 1 0 3),(3,.ptr 2 0 3),(11,.si .i64 (nR p)),(12,.si .i64 i)],[.cells p.ss 27 20 false,.cells [.sc (.slice none 0 0),.sc (.slice none 0 0),.sc (.slice none 0 0)] 54 3 false,.cells [.ow 4 (rowsR p i.toNat).length 1,.ow 3 (bndR p i.toNat).length 1,.row .off p.offers] 54 3 false,.row (.i .i64) (bndR p i.toNat) 3 true,.row (.lst (.i .i64)) (rowsR p i.toNat) 24 false]⟩)
   (fun s=>iS s 12) (fun i=>0≤i∧i≤nR p) (fun i=>(nR p - i).toNat) fun _ _=> .look
 |_=> .look
theorem h325:Holds Try.prog r325:=by
 refine con (L:=[r335,r336]) r325 F325 Λ325 (OwnOK.none _) (by simpa using⟨h335,h336⟩) (by kernel_rfl) (by kernel_rfl) (fun _=>rfl) ?_
 rintro(p:Prob) -
 refine vcOf (let z0:=SV.ptr 0 0 20;let z1:=SV.ptr 1 0 3;let z2:=SV.ptr 2 0 3;let z3:=(↑(nR p):Int);let z4:=SV.si .i64 z3;let z5:=SId.i .i64;let z6:=[SV.row SId.off p.offers];let z7:=SObj.cells (SV.si .i64 p.supply.a0::SV.si .i64 p.supply.a1::SV.si .i64 p.supply.a2::SV.si .i64 p.supply.a3::SV.si .i64 p.supply.a4::SV.si .i64 p.supply.a5::SV.si .i64 p.opn.a0::SV.si .i64 p.opn.a1::SV.si .i64 p.opn.a2::SV.si .i64 p.opn.a3::SV.si .i64 p.opn.a4::SV.si .i64 p.opn.a5::SV.si .i64 p.cls.a0::SV.si .i64 p.cls.a1::SV.si .i64 p.cls.a2::SV.si .i64 p.cls.a3::SV.si .i64 p.cls.a4::SV.si .i64 p.cls.a5::SV.row z5 p.classes::z6) 27 20 false;let z8:=SV.sc (Value.slice none 0 0);let z9:=SObj.cells [z8,z8,z8] 54 3 false;True∧(((z0.same z0∧z1.same z1∧z2.same z2∧(SV.si .i64 (if checkE p=(0:Int) then nrows p else(0:Int))).same z4∧(SV.il .i64 0).same (SV.si .i64 0)∧True)∧z7.same z7∧z9.same z9∧(SObj.cells (SV.ow 4 0 1::SV.ow 3 0 1::z6) 54 3 false).same (SObj.cells (SV.ow 4 (rowsR p 0).length 1::SV.ow 3 (bndR p 0).length 1::z6) 54 3 false)∧(SObj.row z5 [] 3 true).same (SObj.row z5 (bndR p 0) 3 true)∧(SObj.row z5.lst [] 24 false).same (SObj.row z5.lst (rowsR p 0) 24 false)∧True)∧(0:Int)≤(0:Int)∧(0:Int)≤z3)∧∀(x:Int),let z10:=rowsR p x.toNat;let z11:=z10.length+1;let z12:=bndR p x.toNat;let z13:=z12.length+1;let z14:=x+(1:Int);let z15:=SV.si .i64 z14;let z16:=z10++[rowR p x p.offers.length];(0:Int)≤x∧x≤z3→(decide (x<z3)=true→(checkE p=(0:Int)∧(0:Int)≤x∧x<nrows p)∧1=1∧z10.length=z10.length∧z11*24≤140737488355328∧z11≤1000000000000∧1=1∧z12.length=z12.length∧z13*8≤140737488355328∧z13≤1000000000000∧inR .i64 z14∧((z0.same z0∧z1.same z1∧z2.same z2∧z4.same z4∧z15.same z15∧True)∧z7.same z7∧z9.same z9∧(SObj.cells (SV.ow 4 z16.length 1::SV.ow 3 (z12++[boundS p x]).length 1::z6) 54 3 false).same (SObj.cells (SV.ow 4 (rowsR p z14.toNat).length 1::SV.ow 3 (bndR p z14.toNat).length 1::z6) 54 3 false)∧(SObj.row z5 (z12++[boundS p x]) 3 true).same (SObj.row z5 (bndR p z14.toNat) 3 true)∧(SObj.row z5.lst z16 24 false).same (SObj.row z5.lst (rowsR p z14.toNat) 24 false)∧True)∧((0:Int)≤z14∧z14≤z3)∧(z3 - z14).toNat<(z3 - x).toNat)∧(decide (x<z3)=false→z10.length=z10.length∧z12.length=z12.length∧(SV.agg (SV.row z5.lst z10::SV.row z5 z12::z6)).same (SV.agg [SV.row z5.lst (gameR p).rows,SV.row z5 (gameR p).bounds,SV.row SId.off (gameR p).offers]))) (by kernel_rfl) ?_
 simp only[vcs]
 have hn:∀x:Int,0≤x→x<nR p→checkE p=0∧x<nrows p∧nR p≤20:=by
  intro x hx0 hx
  unfold nR at hx ⊢
  split at hx
  ·rename_i hc
   have:=(good_of hc).1
   rw[if_pos hc]
   exact⟨hc,by unfold nrows;omega,by omega⟩
  ·omega
 have e0:(if checkE p=0 then nrows p else 0)=((nR p:Nat):Int):=by
  unfold nR nrows
  split
  ·omega
  ·rfl
 have hcell:∀{a a' b b':Nat} {l:List Off},a=a'→b=b'→(SObj.cells [.ow 4 a 1,.ow 3 b 1,.row .off l] 54 3 false).same (.cells [.ow 4 a' 1,.ow 3 b' 1,.row .off l] 54 3 false):=by rintro _ _ _ _ _ rfl rfl;rfl
 have hrow:∀{x y:List Int},x=y→(SObj.row (.i .i64) x 3 true).same (SObj.row (.i .i64) y 3 true):=by rintro _ _ rfl;rfl
 have hrow2:∀{x y:List (List Int)},x=y→(SObj.row (.lst (.i .i64)) x 24 false).same (SObj.row (.lst (.i .i64)) y 24 false):=by rintro _ _ rfl;rfl
 refine⟨⟨⟨e0,hcell rfl rfl,hrow rfl,hrow2 rfl⟩,by omega,by omega⟩,?_⟩
 rintro i ⟨i0,i1⟩
 refine⟨fun hi=>?_,fun hi=>?_⟩
 ·obtain⟨hc,h1,h2⟩:=hn i i0 hi
  have l1:=@rowsR_len p i.toNat
  have l2:=@bndR_len p i.toNat
  rw[rowsR_succ i0,bndR_succ i0]
  exact⟨⟨hc,i0,h1⟩,by omega,by omega,by omega,by omega,by omega,⟨hcell rfl rfl,hrow rfl,hrow2 rfl⟩,by omega,by omega⟩
 ·rw[show i.toNat=nR p by omega]
  rfl
def GameOk (g:Game):Prop:=(g.rows.length=g.bounds.length∧g.bounds.length≤1000∧g.offers.length≤1000)∧(∀r∈g.rows,r.length=g.offers.length∧∀x∈r,0≤x∧x≤1000)∧∀b∈g.bounds, -1000≤b∧b≤1000
def valOk (g:Game) (c:List Int):Prop:=∀x∈c,0≤(nthD g.offers x.toNat SId.off.dflt).value∧(nthD g.offers x.toNat SId.off.dflt).value≤1000000
def idxOk (g:Game) (c:List Int):Prop:=c.length≤1000∧∀x∈c,0≤x∧x<g.offers.length
def useG (g:Game) (c:List Int) (r:Nat):Int:=(c.map fun x=>nthD (nthD g.rows r []) x.toNat 0).sum
def fitG (g:Game) (c:List Int):Bool:=(List.range g.bounds.length).all fun r=>decide (0≤nthD g.bounds r 0 - useG g c r)
def valG (g:Game) (c:List Int):Int:=(c.map fun x=>(nthD g.offers x.toNat SId.off.dflt).value).sum
theorem sumTk {f:Int→Int} {c:List Int} {i:Int} (h0:0≤i) (h:i<c.length):((c.take (i+1).toNat).map f).sum=((c.take i.toNat).map f).sum+f (nthD c i.toNat 0):=by
 rw[take_nth (d:=0) h0 h,List.map_append,List.sum_append]
 simp
theorem sumBd {f:Int→Int} {c:List Int} {k:Nat} {m:Int} (hm:0≤m) (h:∀x∈c,0≤f x∧f x≤m):0≤((c.take k).map f).sum∧((c.take k).map f).sum≤c.length*m:=by
 induction c generalizing k with
 |nil=>simp
 |cons x c ih=>
  cases k with
  |zero=>simp;exact Int.mul_nonneg (by omega) hm
  |succ k=>
   have h1:=h x (by simp)
   obtain⟨h2,h3⟩:=ih (k:=k) fun y hy=>h y (by simp[hy])
   simp only[List.take_succ_cons,List.map_cons,List.sum_cons,List.length_cons]
   rw[show(((c.length+1:Nat):Int))*m=c.length*m+m by rw[Int.natCast_add,Int.add_mul];simp]
   omega
def r327:SCtr:=⟨32,Game×List Int,.cons codG (.one (codR (.i .i64))),fun a=>GameOk a.1∧idxOk a.1 a.2,fun a=> .sb (fitG a.1 a.2)⟩
def Λ327 (g:Game) (c:List Int):Nat→LoopAnn
 |2=> .inv Int (fun i=>⟨[(1,.row (.i .i64) c),(2,.ptr 0 0 3),(10,.row (.i .i64) g.bounds),(11,.si .i64 g.bounds.length),(12,.si .i64 i)],[.cells [.row (.lst (.i .i64)) g.rows,.row (.i .i64) g.bounds,.row .off g.offers] 54 3 false]⟩)
   (fun s=>iS s 12) (fun i=>(0≤i∧i≤g.bounds.length)∧∀r:Nat,r<i→0≤nthD g.bounds r 0 - useG g c r) (fun i=>(g.bounds.length - i).toNat) fun i k=>match k with
   |5=> .inv (Int×Int) (fun y=>⟨[(1,.row (.i .i64) c),(2,.ptr 0 0 3),(5,.si .i64 i),(6,.si .i64 y.2),(10,.row (.i .i64) g.bounds),(11,.si .i64 g.bounds.length),(12,.si .i64 i),(17,.row (.i .i64) c),(18,.si .i64 c.length),(19,.si .i64 y.1)],[.cells [.row (.lst (.i .i64)) g.rows,.row (.i .i64) g.bounds,.row .off g.offers] 54 3 false]⟩)
     (fun s=>(iS s 19,iS s 6)) (fun y=>(0≤y.1∧y.1≤c.length)∧y.2=nthD g.bounds i.toNat 0 - useG g (c.take y.1.toNat) i.toNat) (fun y=>(c.length - y.1).toNat) fun _ _=> .look
   |_=> .look
 |_=> .look
theorem h327:Holds Try.prog r327:=by
 refine con (L:=[]) r327 F327 (fun a=>Λ327 a.1 a.2) (OwnOK.none _) (by simp) (by kernel_rfl) (by kernel_rfl) (fun _=>rfl) ?_
 rintro⟨g,c⟩ ⟨⟨⟨q1,q2,q3⟩,hr,hb⟩,hcl,hci⟩
 simp only at q1 q2 q3 hr hb hcl hci
 refine vcOf (let z0:=SId.i .i64;let z1:=SV.ptr 0 0 3;let z2:=SV.row z0 g.bounds;let z3:=(↑g.bounds.length:Int);let z4:=(↑g.bounds.length:Int);let z5:=SV.si .i64 z4;let z6:=SObj.cells [SV.row z0.lst g.rows,z2,SV.row SId.off g.offers] 54 3 false;let z7:=(↑c.length:Int);let z8:=SV.si .i64 z7;((((SV.row z0 c).same (SV.row z0 c)∧z1.same z1∧z2.same z2∧(SV.si .i64 z3).same z5∧(SV.il .i64 0).same (SV.si .i64 0)∧True)∧z6.same z6∧True)∧((0:Int)≤(0:Int)∧(0:Int)≤z4)∧∀(r:Nat),(↑r:Int)<(0:Int)→(0:Int)≤nthD g.bounds r (0:Int) - useG g c r)∧∀(x:Int),let z9:=nthD g.bounds x.toNat (0:Int);let z10:=SV.si .i64 z9;let z11:=nthD g.rows x.toNat z0.lst.dflt;let z12:=x+(1:Int);let z13:=SV.si .i64 z12;(((0:Int)≤x∧x≤z4)∧∀(r:Nat),(↑r:Int)<x→(0:Int)≤nthD g.bounds r (0:Int) - useG g c r)→(decide (x<z4)=true→(0:Int)≤x∧x<z3∧x.toNat<g.bounds.length∧((((SV.row z0 c).same (SV.row z0 c)∧z1.same z1∧(SV.si .i64 x).same (SV.si .i64 x)∧z10.same z10∧z2.same z2∧z5.same z5∧(SV.si .i64 x).same (SV.si .i64 x)∧(SV.row z0 c).same (SV.row z0 c)∧(SV.si .i64 (↑c.length:Int)).same z8∧(SV.il .i64 0).same (SV.si .i64 0)∧True)∧z6.same z6∧True)∧((0:Int)≤(0:Int)∧(0:Int)≤z7)∧z9=z9 - useG g [] x.toNat)∧∀(x_1:Int×Int),let z14:=nthD c x_1.fst.toNat (0:Int);let z15:=x_1.snd - nthD z11 z14.toNat (0:Int);let z16:=x_1.fst+(1:Int);let z17:=SV.si .i64 x;let z18:=SV.si .i64 z15;let z19:=SV.si .i64 z16;let z20:=decide (x_1.snd<(0:Int));((0:Int)≤x_1.fst∧x_1.fst≤z7)∧x_1.snd=z9 - useG g (List.take x_1.fst.toNat c) x.toNat→(decide (x_1.fst<z7)=true→(0:Int)≤x_1.fst∧x_1.fst<(↑c.length:Int)∧x_1.fst.toNat<c.length∧(0:Int)≤x∧x<(↑g.rows.length:Int)∧x.toNat<g.rows.length∧(0:Int)≤z14∧z14<(↑z11.length:Int)∧z14.toNat<z11.length∧inR .i64 z15∧inR .i64 z16∧(((SV.row z0 c).same (SV.row z0 c)∧z1.same z1∧z17.same z17∧z18.same z18∧z2.same z2∧z5.same z5∧z17.same z17∧(SV.row z0 c).same (SV.row z0 c)∧z8.same z8∧z19.same z19∧True)∧z6.same z6∧True)∧(((0:Int)≤z16∧z16≤z7)∧z15=z9 - useG g (List.take z16.toNat c) x.toNat)∧(z7 - z16).toNat<(z7 - x_1.fst).toNat)∧(decide (x_1.fst<z7)=false→(z20=true→(SV.bl false).same (SV.sb (fitG g c)))∧(z20=false→inR .i64 z12∧(((SV.row z0 c).same (SV.row z0 c)∧z1.same z1∧z2.same z2∧z5.same z5∧z13.same z13∧True)∧z6.same z6∧True)∧(((0:Int)≤z12∧z12≤z4)∧∀(r:Nat),(↑r:Int)<z12→(0:Int)≤nthD g.bounds r (0:Int) - useG g c r)∧(z4 - z12).toNat<(z4 - x).toNat)))∧(decide (x<z4)=false→(SV.bl true).same (SV.sb (fitG g c)))) (by kernel_rfl) ?_
 simp only[vcs]
 have hd:(SId.i IntKind.i64).lst.dflt=([]:List Int):=rfl
 rw[hd]
 have hrr:∀r:Nat,r<g.rows.length→(nthD g.rows r []).length=g.offers.length∧∀x∈c,0≤nthD (nthD g.rows r []) x.toNat 0∧nthD (nthD g.rows r []) x.toNat 0≤1000:=fun r h=>by
  have:=hr _ (nthD_mem (d:=[]) h)
  refine⟨this.1,fun x hx=>?_⟩
  have h2:=hci x hx
  exact this.2 _ (nthD_mem (by rw[this.1];omega))
 refine⟨⟨by omega,fun r h=>by omega⟩,?_⟩
 rintro i ⟨⟨i0,i1⟩,hdone⟩
 refine⟨fun hi=>⟨i0,hi,by omega,⟨by omega,by simp[useG]⟩,?_⟩,fun hi=>?_⟩
 ·obtain⟨hrl,hrx⟩:=hrr i.toNat (by omega)
  have hbi:=hb _ (nthD_mem (d:=0) (show i.toNat<g.bounds.length by omega))
  rintro⟨j,v⟩ ⟨⟨j0,j1⟩,hv⟩
  simp only at j0 j1 hv ⊢
  refine⟨fun hj=>?_,fun hj=>?_⟩
  ·have hx:=hci _ (nthD_mem (d:=0) (show j.toNat<c.length by omega))
   have hs:useG g (c.take (j+1).toNat) i.toNat=useG g (c.take j.toNat) i.toNat+nthD (nthD g.rows i.toNat []) (nthD c j.toNat 0).toNat 0:=sumTk (f:=fun x=>nthD (nthD g.rows i.toNat []) x.toNat 0) j0 hj
   have hbd:0≤useG g (c.take j.toNat) i.toNat∧useG g (c.take j.toNat) i.toNat≤c.length*1000:=sumBd (f:=fun x=>nthD (nthD g.rows i.toNat []) x.toNat 0) (m:=1000) (by omega) hrx
   have hvx:=hrx _ (nthD_mem (d:=0) (show j.toNat<c.length by omega))
   rw[hs,hrl]
   exact⟨j0,hj,by omega,i0,by omega,by omega,hx.1,hx.2,by omega,by omega,by omega,⟨by omega,by omega⟩,by omega⟩
  ·have hjc:j.toNat=c.length:=by omega
   rw[hjc,List.take_length] at hv
   refine⟨fun hneg=>?_,fun hpos=>⟨by omega,⟨by omega,fun r h=>?_⟩,by omega⟩⟩
   ·symm
    rw[←Bool.not_eq_true,fitG,List.all_eq_true]
    intro h
    have:=of_decide_eq_true (h i.toNat (List.mem_range.2 (by omega)))
    omega
   ·by_cases h2:(r:Int)<i
    ·exact hdone r h2
    ·rw[show r=i.toNat by omega,←hv];omega
 ·symm
  rw[fitG,List.all_eq_true]
  intro r h
  rw[List.mem_range] at h
  exact decide_eq_true (hdone r (by omega))
def r328:SCtr:=⟨33,Game×List Int,.cons codG (.one (codR (.i .i64))),fun a=>GameOk a.1∧idxOk a.1 a.2∧valOk a.1 a.2,fun a=> .si .i64 (valG a.1 a.2)⟩
def Λ328 (g:Game) (c:List Int):Nat→LoopAnn
 |3=> .inv Int (fun i=>⟨[(2,.ptr 0 0 3),(5,.si .i64 (valG g (c.take i.toNat))),(8,.row (.i .i64) c),(9,.si .i64 c.length),(10,.si .i64 i)],[.cells [.row (.lst (.i .i64)) g.rows,.row (.i .i64) g.bounds,.row .off g.offers] 54 3 false]⟩)
   (fun s=>iS s 10) (fun i=>0≤i∧i≤c.length) (fun i=>(c.length - i).toNat) fun _ _=> .look
 |_=> .look
theorem h328:Holds Try.prog r328:=by
 refine con (L:=[]) r328 F328 (fun a=>Λ328 a.1 a.2) (OwnOK.none _) (by simp) (by kernel_rfl) (by kernel_rfl) (fun _=>rfl) ?_
 rintro⟨g,c⟩ ⟨⟨⟨q1,q2,q3⟩,hr,hb⟩,⟨hcl,hci⟩,hvv⟩
 simp only[valOk] at q1 q2 q3 hr hb hcl hci hvv
 refine vcOf (let z0:=SV.ptr 0 0 3;let z1:=SV.il .i64 0;let z2:=SId.i .i64;let z3:=(↑c.length:Int);let z4:=SV.si .i64 z3;let z5:=SObj.cells [SV.row z2.lst g.rows,SV.row z2 g.bounds,SV.row SId.off g.offers] 54 3 false;(((z0.same z0∧z1.same (SV.si .i64 (valG g []))∧(SV.row z2 c).same (SV.row z2 c)∧(SV.si .i64 (↑c.length:Int)).same z4∧z1.same (SV.si .i64 0)∧True)∧z5.same z5∧True)∧(0:Int)≤(0:Int)∧(0:Int)≤z3)∧∀(x:Int),let z6:=nthD c x.toNat (0:Int);let z7:=valG g (List.take x.toNat c);let z8:=z7+(nthD g.offers z6.toNat SId.off.dflt).value;let z9:=x+(1:Int);let z10:=SV.si .i64 z9;(0:Int)≤x∧x≤z3→(decide (x<z3)=true→(0:Int)≤x∧x<(↑c.length:Int)∧x.toNat<c.length∧(0:Int)≤z6∧z6<(↑g.offers.length:Int)∧z6.toNat<g.offers.length∧inR .i64 z8∧inR .i64 z9∧((z0.same z0∧(SV.si .i64 z8).same (SV.si .i64 (valG g (List.take z9.toNat c)))∧(SV.row z2 c).same (SV.row z2 c)∧z4.same z4∧z10.same z10∧True)∧z5.same z5∧True)∧((0:Int)≤z9∧z9≤z3)∧(z3 - z9).toNat<(z3 - x).toNat)∧(decide (x<z3)=false→(SV.si .i64 z7).same (SV.si .i64 (valG g c)))) (by kernel_rfl) ?_
 conv=>zeta
 try simp only[vcs]
 refine⟨⟨by simp[valG],by omega,by omega⟩,?_⟩
 rintro i ⟨i0,i1⟩
 refine⟨fun hi=>?_,fun hi=>?_⟩
 ·have hx:=hci _ (nthD_mem (d:=0) (show i.toNat<c.length by omega))
  have hs:valG g (c.take (i+1).toNat)=valG g (c.take i.toNat)+(nthD g.offers (nthD c i.toNat 0).toNat SId.off.dflt).value:=sumTk (f:=fun x=>(nthD g.offers x.toNat SId.off.dflt).value) i0 hi
  have hbd:0≤valG g (c.take i.toNat)∧valG g (c.take i.toNat)≤c.length*1000000:=sumBd (f:=fun x=>(nthD g.offers x.toNat SId.off.dflt).value) (m:=1000000) (by omega) hvv
  have hv1:=hvv _ (nthD_mem (d:=0) (show i.toNat<c.length by omega))
  rw[hs]
  refine⟨i0,hi,by omega,hx.1,hx.2,by omega,by omega,by omega,by first|trivial|rfl,by omega,by omega⟩
 ·rw[show i.toNat=c.length by omega,List.take_length]
def r326:SCtr:=⟨31,List Int×List Int,.cons (codR (.i .i64)) (.one (codR (.i .i64))),fun a=>a.1.length≤1000∧1≤a.2.length∧a.2.length≤1000,fun a=> .row (.i .i64) (sortI (a.1++a.2))⟩
theorem h326:Holds Try.prog r326:=by
 refine con (L:=[]) (W:=ownT [r330o,r337]) r326 F326 (fun _ _=> .look) (ownT_ok (by simpa using⟨h330o,h337⟩)) (by simp) (by kernel_rfl) (by kernel_rfl) (fun _=>rfl) ?_
 rintro⟨s,x⟩ ⟨h1,h2,h3⟩
 simp only at h1 h2 h3
 refine vcOf (let z0:=(s++x).length;s.length≤1000000∧s.length=s.length∧(s.length+x.length)*8≤140737488355328∧s.length+x.length≤1000000000000∧((s++x).length=z0∧1≤z0∧z0≤1000000)∧(s++x).length=(sortI (s++x)).length∧(SV.row (SId.i .i64) (sortI (s++x))).same (SV.row (SId.i .i64) (sortI (s++x)))) (by kernel_rfl) ?_
 conv=>zeta
 try simp only[vcs]
 have:=@sortI_len (s++x)
 rw[List.length_append] at this ⊢
 omega
def r339:SCtr:=⟨52,List Int×Int,.cons (codR (.i .i64)) (.one (codI .i64)),fun a=>a.1.length≤1000∧0≤a.2∧a.2<a.1.length,fun a=> .row (.i .i64) (a.1.take a.2.toNat++a.1.drop (a.2+1).toNat)⟩
theorem h339:Holds Try.prog r339:=by
 refine con (L:=[]) (W:=ownT [r330o,r347]) r339 F339 (fun _ _=> .look) (ownT_ok (by simpa using⟨h330o,h347⟩)) (by simp) (by kernel_rfl) (by kernel_rfl) (fun _=>rfl) ?_
 rintro⟨s,i⟩ ⟨h1,h2,h3⟩
 simp only at h1 h2 h3
 refine vcOf (let z0:=i+(1:Int);let z1:=cutI s i.toNat z0.toNat;let z2:=s.length - (z0 - i).toNat;s.length≤1000000∧inR .i64 z0∧((s.length=s.length∧1≤s.length∧s.length≤1000000)∧(0:Int)≤i∧i≤z0∧z0≤(↑s.length:Int))∧s.length=z1.length∧0+z2≤s.length∧(SV.row (SId.i .i64) (List.take z2 z1)).same (SV.row (SId.i .i64) (List.take i.toNat s++List.drop z0.toNat s))) (by kernel_rfl) ?_
 conv=>zeta
 try simp only[vcs]
 have hl:=@cutI_len s i.toNat (i+1).toNat (by omega) (by omega)
 refine⟨by omega,by omega,by omega,hl.symm,by omega,?_⟩
 unfold cutI
 rw[List.take_append_of_le_length (by rw[List.length_append,List.length_take,List.length_drop];omega),List.take_of_length_le (by rw[List.length_append,List.length_take,List.length_drop];omega)]
def idxC (c:List Int) (x:Int):Int:=if x∈c then(c.idxOf x:Int) else -1
theorem idxC_hit {c:List Int} {x:Int} {k:Nat} (h:k<c.length) (h1:∀j:Nat,j<k→nthD c j 0≠x) (h2:nthD c k 0=x):idxC c x=k:=by
 unfold idxC
 rw[if_pos (h2▸nthD_mem h)]
 congr 1
 rw[nthD_eq h] at h2
 rw[List.idxOf,List.findIdx_eq h]
 refine⟨by simp[h2],fun j hj=>?_⟩
 have:=h1 j hj
 rw[nthD_eq (by omega)] at this
 simp[this]
theorem idxC_miss {c:List Int} {x:Int} (h1:∀j:Nat,j<c.length→nthD c j 0≠x):idxC c x= -1:=by
 unfold idxC
 rw[if_neg]
 intro h
 obtain⟨k,hk,rfl⟩:=List.getElem_of_mem h
 exact h1 k hk (nthD_eq hk)
theorem idxC_pos {c:List Int} {x:Int}:0≤idxC c x↔x∈c:=by
 unfold idxC
 split
 ·rename_i h;exact⟨fun _=>h,fun _=>by omega⟩
 ·rename_i h;exact⟨fun h=>by omega,fun h'=>absurd h' h⟩
def r348:SCtr:=⟨67,List Int×Int,.cons (codR (.i .i64)) (.one (codI .i64)),fun a=>a.1.length≤1000,fun a=> .si .i64 (idxC a.1 a.2)⟩
def Λ348 (c:List Int) (x:Int):Nat→LoopAnn
 |2=> .inv Int (fun i=>⟨[(0,.row (.i .i64) c),(1,.si .i64 x),(7,.si .i64 c.length),(8,.si .i64 i)],[]⟩)
   (fun s=>iS s 8) (fun i=>(0≤i∧i≤c.length)∧∀k:Nat,(k:Int)<i→nthD c k 0≠x) (fun i=>(c.length - i).toNat) fun _ _=> .look
 |_=> .look
theorem h348:Holds Try.prog r348:=by
 refine con (L:=[]) r348 F348 (fun a=>Λ348 a.1 a.2) (OwnOK.none _) (by simp) (by kernel_rfl) (by kernel_rfl) (fun _=>rfl) ?_
 rintro⟨c,x⟩ h1
 replace h1:c.length≤1000:=h1
 refine vcOf (let z0:=SV.row (SId.i .i64) c;let z1:=(↑c.length:Int);let z2:=SV.si .i64 z1;let z3:=SV.si .i64 (idxC c x);(((z0.same z0∧(SV.si .i64 x).same (SV.si .i64 x)∧(SV.si .i64 (↑c.length:Int)).same z2∧(SV.il .i64 0).same (SV.si .i64 0)∧True)∧True)∧((0:Int)≤(0:Int)∧(0:Int)≤z1)∧∀(k:Nat),(↑k:Int)<(0:Int)→nthD c k (0:Int)≠x)∧∀(x_1:Int),let z4:=decide (x=nthD c x_1.toNat (0:Int));let z5:=x_1+(1:Int);let z6:=SV.si .i64 x;let z7:=SV.si .i64 z5;(((0:Int)≤x_1∧x_1≤z1)∧∀(k:Nat),(↑k:Int)<x_1→nthD c k (0:Int)≠x)→(decide (x_1<z1)=true→(0:Int)≤x_1∧x_1<(↑c.length:Int)∧x_1.toNat<c.length∧(z4=true→(SV.si .i64 x_1).same z3)∧(z4=false→inR .i64 z5∧((z0.same z0∧z6.same z6∧z2.same z2∧z7.same z7∧True)∧True)∧(((0:Int)≤z5∧z5≤z1)∧∀(k:Nat),(↑k:Int)<z5→nthD c k (0:Int)≠x)∧(z1 - z5).toNat<(z1 - x_1).toNat))∧(decide (x_1<z1)=false→(SV.il .i64 (-1:Int)).same z3)) (by kernel_rfl) ?_
 conv=>zeta
 try simp only[vcs]
 refine⟨⟨by omega,fun k h=>by omega⟩,?_⟩
 rintro i ⟨⟨i0,i1⟩,hk⟩
 refine⟨fun hi=>⟨i0,hi,by omega,fun he=>?_,fun he=>⟨by omega,⟨by omega,fun k h=>?_⟩,by omega⟩⟩,fun hi=>?_⟩
 ·rw[idxC_hit (k:=i.toNat) (by omega) (fun j hj=>hk j (by omega)) he.symm]
  omega
 ·by_cases h2:(k:Int)<i
  ·exact hk k h2
  ·rw[show k=i.toNat by omega]
   exact fun h=>he h.symm
 ·exact(idxC_miss fun j hj=>hk j (by omega)).symm
def r340:SCtr:=⟨53,List Int×Int,.cons (codR (.i .i64)) (.one (codI .i64)),fun a=>a.1.length≤1000,fun a=> .sb (decide (a.2∈a.1))⟩
theorem h340:Holds Try.prog r340:=by
 refine con (L:=[r348]) r340 F340 (fun _ _=> .look) (OwnOK.none _) (by simpa using h348) (by kernel_rfl) (by kernel_rfl) (fun _=>rfl) ?_
 rintro⟨c,x⟩ h1
 replace h1:c.length≤1000:=h1
 refine vcOf (c.length≤1000∧(SV.sb (decide ((0:Int)≤idxC c x))).same (SV.sb (decide (x∈c)))) (by kernel_rfl) ?_
 try simp only[vcs]
 exact⟨h1,by simp only[idxC_pos]⟩
theorem bound_bd {p:Prob} (hc:checkE p=0) {r:Int}:0≤boundS p r∧boundS p r≤4:=by
 obtain⟨_,_,g3,g4,_⟩:=good_of hc
 unfold boundS
 split
 ·omega
 ·split
  ·exact bun_nth g3 _
  ·exact bun_nth g4 _
theorem game_ok {p:Prob} (hp:p.offers.length≤1000):GameOk (gameR p):=by
 have hn:nR p≤20:=by
  unfold nR
  split
  ·rename_i hc
   have:=(good_of hc).1
   omega
  ·omega
 have hz:0<nR p→checkE p=0:=by
  unfold nR
  split
  ·exact fun _=>by assumption
  ·intro h;omega
 refine⟨⟨?_,?_,hp⟩,fun r hr=>?_,fun b hb=>?_⟩
 ·show(rowsR p (nR p)).length=(bndR p (nR p)).length
  rw[rowsR_len,bndR_len]
 ·show(bndR p (nR p)).length≤1000
  rw[bndR_len];omega
 ·obtain⟨k,hk,rfl⟩:=List.mem_map.1 (show r∈rowsR p (nR p) from hr)
  rw[List.mem_range] at hk
  have hc:=hz (by omega)
  refine⟨by simp[rowR,gameR],fun x hx=>?_⟩
  obtain⟨o,ho,rfl⟩:=List.mem_map.1 (show x∈rowR p k p.offers.length from hx)
  have:=coef_bd (p:=p) (r:=k) ((good_of hc).2.2.2.2 o (List.mem_of_mem_take ho)).2.2.1
  omega
 ·obtain⟨k,hk,rfl⟩:=List.mem_map.1 (show b∈bndR p (nR p) from hb)
  rw[List.mem_range] at hk
  have:=bound_bd (hz (by omega)) (r:=k)
  omega
def stepG (g:Game) (c:List Int) (x:Int):List Int:=if fitG g (sortI (c++[x]))=true then sortI (c++[x]) else c
def startG (g:Game) (l:List Int):List Int:=l.foldl (stepG g) []
def ordE (p:Prob):List Int:=if checkE p=0 then ordR p else[]
def startR (p:Prob):List Int:=startG (gameR p) (ordE p)
theorem sortI_mem {l:List Int} {x:Int}:x∈sortI l↔x∈l:=(List.mergeSort_perm _ _).mem_iff
theorem step_mem {g:Game} {c:List Int} {x y:Int} (h:y∈stepG g c x):y∈c∨y=x:=by
 unfold stepG at h
 split at h
 ·rw[sortI_mem] at h;simpa using h
 ·exact .inl h
theorem step_len {g:Game} {c:List Int} {x:Int}:(stepG g c x).length≤c.length+1:=by
 unfold stepG
 split
 ·rw[sortI_len];simp
 ·omega
theorem fold_mem {g:Game} {l:List Int}:∀{c:List Int} {y:Int},y∈l.foldl (stepG g) c→y∈c∨y∈l:=by
 induction l with
 |nil=>intro c y h;exact .inl h
 |cons x l ih=>
  intro c y h
  rcases ih h with h|h
  ·rcases step_mem h with h|h
   ·exact .inl h
   ·exact .inr (by simp[h])
  ·exact .inr (by simp[h])
theorem fold_len {g:Game} {l:List Int}:∀{c:List Int},(l.foldl (stepG g) c).length≤c.length+l.length:=by
 induction l with
 |nil=>intro c;simp
 |cons x l ih=>
  intro c
  have h1:=@ih (stepG g c x)
  have h2:=@step_len g c x
  simp only[List.foldl_cons,List.length_cons]
  omega
theorem start_len {g:Game} {l:List Int}:(startG g l).length≤l.length:=by
 have:=@fold_len g l []
 simpa[startG] using this
theorem start_succ {g:Game} {l:List Int} {i:Int} (h0:0≤i) (h:i<l.length):startG g (l.take (i+1).toNat)=stepG g (startG g (l.take i.toNat)) (nthD l i.toNat 0):=by
 unfold startG
 rw[take_nth (d:=0) h0 h,List.foldl_append]
 rfl
theorem ordE_mem {p:Prob} {x:Int} (h:x∈ordE p):checkE p=0∧inO p x:=by
 unfold ordE at h
 split at h
 ·rename_i hc
  rw[ordR,srt_mem,uptoI_mem] at h
  exact⟨hc,h⟩
 ·simp at h
theorem ordE_len {p:Prob}:(ordE p).length≤p.offers.length:=by
 unfold ordE
 split
 ·rw[ordR,srt_len,uptoI_len];omega
 ·simp
theorem start_idx {p:Prob} (hp:p.offers.length≤40) {k:Nat}:(startG (gameR p) ((ordE p).take k)).length≤40∧∀x∈startG (gameR p) ((ordE p).take k),checkE p=0∧inO p x:=by
 have h1:=@start_len (gameR p) ((ordE p).take k)
 have h2:=@ordE_len p
 rw[List.length_take] at h1
 refine⟨by omega,fun x hx=>?_⟩
 rcases fold_mem hx with h|h
 ·simp at h
 ·exact ordE_mem (List.mem_of_mem_take h)
def r312:SCtr:=⟨13,Prob,.one codP,fun p=>p.offers.length≤40,fun p=>codA.put ⟨startR p,valG (gameR p) (startR p)⟩⟩
def Λ312 (p:Prob):Nat→LoopAnn
 |4=> .inv Int (fun i=>⟨[(2,.ptr 1 0 2),(3,.ptr 2 0 3),(4,.row (.i .i64) (startG (gameR p) ((ordE p).take i.toNat))),(11,.row (.i .i64) (ordE p)),(12,.si .i64 (ordE p).length),(13,.si .i64 i)],[.cells p.ss 27 20 false,.cells [.sc (.slice none 0 0),.il .i64 0] 34 2 false,.cells [.row (.lst (.i .i64)) (gameR p).rows,.row (.i .i64) (gameR p).bounds,.row .off (gameR p).offers] 54 3 false,.dead]⟩)
   (fun s=>iS s 13) (fun i=>0≤i∧i≤(ordE p).length) (fun i=>((ordE p).length - i).toNat) fun _ _=> .look
 |_=> .look
theorem h312:Holds Try.prog r312:=by
 refine con (L:=[r325,r308,r326,r327,r328]) r312 F312 Λ312 (OwnOK.none _) (by simpa using⟨h325,h308,h326,h327,h328⟩) (by kernel_rfl) (by kernel_rfl) (fun _=>rfl) ?_
 intro(p:Prob) (hp:p.offers.length≤40)
 refine vcOf (let z0:=SV.ptr 1 0 2;let z1:=SV.ptr 2 0 3;let z2:=SId.i .i64;let z3:=if checkE p=(0:Int) then ordR p else[];let z4:=SV.row z2 (ordE p);let z5:=(↑(ordE p).length:Int);let z6:=SV.si .i64 z5;let z7:=SV.il .i64 0;let z8:=SObj.cells [SV.si .i64 p.supply.a0,SV.si .i64 p.supply.a1,SV.si .i64 p.supply.a2,SV.si .i64 p.supply.a3,SV.si .i64 p.supply.a4,SV.si .i64 p.supply.a5,SV.si .i64 p.opn.a0,SV.si .i64 p.opn.a1,SV.si .i64 p.opn.a2,SV.si .i64 p.opn.a3,SV.si .i64 p.opn.a4,SV.si .i64 p.opn.a5,SV.si .i64 p.cls.a0,SV.si .i64 p.cls.a1,SV.si .i64 p.cls.a2,SV.si .i64 p.cls.a3,SV.si .i64 p.cls.a4,SV.si .i64 p.cls.a5,SV.row z2 p.classes,SV.row SId.off p.offers] 27 20 false;let z9:=SObj.cells [SV.sc (Value.slice none 0 0),z7] 34 2 false;let z10:=SObj.cells [SV.row z2.lst (gameR p).rows,SV.row z2 (gameR p).bounds,SV.row SId.off (gameR p).offers] 54 3 false;True∧0=0∧p.offers.length≤40∧(((z0.same z0∧z1.same z1∧(SV.row z2 []).same (SV.row z2 (startG (gameR p) []))∧(SV.row z2 z3).same z4∧(SV.si .i64 (↑z3.length:Int)).same z6∧z7.same (SV.si .i64 0)∧True)∧z8.same z8∧z9.same z9∧z10.same z10∧SObj.dead.same SObj.dead∧True)∧(0:Int)≤(0:Int)∧(0:Int)≤z5)∧∀(x:Int),let z11:=startG (gameR p) (List.take x.toNat (ordE p));let z12:=sortI (z11++[nthD (ordE p) x.toNat (0:Int)]);let z13:=x+(1:Int);let z14:=SV.row z2 (startG (gameR p) (List.take z13.toNat (ordE p)));let z15:=SV.si .i64 z13;(0:Int)≤x∧x≤z5→(decide (x<z5)=true→(0:Int)≤x∧x<(↑(ordE p).length:Int)∧x.toNat<(ordE p).length∧(z11.length≤1000∧1≤1∧1≤1000)∧(GameOk (gameR p)∧idxOk (gameR p) z12)∧(fitG (gameR p) z12=true→inR .i64 z13∧((z0.same z0∧z1.same z1∧(SV.row z2 z12).same z14∧z4.same z4∧z6.same z6∧z15.same z15∧True)∧z8.same z8∧z9.same z9∧z10.same z10∧SObj.dead.same SObj.dead∧True)∧((0:Int)≤z13∧z13≤z5)∧(z5 - z13).toNat<(z5 - x).toNat)∧(fitG (gameR p) z12=false→inR .i64 z13∧((z0.same z0∧z1.same z1∧(SV.row z2 z11).same z14∧z4.same z4∧z6.same z6∧z15.same z15∧True)∧z8.same z8∧z9.same z9∧z10.same z10∧SObj.dead.same SObj.dead∧True)∧((0:Int)≤z13∧z13≤z5)∧(z5 - z13).toNat<(z5 - x).toNat))∧(decide (x<z5)=false→(GameOk (gameR p)∧idxOk (gameR p) z11∧valOk (gameR p) z11)∧(SV.agg [SV.row z2 z11,SV.si .i64 (valG (gameR p) z11)]).same (SV.agg [SV.row z2 (startR p),SV.si .i64 (valG (gameR p) (startR p))]))) (by kernel_rfl) ?_
 conv=>zeta
 try simp only[vcs]
 have hg:=@game_ok p (by omega)
 have hol:=@ordE_len p
 have e0:(if checkE p=0 then ordR p else[])=ordE p:=rfl
 rw[e0]
 refine⟨hp,⟨⟨rfl,rfl,rfl⟩,by omega,by omega⟩,?_⟩
 ·rintro i ⟨i0,i1⟩
  obtain⟨hsl,hsm⟩:=@start_idx p hp i.toNat
  refine⟨fun hi=>?_,fun hi=>?_⟩
  ·have hs:=@start_succ (gameR p) (ordE p) i i0 hi
   have hx:=ordE_mem (nthD_mem (d:=0) (show i.toNat<(ordE p).length by omega))
   rw[hs]
   generalize startG (gameR p) ((ordE p).take i.toNat)=c at*
   refine⟨i0,hi,by omega,⟨by omega,by omega,by omega⟩,⟨hg,by rw[sortI_len,List.length_append];simp;omega,fun x h=>?_⟩,fun h=>⟨by omega,by unfold stepG;rw[if_pos h],by omega,by omega⟩,fun h=>⟨by omega,by unfold stepG;rw[if_neg (by rw[h];simp)],by omega,by omega⟩⟩
   rw[sortI_mem,List.mem_append] at h
   rcases h with h|h
   ·exact(hsm x h).2
   ·rw[List.mem_singleton] at h
    rw[h];exact hx.2
  ·have hk:(ordE p).take i.toNat=ordE p:=List.take_of_length_le (by omega)
   rw[hk] at hsl hsm ⊢
   refine⟨⟨hg,⟨by omega,fun x h=>(hsm x h).2⟩,fun x h=>?_⟩,rfl⟩
   obtain⟨hc,hx⟩:=hsm x h
   have:=(off_ok hc hx).1
   have e:(nthD (gameR p).offers x.toNat SId.off.dflt).value=valO p x:=rfl
   rw[e]
   omega
def gSS (g:Game):List SV:=[.row (.lst (.i .i64)) g.rows,.row (.i .i64) g.bounds,.row .off g.offers]
def decGame:List SV→Option Game
 |[r,v,x]=>match decRow (.lst (.i .i64)) r,decRow (.i .i64) v,decRow .off x with
  |some c,some v,some x=>some ⟨c,v,x⟩
  |_,_,_=>none
 |_=>none
theorem decGame_ok {cs:List SV} {g:Game} (h:decGame cs=some g):gL cs=gL (gSS g):=by
 unfold decGame at h
 split at h
 ·split at h
  ·rename_i h1 h2 h3
   simp only[Option.some.injEq] at h;subst h
   simp only[gSS,gL,decRow_ok h1,decRow_ok h2,decRow_ok h3]
  ·cases h
 ·cases h
theorem gSS_inj {g g':Game} (h:gL (gSS g)=gL (gSS g')):g=g':=codG.inj g g' (by
 show AV.agg (gL (gSS g))=AV.agg (gL (gSS g'))
 rw[h])
def betG (g:Game) (v:Int) (c:List Int):Bool:=decide (v<valG g c)&&fitG g c
def r338:OCtr where
 f:=51
 α:=List Int×Game×Int
 put a:=[.row (.i .i64) a.1,.ptr 0 0 3,.ptr 1 0 1]
 st a:=[.cells (gSS a.2.1) 54 3 false,.cells [.si .i64 a.2.2] 2 1 false]
 dec v o:=match v,o with
  |[x,.ptr 0 0 3,.ptr 1 0 1],[.cells cs 54 3 false,.cells [y] 2 1 false]=>match decRow (.i .i64) x,decGame cs,y.int .i64 with
   |some x,some g,some y=>some (x,g,y)
   |_,_,_=>none
  |_,_=>none
 ok v o a h:=by
  split at h
  ·split at h
   ·rename_i h1 h2 h3
    simp only[Option.some.injEq] at h;subst h
    refine⟨by simp only[gL,decRow_ok h1],?_⟩
    simp only[gO,List.map_cons,List.map_nil,SObj.g,decGame_ok h2,gL,int_g h3]
    rfl
   ·cases h
  ·cases h
 inj a b h1 h2:=by
  simp only[gL,List.cons.injEq,and_true,SV.g,AV.sl.injEq] at h1
  simp only[gO,List.map_cons,List.map_nil,SObj.g,List.cons.injEq,AObj.cells.injEq,and_true,gL,SV.g,AV.sc.injEq,Value.int.injEq,true_and] at h2
  have h3:=gSS_inj h2.1
  have h4:=flatA_inj (.i .i64) h1.1 h1.2
  exact Prod.ext h4 (Prod.ext h3 h2.2)
 dom a:=GameOk a.2.1∧idxOk a.2.1 a.1∧valOk a.2.1 a.1
 res a:=.sb (betG a.2.1 a.2.2 a.1)
 out a:=[.cells (gSS a.2.1) 54 3 false,.cells [.si .i64 a.2.2] 2 1 false]
theorem h338:HoldsO Try.prog r338:=by
 refine conO (L:=[r327,r328]) (W:=[]) r338 F338 (fun _ _=> .look) (by simp) (by simpa using⟨h327,h328⟩) (by kernel_rfl) (fun _=>rfl) (by kernel_rfl) ?_
 rintro⟨c,g,v⟩ ⟨h1,h2,h3⟩
 simp only at h1 h2 h3
 refine vcOf (let z0:=decide (v<valG g c);let z1:=SObj.cells [SV.row (SId.i .i64).lst g.rows,SV.row (SId.i .i64) g.bounds,SV.row SId.off g.offers] 54 3 false;let z2:=SObj.cells [SV.si .i64 v] 2 1 false;(GameOk g∧idxOk g c∧valOk g c)∧(z0=true→(GameOk g∧idxOk g c)∧(SV.sb (fitG g c)).same (SV.sb (betG g v c))∧z1.same z1∧z2.same z2∧True)∧(z0=false→(SV.bl false).same (SV.sb (betG g v c))∧z1.same z1∧z2.same z2∧True)) (by kernel_rfl) ?_
 conv=>zeta
 try simp only[vcs]
 refine⟨⟨h1,h2,h3⟩,fun h=>⟨⟨h1,h2⟩,?_⟩,fun h=>?_⟩
 ·unfold betG;rw[decide_eq_true h,Bool.true_and]
 ·unfold betG;rw[decide_eq_false h,Bool.false_and]
def ex3 (g:Game) (c:List Int) (v:Int) (rest:List Int) (o k:Int):Option (List Int):=if k≤o∨k∈c then none else if betG g v (sortI (rest++[o,k]))=true then some (sortI (rest++[o,k])) else none
def ex2 (g:Game) (c:List Int) (v:Int) (rest:List Int) (o:Int):Option (List Int):=if o∈c then none else if betG g v (sortI (rest++[o]))=true then some (sortI (rest++[o])) else(List.range g.offers.length).findSome? fun k:Nat=>ex3 g c v rest o k
def outI (c:List Int) (i:Nat):List Int:=c.take i++c.drop (i+1)
def ex1 (g:Game) (c:List Int) (v:Int) (i:Nat):Option (List Int):=(List.range g.offers.length).findSome? fun o:Nat=>ex2 g c v (outI c i) o
def exG (g:Game) (c:List Int):Option (List Int):=(List.range c.length).findSome? fun i=>ex1 g c (valG g c) i
theorem find_none {n:Nat} {f:Nat→Option (List Int)} (h:∀i,i<n→f i=none):(List.range n).findSome? f=none:=by
 rw[List.findSome?_eq_none_iff]
 intro i hi
 exact h i (List.mem_range.1 hi)
theorem find_some {n i:Nat} {f:Nat→Option (List Int)} {t:List Int} (hi:i<n) (h:∀j,j<i→f j=none) (ht:f i=some t):(List.range n).findSome? f=some t:=by
 have e:List.range n=List.range i++(i::(List.range (n - (i+1))).map fun k=>i+1+k):=by
  have h1:=@List.range_add i (n - i)
  rw[show i+(n - i)=n by omega] at h1
  rw[h1,show n - i=(n - (i+1))+1 by omega,List.range_succ_eq_map]
  simp only[List.map_cons,List.map_map,Nat.add_zero]
  congr 2
  apply List.map_congr_left
  intro k _
  simp only[Function.comp]
  omega
 rw[e,List.findSome?_append,find_none h]
 simp[ht]
def gAll (g:Game):Prop:=GameOk g∧∀o∈g.offers,0≤o.value∧o.value≤1000000
def r331:SCtr:=⟨37,Game×List Int,.cons codG (.one (codR (.i .i64))),fun a=>gAll a.1∧(a.2.length≤900∧∀x∈a.2,0≤x∧x<a.1.offers.length),fun a=> .tup [.row (.i .i64) ((exG a.1 a.2).getD []),.sb (exG a.1 a.2).isSome]⟩
def st331 (g:Game) (c:List Int):SStore:=[.cells (gSS g) 54 3 false,.cells [.si .i64 (valG g c)] 2 1 false]
def Λ331 (g:Game) (c:List Int):Nat→LoopAnn
 |4=> .inv Int (fun i=>⟨[(1,.row (.i .i64) c),(2,.ptr 0 0 3),(7,.fn (.func 51) [] [.ptr 0 0 3,.ptr 1 0 1]),(19,.si .i64 c.length),(20,.si .i64 i)],st331 g c⟩)
   (fun s=>iS s 20) (fun i=>(0≤i∧i≤c.length)∧∀k:Nat,(k:Int)<i→ex1 g c (valG g c) k=none) (fun i=>(c.length - i).toNat) fun i k=>match k with
   |8=> .inv Int (fun o=>⟨[(1,.row (.i .i64) c),(2,.ptr 0 0 3),(7,.fn (.func 51) [] [.ptr 0 0 3,.ptr 1 0 1]),(9,.row (.i .i64) (outI c i.toNat)),(19,.si .i64 c.length),(20,.si .i64 i),(28,.si .i64 g.offers.length),(29,.si .i64 o)],st331 g c⟩)
     (fun s=>iS s 29) (fun o=>(0≤o∧o≤g.offers.length)∧∀k:Nat,(k:Int)<o→ex2 g c (valG g c) (outI c i.toNat) k=none) (fun o=>(g.offers.length - o).toNat) fun o k=>match k with
     |15=> .inv Int (fun z=>⟨[(1,.row (.i .i64) c),(2,.ptr 0 0 3),(7,.fn (.func 51) [] [.ptr 0 0 3,.ptr 1 0 1]),(9,.row (.i .i64) (outI c i.toNat)),(10,.si .i64 o),(12,.si .i64 z),(19,.si .i64 c.length),(20,.si .i64 i),(28,.si .i64 g.offers.length),(29,.si .i64 o)],st331 g c⟩)
       (fun s=>iS s 12) (fun z=>(o<z∧z≤g.offers.length)∧∀k:Nat,(k:Int)<z→ex3 g c (valG g c) (outI c i.toNat) o k=none) (fun z=>(g.offers.length - z).toNat) fun _ _=> .look
     |_=> .look
   |_=> .look
 |_=> .look
theorem h331:Holds Try.prog r331:=by
 refine con (L:=[r326,r328,r339,r340]) (W:=ownT [r338]) r331 F331 (fun a=>Λ331 a.1 a.2) (ownT_ok (by simpa using h338)) (by simpa using⟨h326,h328,h339,h340⟩) (by kernel_rfl) (by kernel_rfl) (fun _=>rfl) ?_
 rintro⟨g,c⟩ ⟨⟨hg,hv⟩,hcl,hci⟩
 simp only at hg hv hcl hci
 refine vcOf (let z0:=SId.i .i64;let z1:=SV.ptr 0 0 3;let z2:=SV.fn (Fn.func 51) [] [z1,SV.ptr 1 0 1];let z3:=(↑c.length:Int);let z4:=SV.si .i64 z3;let z5:=SObj.cells [SV.row z0.lst g.rows,SV.row z0 g.bounds,SV.row SId.off g.offers] 54 3 false;let z6:=SObj.cells [SV.si .i64 (valG g c)] 2 1 false;let z7:=(↑g.offers.length:Int);let z8:=(↑g.offers.length:Int);let z9:=SV.si .i64 z8;let z10:=SV.tup [SV.row z0 ((exG g c).getD []),SV.sb (exG g c).isSome];(GameOk g∧idxOk g c∧valOk g c)∧((((SV.row z0 c).same (SV.row z0 c)∧z1.same z1∧z2.same z2∧(SV.si .i64 (↑c.length:Int)).same z4∧(SV.il .i64 0).same (SV.si .i64 0)∧True)∧z5.same z5∧z6.same z6∧True)∧((0:Int)≤(0:Int)∧(0:Int)≤z3)∧∀(k:Nat),(↑k:Int)<(0:Int)→ex1 g c (valG g c) k=none)∧∀(x:Int),let z11:=x+(1:Int);let z12:=outI c x.toNat;let z13:=SV.row z0 z12;let z14:=SV.si .i64 z11;(((0:Int)≤x∧x≤z3)∧∀(k:Nat),(↑k:Int)<x→ex1 g c (valG g c) k=none)→(decide (x<z3)=true→(c.length≤1000∧(0:Int)≤x∧x<z3)∧((((SV.row z0 c).same (SV.row z0 c)∧z1.same z1∧z2.same z2∧(SV.row z0 (List.take x.toNat c++List.drop z11.toNat c)).same z13∧z4.same z4∧(SV.si .i64 x).same (SV.si .i64 x)∧(SV.si .i64 z7).same z9∧(SV.il .i64 0).same (SV.si .i64 0)∧True)∧z5.same z5∧z6.same z6∧True)∧((0:Int)≤(0:Int)∧(0:Int)≤z8)∧∀(k:Nat),(↑k:Int)<(0:Int)→ex2 g c (valG g c) z12 (↑k:Int)=none)∧∀(x_1:Int),let z15:=x_1+(1:Int);let z16:=SV.si .i64 x;let z17:=SV.si .i64 z15;let z18:=sortI (z12++[x_1]);let z19:=betG g (valG g c) z18;(((0:Int)≤x_1∧x_1≤z8)∧∀(k:Nat),(↑k:Int)<x_1→ex2 g c (valG g c) z12 (↑k:Int)=none)→(decide (x_1<z8)=true→c.length≤1000∧(decide (x_1∈c)=true→inR .i64 z15∧(((SV.row z0 c).same (SV.row z0 c)∧z1.same z1∧z2.same z2∧z13.same z13∧z4.same z4∧z16.same z16∧z9.same z9∧z17.same z17∧True)∧z5.same z5∧z6.same z6∧True)∧(((0:Int)≤z15∧z15≤z8)∧∀(k:Nat),(↑k:Int)<z15→ex2 g c (valG g c) z12 (↑k:Int)=none)∧(z8 - z15).toNat<(z8 - x_1).toNat)∧(decide (x_1∈c)=false→(z12.length≤1000∧1≤1∧1≤1000)∧(GameOk g∧idxOk g z18∧valOk g z18)∧(z19=true→(SV.tup [SV.row z0 z18,SV.bl true]).same z10)∧(z19=false→inR .i64 z15∧((((SV.row z0 c).same (SV.row z0 c)∧z1.same z1∧z2.same z2∧z13.same z13∧(SV.si .i64 x_1).same (SV.si .i64 x_1)∧z17.same z17∧z4.same z4∧z16.same z16∧z9.same z9∧(SV.si .i64 x_1).same (SV.si .i64 x_1)∧True)∧z5.same z5∧z6.same z6∧True)∧(x_1<z15∧z15≤z8)∧∀(k:Nat),(↑k:Int)<z15→ex3 g c (valG g c) z12 x_1 (↑k:Int)=none)∧∀(x:Int),let z20:=x+(1:Int);let z21:=SV.si .i64 x_1;let z22:=SV.si .i64 z20;let z23:=sortI (z12++[x_1,x]);let z24:=betG g (valG g c) z23;((x_1<x∧x≤z8)∧∀(k:Nat),(↑k:Int)<x→ex3 g c (valG g c) z12 x_1 (↑k:Int)=none)→(decide (x<z7)=true→c.length≤1000∧(decide (x∈c)=true→inR .i64 z20∧(((SV.row z0 c).same (SV.row z0 c)∧z1.same z1∧z2.same z2∧z13.same z13∧z21.same z21∧z22.same z22∧z4.same z4∧z16.same z16∧z9.same z9∧z21.same z21∧True)∧z5.same z5∧z6.same z6∧True)∧((x_1<z20∧z20≤z8)∧∀(k:Nat),(↑k:Int)<z20→ex3 g c (valG g c) z12 x_1 (↑k:Int)=none)∧(z8 - z20).toNat<(z8 - x).toNat)∧(decide (x∈c)=false→(z12.length≤1000∧1≤2∧2≤1000)∧(GameOk g∧idxOk g z23∧valOk g z23)∧(z24=true→(SV.tup [SV.row z0 z23,SV.bl true]).same z10)∧(z24=false→inR .i64 z20∧(((SV.row z0 c).same (SV.row z0 c)∧z1.same z1∧z2.same z2∧z13.same z13∧z21.same z21∧z22.same z22∧z4.same z4∧z16.same z16∧z9.same z9∧z21.same z21∧True)∧z5.same z5∧z6.same z6∧True)∧((x_1<z20∧z20≤z8)∧∀(k:Nat),(↑k:Int)<z20→ex3 g c (valG g c) z12 x_1 (↑k:Int)=none)∧(z8 - z20).toNat<(z8 - x).toNat)))∧(decide (x<z7)=false→inR .i64 z15∧(((SV.row z0 c).same (SV.row z0 c)∧z1.same z1∧z2.same z2∧z13.same z13∧z4.same z4∧z16.same z16∧z9.same z9∧z17.same z17∧True)∧z5.same z5∧z6.same z6∧True)∧(((0:Int)≤z15∧z15≤z8)∧∀(k:Nat),(↑k:Int)<z15→ex2 g c (valG g c) z12 (↑k:Int)=none)∧(z8 - z15).toNat<(z8 - x_1).toNat))))∧(decide (x_1<z8)=false→inR .i64 z11∧(((SV.row z0 c).same (SV.row z0 c)∧z1.same z1∧z2.same z2∧z4.same z4∧z14.same z14∧True)∧z5.same z5∧z6.same z6∧True)∧(((0:Int)≤z11∧z11≤z3)∧∀(k:Nat),(↑k:Int)<z11→ex1 g c (valG g c) k=none)∧(z3 - z11).toNat<(z3 - x).toNat))∧(decide (x<z3)=false→(SV.tup [SV.row z0 [],SV.bl false]).same z10)) (by kernel_rfl) ?_
 conv=>zeta
 try simp only[vcs]
 have hvo:∀d:List Int,(∀x∈d,0≤x∧x<g.offers.length)→valOk g d:=fun d hd x hx=>hv _ (nthD_mem (by have:=hd x hx;omega))
 have hout:∀i:Nat,(outI c i).length≤900∧∀x∈outI c i,x∈c:=fun i=>by
  unfold outI
  refine⟨by rw[List.length_append,List.length_take,List.length_drop];omega,fun x hx=>?_⟩
  rw[List.mem_append] at hx
  exact hx.elim List.mem_of_mem_take List.mem_of_mem_drop
 have hnew:∀(i:Nat) (d:List Int),d.length≤2→(∀x∈d,0≤x∧x<g.offers.length)→GameOk g∧idxOk g (sortI (outI c i++d))∧valOk g (sortI (outI c i++d)):=fun i d hd hx=>by
  have h2:∀x∈sortI (outI c i++d),0≤x∧x<g.offers.length:=fun x h=>by
   rw[sortI_mem,List.mem_append] at h
   exact h.elim (fun h=>hci x ((hout i).2 x h)) (hx x)
  have:=(hout i).1
  exact⟨hg,⟨by rw[sortI_len,List.length_append];omega,h2⟩,hvo _ h2⟩
 have hg1:=hg.1
 refine⟨⟨hg,⟨by omega,hci⟩,hvo c hci⟩,⟨by omega,fun k h=>by omega⟩,?_⟩
 rintro i ⟨⟨i0,i1⟩,hi⟩
 refine⟨fun hil=>⟨⟨by omega,i0,hil⟩,⟨by unfold outI;rw[show(i+1).toNat=i.toNat+1 by omega],by omega,fun k h=>by omega⟩,?_⟩,fun hil=>?_⟩
 ·have ho:=hout i.toNat
  have found:∀t,ex1 g c (valG g c) i.toNat=some t→exG g c=some t:=fun t ht=>find_some (i:=i.toNat) (by omega) (fun j hj=>hi j (by omega)) ht
  rintro o ⟨⟨o0,o1⟩,hk⟩
  refine⟨fun hol=>⟨by omega,fun hin=>⟨by omega,⟨by omega,fun k h=>?_⟩,by omega⟩,fun hin=>⟨by omega,hnew _ _ (by simp) (by simp;omega),fun hb=>?_,fun hb=>⟨by omega,⟨by omega,fun k h=>?_⟩,?_⟩⟩⟩,fun hol=>⟨by omega,⟨by omega,fun k h=>?_⟩,by omega⟩⟩
  ·by_cases h2:(k:Int)<o
   ·exact hk k h2
   ·rw[show(k:Int)=o by omega]
    unfold ex2
    rw[if_pos hin]
  ·have h2:ex2 g c (valG g c) (outI c i.toNat) o=some (sortI (outI c i.toNat++[o])):=by
    unfold ex2
    rw[if_neg hin,if_pos hb]
   have h3:=found _ (find_some (f:=fun o:Nat=>ex2 g c (valG g c) (outI c i.toNat) o) (i:=o.toNat) (by omega) (fun j hj=>hk j (by omega)) (by simp only[show((o.toNat:Nat):Int)=o by omega];exact h2))
   rw[h3]
   exact⟨rfl,rfl⟩
  ·unfold ex3
   rw[if_pos (.inl (by omega))]
  ·rintro z ⟨⟨z0,z1⟩,hz⟩
   refine⟨fun hzl=>⟨by omega,fun hin2=>⟨by omega,⟨by omega,fun k h=>?_⟩,by omega⟩,fun hin2=>⟨by omega,hnew _ _ (by simp) (by simp;omega),fun hb2=>?_,fun hb2=>⟨by omega,⟨by omega,fun k h=>?_⟩,by omega⟩⟩⟩,fun hzl=>⟨by omega,⟨by omega,fun k h=>?_⟩,by omega⟩⟩
   ·by_cases h2:(k:Int)<z
    ·exact hz k h2
    ·rw[show(k:Int)=z by omega]
     unfold ex3
     rw[if_pos (.inr hin2)]
   ·have h4:¬z≤o:=by omega
    have h5:ex3 g c (valG g c) (outI c i.toNat) o z=some (sortI (outI c i.toNat++[o,z])):=by
     unfold ex3
     rw[if_neg (fun h=>h.elim h4 hin2),if_pos hb2]
    have h2:ex2 g c (valG g c) (outI c i.toNat) o=some (sortI (outI c i.toNat++[o,z])):=by
     unfold ex2
     rw[if_neg hin,if_neg (by rw[hb];simp)]
     exact find_some (f:=fun k:Nat=>ex3 g c (valG g c) (outI c i.toNat) o k) (i:=z.toNat) (by omega) (fun j hj=>hz j (by omega)) (by simp only[show((z.toNat:Nat):Int)=z by omega];exact h5)
    have h3:=found _ (find_some (f:=fun o:Nat=>ex2 g c (valG g c) (outI c i.toNat) o) (i:=o.toNat) (by omega) (fun j hj=>hk j (by omega)) (by simp only[show((o.toNat:Nat):Int)=o by omega];exact h2))
    rw[h3]
    exact⟨rfl,rfl⟩
   ·by_cases h2:(k:Int)<z
    ·exact hz k h2
    ·rw[show(k:Int)=z by omega]
     unfold ex3
     rw[hb2]
     simp
   ·by_cases h2:(k:Int)<o
    ·exact hk k h2
    ·rw[show(k:Int)=o by omega]
     unfold ex2
     rw[if_neg hin,if_neg (by rw[hb];simp)]
     exact find_none fun j hj=>hz j (by omega)
  ·by_cases h2:(k:Int)<i
   ·exact hi k h2
   ·rw[show k=i.toNat by omega]
    exact find_none fun j hj=>hk j (by omega)
 ·have:exG g c=none:=find_none fun j hj=>hi j (by omega)
  rw[this]
  exact⟨rfl,rfl⟩
def ascOk (n:Nat) (c:List Int):Prop:=c.Pairwise (·<·)∧∀x∈c,0≤x∧x<n
theorem asc_len' {n:Nat}:∀{c:List Int} {a:Int},a≤n→c.Pairwise (·<·)→(∀x∈c,a≤x∧x<n)→(c.length:Int)≤n - a
 |[],a,ha,_,_=>by simp;omega
 |x::c,a,ha,h,hx=>by
  have h1:=hx x (by simp)
  rw[List.pairwise_cons] at h
  have:=@asc_len' n c (x+1) (by omega) h.2 fun y hy=>⟨by have:=h.1 y hy;omega,(hx y (by simp[hy])).2⟩
  simp only[List.length_cons]
  omega
theorem asc_len {n:Nat} {c:List Int} (h:ascOk n c):c.length≤n:=by
 have:=asc_len' (n:=n) (a:=0) (by omega) h.1 h.2
 omega
theorem asc_sort {n:Nat} {c:List Int} (h1:c.Nodup) (h2:∀x∈c,0≤x∧x<n):ascOk n (sortI c):=by
 refine⟨?_,fun x hx=>h2 x (sortI_mem.1 hx)⟩
 have hs:(sortI c).Pairwise (·≤·):=by
  have:=List.pairwise_mergeSort (le:=fun x y:Int=>decide (x≤y)) (fun a b d h1 h2=>by simp at h1 h2 ⊢;omega) (fun a b=>by simp;omega) c
  exact this.imp fun h=>of_decide_eq_true h
 have hn:(sortI c).Pairwise (·≠·):=(List.mergeSort_perm _ _).symm.nodup h1
 exact(hs.and hn).imp fun h=>by have:=h.1;have:=h.2;omega
theorem asc_nodup {n:Nat} {c:List Int} (h:ascOk n c):c.Nodup:=h.1.imp fun h=>by omega
theorem out_sub {c:List Int} {i:Nat}:(outI c i).Sublist c:=by
 unfold outI
 rw[List.drop_add_one_eq_tail_drop]
 have:=(List.Sublist.refl (c.take i)).append (List.tail_sublist (c.drop i))
 rwa [List.take_append_drop] at this
theorem ex_some {g:Game} {c t:List Int} (h:exG g c=some t) (hc:ascOk g.offers.length c):betG g (valG g c) t=true∧ascOk g.offers.length t:=by
 obtain⟨i,hi,h⟩:=List.exists_of_findSome?_eq_some h
 obtain⟨o,ho,h⟩:=List.exists_of_findSome?_eq_some h
 rw[List.mem_range] at hi ho
 have hnd:(outI c i).Nodup:=(asc_nodup hc).sublist out_sub
 have hmem:∀x∈outI c i,x∈c:=fun x hx=>out_sub.subset hx
 unfold ex2 at h
 split at h
 ·cases h
 ·rename_i hoc
  split at h
  ·rename_i hb
   injection h with h
   subst h
   refine⟨hb,asc_sort ?_ fun x hx=>?_⟩
   ·rw[List.nodup_append]
    exact⟨hnd,by simp,fun x hx y hy e=>by simp at hy;rw[e,hy] at hx;exact hoc (hmem _ hx)⟩
   ·rw[List.mem_append] at hx
    rcases hx with hx|hx
    ·exact hc.2 x (hmem x hx)
    ·simp at hx;omega
  ·obtain⟨k,hk,h⟩:=List.exists_of_findSome?_eq_some h
   rw[List.mem_range] at hk
   unfold ex3 at h
   split at h
   ·cases h
   ·rename_i hko
    split at h
    ·rename_i hb
     injection h with h
     subst h
     refine⟨hb,asc_sort ?_ fun x hx=>?_⟩
     ·rw[List.nodup_append]
      refine⟨hnd,by simp;omega,fun x hx y hy e=>?_⟩
      simp at hy
      subst e
      rcases hy with rfl|rfl
      ·exact hoc (hmem _ hx)
      ·exact hko (.inr (hmem _ hx))
     ·rw[List.mem_append] at hx
      rcases hx with hx|hx
      ·exact hc.2 x (hmem x hx)
      ·simp at hx;omega
    ·cases h
def impG (g:Game):Nat→List Int→List Int
 |0,c=>c
 |n+1,c=>match exG g c with
  |some t=>impG g n t
  |none=>c
def impR (g:Game) (c:List Int):List Int:=impG g (1000000000 - valG g c).toNat c
theorem valBd {g:Game} (hg:gAll g) {c:List Int} (h:ascOk g.offers.length c):0≤valG g c∧valG g c≤1000000000:=by
 have h1:=sumBd (f:=fun x=>(nthD g.offers x.toNat SId.off.dflt).value) (c:=c) (k:=c.length) (m:=1000000) (by omega) fun x hx=>hg.2 _ (nthD_mem (by have:=h.2 x hx;omega))
 rw[List.take_length] at h1
 have h2:=asc_len h
 have h3:=hg.1.1.2.2
 have h4:valG g c=(c.map fun x=>(nthD g.offers x.toNat SId.off.dflt).value).sum:=rfl
 rw[h4]
 omega
theorem imp_fuel {g:Game} (hg:gAll g):∀{n m:Nat} {c:List Int},ascOk g.offers.length c→(1000000000 - valG g c).toNat≤n→(1000000000 - valG g c).toNat≤m→impG g n c=impG g m c:=by
 intro n
 induction n with
 |zero=>
  intro m c hc h1 h2
  have hb:=valBd hg hc
  cases m with
  |zero=>rfl
  |succ m=>
   unfold impG
   cases he:exG g c with
   |none=>rfl
   |some t=>
    obtain⟨h3,h4⟩:=ex_some he hc
    have h5:=valBd hg h4
    unfold betG at h3
    simp only[Bool.and_eq_true,decide_eq_true_eq] at h3
    omega
 |succ n ih=>
  intro m c hc h1 h2
  have hb:=valBd hg hc
  cases he:exG g c with
  |none=>
   cases m with
   |zero=>simp only[impG,he]
   |succ m=>simp only[impG,he]
  |some t=>
   obtain⟨h3,h4⟩:=ex_some he hc
   have h5:=valBd hg h4
   unfold betG at h3
   simp only[Bool.and_eq_true,decide_eq_true_eq] at h3
   cases m with
   |zero=>omega
   |succ m=>
    simp only[impG,he]
    exact ih h4 (by omega) (by omega)
theorem imp_some {g:Game} (hg:gAll g) {c t:List Int} (hc:ascOk g.offers.length c) (h:exG g c=some t):impR g c=impR g t:=by
 obtain⟨h3,h4⟩:=ex_some h hc
 have hb:=valBd hg hc
 have h5:=valBd hg h4
 unfold betG at h3
 simp only[Bool.and_eq_true,decide_eq_true_eq] at h3
 unfold impR
 rw[show(1000000000 - valG g c).toNat=((1000000000 - valG g c).toNat - 1)+1 by omega]
 simp only[impG,h]
 exact imp_fuel hg h4 (by omega) (by omega)
theorem imp_none {g:Game} {c:List Int} (h:exG g c=none):impR g c=c:=by
 unfold impR
 generalize (1000000000 - valG g c).toNat=n
 cases n with
 |zero=>rfl
 |succ n=>simp only[impG,h]
def goodC (p:Prob) (c:List Int):Prop:=checkE p=0∧ascOk p.offers.length c
theorem gall_ok {p:Prob} (hc:checkE p=0):gAll (gameR p):=by
 have hg:=good_of hc
 refine⟨game_ok (by have:=hg.2.1;omega),fun o ho=>?_⟩
 have:=hg.2.2.2.2 o ho
 omega
theorem pick_asc {l:List Off}:∀{c:List Int} {last:Int}, -1≤last→(pickGo l last c).isSome=true→c.Pairwise (·<·)∧∀x∈c,last<x∧x<l.length
 |[],last,_,_=>⟨List.Pairwise.nil,by simp⟩
 |i::c,last,hl,h=>by
  simp only[pickGo] at h
  split at h
  ·simp at h
  ·rename_i hi
   rw[Option.isSome_map] at h
   obtain⟨h1,h2⟩:=@pick_asc l c i (by omega) h
   refine⟨List.pairwise_cons.2 ⟨fun x hx=>(h2 x hx).1,h1⟩,fun x hx=>?_⟩
   rcases List.mem_cons.1 hx with rfl|hx
   ·omega
   ·have:=h2 x hx;omega
theorem feas_good {p:Prob} {c:List Int} (h:feasE p c=0):goodC p c:=by
 unfold feasE at h
 split at h
 ·rename_i h1;exact absurd h h1
 ·rename_i h1
  split at h
  ·cases h
  ·rename_i h2
   have h3:=@pick_asc p.offers c (-1) (by omega) (by unfold pickOk at h2;simpa only[Bool.not_eq_false] using h2)
   exact⟨Classical.not_not.1 h1,h3.1,fun x hx=>by have:=h3.2 x hx;omega⟩
def impS (p:Prob) (c:List Int):Alloc:=if feasE p c=0 then⟨impR (gameR p) c,valG (gameR p) (impR (gameR p) c)⟩ else⟨[],0⟩
def r315:SCtr:=⟨16,Prob×Alloc,.cons codP (.one codA),fun a=>a.2.chosen.length≤9223372036854775807,fun a=>codA.put (impS a.1 a.2.chosen)⟩
def Λ315 (p:Prob) (a:Alloc):Nat→LoopAnn
 |6=> .inv (List Int×List Int×Bool) (fun x=>⟨[(4,.ptr 2 0 2),(5,.ptr 3 0 3),(6,.row (.i .i64) x.1),(7,.row (.i .i64) x.2.1),(8,.sb x.2.2)],[.cells p.ss 27 20 false,.cells [.row (.i .i64) a.chosen,.si .i64 a.value] 34 2 false,.cells [.sc (.slice none 0 0),.il .i64 0] 34 2 false,.cells (gSS (gameR p)) 54 3 false]⟩)
   (fun s=>(rS (.i .i64) s 6,rS (.i .i64) s 7,bS s 8)) (fun x=>ascOk p.offers.length x.1∧(x.2.1=(exG (gameR p) x.1).getD []∧x.2.2=(exG (gameR p) x.1).isSome)∧impR (gameR p) x.1=impR (gameR p) a.chosen) (fun x=>(1000000000 - valG (gameR p) x.1).toNat) fun _ _=> .look
 |_=> .look
theorem h315:Holds Try.prog r315:=by
 refine con (L:=[r100,r325,r330,r331,r328]) r315 F315 (fun a=>Λ315 a.1 a.2) (OwnOK.none _) (by simpa using⟨h100,h325,h330,h331,h328⟩) (by kernel_rfl) (by kernel_rfl) (fun _=>rfl) ?_
 rintro⟨p,⟨c,v⟩⟩ hl
 replace hl:c.length≤9223372036854775807:=hl
 refine vcOf (let z0:=decide (feasE p c≠(0:Int));let z1:=SId.i .i64;let z2:=[SV.il .i64 0];let z3:=SV.agg [SV.row z1 (impS p c).chosen,SV.si .i64 (impS p c).value];let z4:=SV.ptr 2 0 2;let z5:=SV.ptr 3 0 3;let z6:=(exG (gameR p) c).getD [];let z7:=(exG (gameR p) c).isSome;let z8:=SObj.cells [SV.si .i64 p.supply.a0,SV.si .i64 p.supply.a1,SV.si .i64 p.supply.a2,SV.si .i64 p.supply.a3,SV.si .i64 p.supply.a4,SV.si .i64 p.supply.a5,SV.si .i64 p.opn.a0,SV.si .i64 p.opn.a1,SV.si .i64 p.opn.a2,SV.si .i64 p.opn.a3,SV.si .i64 p.opn.a4,SV.si .i64 p.opn.a5,SV.si .i64 p.cls.a0,SV.si .i64 p.cls.a1,SV.si .i64 p.cls.a2,SV.si .i64 p.cls.a3,SV.si .i64 p.cls.a4,SV.si .i64 p.cls.a5,SV.row z1 p.classes,SV.row SId.off p.offers] 27 20 false;let z9:=SObj.cells [SV.row z1 c,SV.si .i64 v] 34 2 false;let z10:=SObj.cells (SV.sc (Value.slice none 0 0)::z2) 34 2 false;let z11:=SObj.cells [SV.row z1.lst (gameR p).rows,SV.row z1 (gameR p).bounds,SV.row SId.off (gameR p).offers] 54 3 false;let z12:=p.offers.length;let z13:=impR (gameR p) c;c.length≤9223372036854775807∧(z0=true→(SV.agg (SV.row z1 []::z2)).same z3)∧(z0=false→True∧c.length≤1000000∧(gAll (gameR p)∧c.length≤900∧∀(x:Int),x∈c→(0:Int)≤x∧x<(↑(gameR p).offers.length:Int))∧(((z4.same z4∧z5.same z5∧(SV.row z1 c).same (SV.row z1 c)∧(SV.row z1 z6).same (SV.row z1 z6)∧(SV.sb z7).same (SV.sb z7)∧True)∧z8.same z8∧z9.same z9∧z10.same z10∧z11.same z11∧True)∧ascOk z12 c∧(z6=z6∧z7=z7)∧z13=z13)∧∀(x:List Int×List Int×Bool),let z14:=exG (gameR p) x.snd.fst;let z15:=SV.row z1 (z14.getD []);let z16:=valG (gameR p) x.fst;ascOk z12 x.fst∧(x.snd.fst=(exG (gameR p) x.fst).getD []∧x.snd.snd=(exG (gameR p) x.fst).isSome)∧impR (gameR p) x.fst=z13→(x.snd.snd=true→(gAll (gameR p)∧x.snd.fst.length≤900∧∀(x_1:Int),x_1∈x.snd.fst→(0:Int)≤x_1∧x_1<(↑(gameR p).offers.length:Int))∧((z4.same z4∧z5.same z5∧(SV.row z1 x.snd.fst).same (SV.row z1 x.snd.fst)∧z15.same z15∧(SV.sb z14.isSome).same (SV.sb z14.isSome)∧True)∧z8.same z8∧z9.same z9∧z10.same z10∧z11.same z11∧True)∧(ascOk z12 x.snd.fst∧(z14.getD []=z14.getD []∧z14.isSome=z14.isSome)∧impR (gameR p) x.snd.fst=z13)∧((1000000000:Int) - valG (gameR p) x.snd.fst).toNat<((1000000000:Int) - z16).toNat)∧(x.snd.snd=false→(GameOk (gameR p)∧idxOk (gameR p) x.fst∧valOk (gameR p) x.fst)∧(SV.agg [SV.row z1 x.fst,SV.si .i64 z16]).same z3))) (by kernel_rfl) ?_
 conv=>zeta
 try simp only[vcs]
 refine⟨by omega,fun h=>by simp only[impS,if_neg h];rfl,fun h=>?_⟩
 have hf:feasE p c=0:=Classical.not_not.1 h
 obtain⟨hc,ha⟩:=feas_good hf
 have hg:=gall_ok hc
 have h160:=(good_of hc).2.1
 have hval:∀d,ascOk p.offers.length d→GameOk (gameR p)∧idxOk (gameR p) d∧valOk (gameR p) d:=fun d hd=>by
  have h1:=asc_len hd
  exact⟨hg.1,⟨by omega,hd.2⟩,fun x hx=>hg.2 _ (nthD_mem (by have:=hd.2 x hx;show x.toNat<p.offers.length;omega))⟩
 have hlen:=asc_len ha
 refine⟨by omega,⟨hg,by omega,ha.2⟩,ha,?_⟩
 rintro⟨d,t,b⟩ ⟨hd,⟨ht,hb⟩,hi⟩
 simp only at hd ht hb hi ⊢
 have hdl:=asc_len hd
 refine⟨fun hbt=>?_,fun hbf=>?_⟩
 ·rw[hbt] at hb
  obtain⟨t',he⟩:=Option.isSome_iff_exists.1 hb.symm
  rw[he] at ht
  simp only[Option.getD_some] at ht
  subst ht
  obtain⟨h1,h2⟩:=ex_some he hd
  have h3:=asc_len h2
  have h3':t.length≤p.offers.length:=h3
  have hb2:=valBd hg h2
  have hb1:=valBd hg (c:=d) hd
  unfold betG at h1
  simp only[Bool.and_eq_true,decide_eq_true_eq] at h1
  exact⟨⟨hg,by omega,h2.2⟩,⟨h2,by rw[←imp_some hg hd he];exact hi⟩,by omega⟩
 ·rw[hbf] at hb
  have he:exG (gameR p) d=none:=by
   cases hh:exG (gameR p) d with
   |none=>rfl
   |some t=>rw[hh] at hb;cases hb
  refine⟨hval d hd,?_⟩
  have h1:impR (gameR p) c=d:=by rw[←hi,imp_none he]
  simp only[impS,if_pos hf,h1]
  rfl
theorem ord_mem {p:Prob} {x:Int}:x∈ordR p↔inO p x:=by
 rw[ordR,srt_mem,uptoI_mem]
 exact Iff.rfl
def sameA (a b:Alloc):Bool:=decide (a.value=b.value)&&decide (cmpL a.chosen b.chosen=0)
def r311:SCtr:=⟨12,Alloc×Alloc,.cons codA (.one codA),fun a=>a.1.chosen.length≤1000000∧a.2.chosen.length≤1000000,fun a=> .sb (sameA a.1 a.2)⟩
theorem h311:Holds Try.prog r311:=by
 refine con (L:=[r32]) r311 F311 (fun _ _=> .look) (OwnOK.none _) (by simpa using h32) (by kernel_rfl) (by kernel_rfl) (fun _=>rfl) ?_
 rintro⟨⟨c,v⟩,⟨c',v'⟩⟩ ⟨h1,h2⟩
 simp only at h1 h2
 refine vcOf (let z0:=SV.sb (sameA (Alloc.mk c v) (Alloc.mk c' v'));(decide (v=v')=true→(c.length≤1000000000000∧c'.length≤1000000000000)∧(SV.sb (decide (cmpL c c'=(0:Int)))).same z0)∧(decide (v=v')=false→(SV.bl false).same z0)) (by kernel_rfl) ?_
 conv=>zeta
 try simp only[vcs]
 refine⟨fun h=>⟨⟨by omega,by omega⟩,?_⟩,fun h=>?_⟩
 ·simp only[sameA,decide_eq_true h,Bool.true_and]
 ·simp only[sameA,decide_eq_false h,Bool.false_and]
def threeP (v:Int):Prob:=⟨⟨1,1,0,0,0,0⟩,⟨1,1,0,0,0,0⟩,⟨0,0,0,0,0,0⟩,[0,0,0],[⟨0,⟨1,1,0,0,0,0⟩,v⟩,⟨1,⟨1,0,0,0,0,0⟩,6⟩,⟨2,⟨0,1,0,0,0,0⟩,6⟩]⟩
def r324:SCtr:=⟨29,Int,.one (codI .i64),fun _=>True,fun v=>codP.put (threeP v)⟩
theorem h324:Holds Try.prog r324:=by
 refine con (L:=[]) r324 F324 (fun _ _=> .look) (OwnOK.none _) (by simp) (by kernel_rfl) (by kernel_rfl) (fun _=>rfl) ?_
 rintro(v:Int) -
 refine vcOf (let z0:=SV.il .i64 1;let z1:=SV.il .i64 0;let z2:=(threeP v).supply;let z3:=(threeP v).opn;let z4:=(threeP v).cls;(SV.agg [z0,z0,z1,z1,z1,z1,z0,z0,z1,z1,z1,z1,z1,z1,z1,z1,z1,z1,SV.row (SId.i .i64) [(0:Int),(0:Int),(0:Int)],SV.row SId.off [Off.mk (0:Int) (Bun.mk (1:Int) (1:Int) (0:Int) (0:Int) (0:Int) (0:Int)) v,Off.mk (1:Int) (Bun.mk (1:Int) (0:Int) (0:Int) (0:Int) (0:Int) (0:Int)) (6:Int),Off.mk (2:Int) (Bun.mk (0:Int) (1:Int) (0:Int) (0:Int) (0:Int) (0:Int)) (6:Int)]]).same (SV.agg [SV.si .i64 z2.a0,SV.si .i64 z2.a1,SV.si .i64 z2.a2,SV.si .i64 z2.a3,SV.si .i64 z2.a4,SV.si .i64 z2.a5,SV.si .i64 z3.a0,SV.si .i64 z3.a1,SV.si .i64 z3.a2,SV.si .i64 z3.a3,SV.si .i64 z3.a4,SV.si .i64 z3.a5,SV.si .i64 z4.a0,SV.si .i64 z4.a1,SV.si .i64 z4.a2,SV.si .i64 z4.a3,SV.si .i64 z4.a4,SV.si .i64 z4.a5,SV.row (SId.i .i64) (threeP v).classes,SV.row SId.off (threeP v).offers])) (by kernel_rfl) ?_
 conv=>zeta
 try simp only[vcs]
 rfl
def insA (x:Int):List Int→List Int
 |[]=>[x]
 |y::l=>if x≤y then x::y::l else y::insA x l
def sortA:List Int→List Int
 |[]=>[]
 |x::l=>insA x (sortA l)
theorem insA_perm {x:Int}:∀{l:List Int},(insA x l).Perm (x::l)
 |[]=>List.Perm.refl _
 |y::l=>by
  unfold insA
  split
  ·exact List.Perm.refl _
  ·exact(List.Perm.cons y insA_perm).trans (List.Perm.swap x y l)
theorem insA_le {x:Int}:∀{l:List Int},l.Pairwise (·≤·)→(insA x l).Pairwise (·≤·)
 |[],_=>by simp[insA]
 |y::l,h=>by
  rw[List.pairwise_cons] at h
  unfold insA
  split
  ·rename_i hx
   refine List.pairwise_cons.2 ⟨fun z hz=>?_,List.pairwise_cons.2 h⟩
   rcases List.mem_cons.1 hz with rfl|hz
   ·exact hx
   ·have:=h.1 z hz;omega
  ·rename_i hx
   refine List.pairwise_cons.2 ⟨fun z hz=>?_,insA_le h.2⟩
   rcases List.mem_cons.1 (insA_perm.mem_iff.1 hz) with rfl|hz
   ·omega
   ·exact h.1 z hz
theorem sortA_perm:∀{l:List Int},(sortA l).Perm l
 |[]=>List.Perm.refl _
 |x::l=>insA_perm.trans (List.Perm.cons x sortA_perm)
theorem sortA_le:∀{l:List Int},(sortA l).Pairwise (·≤·)
 |[]=>List.Pairwise.nil
 |x::l=>insA_le sortA_le
theorem sortI_srt {l:List Int}:sortI l=srt (fun _=>0) l:=by
 unfold sortI srt
 congr 1
theorem sortI_A:sortI=sortA:=by
 funext l
 rw[sortI_srt]
 refine(srt_eq sortA_perm ?_).symm
 refine sortA_le.imp ?_
 intro a b h
 exact leD_iff.2 (.inr ⟨rfl,h⟩)
theorem ord3:ordE (threeP 10)=[1,2,0]:=by
 have hc:checkE (threeP 10)=0:=by kernel_rfl
 unfold ordE
 rw[if_pos hc]
 refine(srt_eq (D:=denI (threeP 10)) (m:=[1,2,0]) (by decide) ?_).symm
 decide
def stepS (s:List Int→List Int) (g:Game) (c:List Int) (x:Int):List Int:=if fitG g (s (c++[x]))=true then s (c++[x]) else c
theorem start3:startR (threeP 10)=[1,2]∧valG (gameR (threeP 10)) [1,2]=12:=by
 refine⟨?_,by kernel_rfl⟩
 unfold startR
 rw[ord3]
 show[1,2,0].foldl (stepS sortI (gameR (threeP 10))) []=_
 rw[sortI_A]
 kernel_rfl
def e3S (s:List Int→List Int) (g:Game) (c:List Int) (v:Int) (rest:List Int) (o k:Int):Option (List Int):=if k≤o∨k∈c then none else if betG g v (s (rest++[o,k]))=true then some (s (rest++[o,k])) else none
def e2S (s:List Int→List Int) (g:Game) (c:List Int) (v:Int) (rest:List Int) (o:Int):Option (List Int):=if o∈c then none else if betG g v (s (rest++[o]))=true then some (s (rest++[o])) else(List.range g.offers.length).findSome? fun k:Nat=>e3S s g c v rest o k
def eGS (s:List Int→List Int) (g:Game) (c:List Int):Option (List Int):=(List.range c.length).findSome? fun i=>(List.range g.offers.length).findSome? fun o:Nat=>e2S s g c (valG g c) (outI c i) o
theorem exG_A {g:Game} {c:List Int}:exG g c=eGS sortA g c:=by
 rw[←sortI_A]
 rfl
theorem impr3:impR (gameR (threeP 11)) [0]=[1,2]∧impR (gameR (threeP 13)) [0]=[0]:=by
 refine⟨?_,imp_none (by rw[exG_A];kernel_rfl)⟩
 have hc:checkE (threeP 11)=0:=by kernel_rfl
 rw[imp_some (gall_ok hc) (t:=[1,2]) ⟨by decide,by decide⟩ (by rw[exG_A];kernel_rfl)]
 exact imp_none (by rw[exG_A];kernel_rfl)
theorem imps3:impS (threeP 11) [0]=⟨[1,2],12⟩∧impS (threeP 13) [0]=⟨[0],13⟩:=by
 refine⟨?_,?_⟩
 ·unfold impS
  rw[if_pos (by kernel_rfl),impr3.1]
  congr 1
 ·unfold impS
  rw[if_pos (by kernel_rfl),impr3.2]
  congr 1
def r310:SCtr:=⟨11,Unit,.nil,fun _=>True,fun _=> .sb true⟩
theorem h310:Holds Try.prog r310:=by
 refine con (L:=[r324,r308,r312,r315,r32,r311]) r310 F310 (fun _ _=> .look) (OwnOK.none _) (by simpa using⟨h324,h308,h312,h315,h32,h311⟩) (by kernel_rfl) (by kernel_rfl) (fun _=>rfl) ?_
 rintro⟨⟩ -
 refine vcOf (let z0:=threeP (10:Int);let z1:=[(0:Int)];let z2:=decide (cmpL (ordR z0) ((1:Int)::(2:Int)::z1)=(0:Int));let z3:=Alloc.mk (startR z0) (valG (gameR z0) (startR z0));let z4:=sameA z3 (Alloc.mk [(1:Int),(2:Int)] (12:Int));let z5:=impS (threeP (11:Int)) z1;let z6:=impS (threeP (13:Int)) z1;True∧z0.offers.length≤40∧True∧z0.offers.length≤40∧True∧1≤9223372036854775807∧True∧1≤9223372036854775807∧((ordR z0).length≤1000000000000∧3≤1000000000000)∧(z2=true→((startR z0).length≤1000000∧2≤1000000)∧(z4=true→(z5.chosen.length≤1000000∧(startR z0).length≤1000000)∧(sameA z5 z3=true→(z6.chosen.length≤1000000∧1≤1000000)∧(SV.sb (sameA z6 (Alloc.mk z1 (13:Int)))).same (SV.sb true))∧(sameA z5 z3=false→(SV.bl false).same (SV.sb true)))∧(z4=false→(SV.bl false).same (SV.sb true)))∧(z2=false→(SV.bl false).same (SV.sb true))) (by kernel_rfl) ?_
 conv=>zeta
 try simp only[vcs]
 have ho:ordR (threeP 10)=[1,2,0]:=by
  have:=ord3
  unfold ordE at this
  rwa [if_pos (show checkE (threeP 10)=0 by kernel_rfl)] at this
 rw[ho,start3.1,start3.2,imps3.1,imps3.2]
 have k1:cmpL [1,2,0] [1,2,0]=0:=by kernel_rfl
 have k2:sameA ⟨[1,2],12⟩ ⟨[1,2],12⟩=true:=by kernel_rfl
 have k3:sameA ⟨[0],13⟩ ⟨[0],13⟩=true:=by kernel_rfl
 refine⟨by decide,by decide,by decide,by decide,by decide,fun _=>⟨by decide,fun _=>⟨by decide,fun _=>⟨by decide,k3⟩,fun h=>?_⟩,fun h=>?_⟩,fun h=>absurd k1 h⟩
 ·rw[k2] at h;exact h.symm▸rfl
 ·rw[k2] at h;exact h.symm▸rfl
theorem cmp_same:∀{l:List Int},cmpL l l=0
 |[]=>rfl
 |x::l=>by
  unfold cmpL
  rw[if_neg (by omega),if_neg (by omega)]
  exact cmp_same
theorem pick_of_asc {l:List Off}:∀{c:List Int} {last:Int}, -1≤last→c.Pairwise (·<·)→(∀x∈c,last<x∧x<l.length)→pickGo l last c=some (c.map fun x=>nthD l x.toNat SId.off.dflt)
 |[],_,_,_,_=>rfl
 |i::c,last,hl,h,hx=>by
  rw[List.pairwise_cons] at h
  have h1:=hx i (by simp)
  simp only[pickGo]
  rw[if_neg (by omega),@pick_of_asc l c i (by omega) h.2 fun x hxc=>⟨h.1 x hxc,(hx x (by simp[hxc])).2⟩]
  rfl
theorem pick_of {p:Prob} {c:List Int} (h:ascOk p.offers.length c):pickGo p.offers (-1) c=some (c.map (oI p)):=pick_of_asc (by omega) h.1 fun x hx=>by have:=h.2 x hx;omega
theorem feas_fit {p:Prob} (hc:checkE p=0) {c:List Int} (h:ascOk p.offers.length c):feasE p c=0↔fitG (gameR p) c=true:=by
 have hp:=pick_of h
 have e1:pickOk p c=true:=by unfold pickOk;rw[hp];rfl
 have e2:pickL p c=c.map (oI p):=by unfold pickL;rw[hp];rfl
 have e3:fitsB p (c.map (oI p))=fitG (gameR p) c:=by
  have hn:nR p=p.classes.length+12:=by unfold nR;rw[if_pos hc]
  have hb:(gameR p).bounds.length=p.classes.length+12:=by show(bndR p (nR p)).length=_;rw[bndR_len,hn]
  unfold fitsB fitG
  rw[hb]
  have key:∀r:Nat,r<p.classes.length+12→nthD (gameR p).bounds r 0=boundS p r∧useG (gameR p) c r=sumS p (c.map (oI p)) r:=fun r hr=>by
   refine⟨?_,?_⟩
   ·show nthD (bndR p (nR p)) r 0=_
    rw[nthD_eq (by rw[bndR_len];omega)]
    simp[bndR]
   ·have hrow:nthD (gameR p).rows r []=rowR p r p.offers.length:=by
     show nthD (rowsR p (nR p)) r []=_
     rw[nthD_eq (by rw[rowsR_len];omega)]
     simp[rowsR]
    unfold useG sumS
    rw[hrow,List.map_map]
    congr 1
    refine List.map_congr_left fun x hx=>?_
    have:=h.2 x hx
    have hxl:x.toNat<p.offers.length:=by omega
    show nthD (rowR p r p.offers.length) x.toNat 0=coefS p r (nthD p.offers x.toNat SId.off.dflt)
    rw[nthD_eq (by simp[rowR];omega),nthD_eq hxl]
    simp[rowR]
  rw[Bool.eq_iff_iff,List.all_eq_true,List.all_eq_true]
  constructor
  ·intro h1 r hr
   obtain⟨k1,k2⟩:=key r (List.mem_range.1 hr)
   have:=of_decide_eq_true (h1 r hr)
   rw[k1,k2]
   exact decide_eq_true (by omega)
  ·intro h1 r hr
   obtain⟨k1,k2⟩:=key r (List.mem_range.1 hr)
   have:=of_decide_eq_true (h1 r hr)
   rw[k1,k2] at this
   exact decide_eq_true (by omega)
 unfold feasE
 rw[if_neg (by simp[hc]),e1,e2,e3]
 cases fitG (gameR p) c<;>simp
theorem val_eq {p:Prob} (hc:checkE p=0) {c:List Int} (h:ascOk p.offers.length c):valueS p c=valG (gameR p) c:=by
 have e2:pickL p c=c.map (oI p):=by unfold pickL;rw[pick_of h];rfl
 unfold valueS
 rw[if_pos hc,e2]
 clear h e2
 induction c with
 |nil=>rfl
 |cons x c ih=>
  have e:valG (gameR p) (x::c)=(oI p x).value+valG (gameR p) c:=by simp[valG];rfl
  rw[e,←ih]
  rfl
theorem fold_asc {g:Game} {n:Nat}:∀{l c:List Int},ascOk n c→l.Nodup→(∀x∈l,x∉c∧0≤x∧x<n)→ascOk n (l.foldl (stepG g) c)
 |[],c,hc,_,_=>hc
 |x::l,c,hc,hn,hx=>by
  rw[List.nodup_cons] at hn
  have h1:=hx x (by simp)
  have h2:ascOk n (stepG g c x):=by
   unfold stepG
   split
   ·refine asc_sort ?_ fun y hy=>?_
    ·rw[List.nodup_append]
     exact⟨asc_nodup hc,by simp,fun a ha b hb e=>by simp at hb;rw[e,hb] at ha;exact h1.1 ha⟩
    ·rw[List.mem_append] at hy
     rcases hy with hy|hy
     ·exact hc.2 y hy
     ·simp at hy;omega
   ·exact hc
  show ascOk n (l.foldl (stepG g) (stepG g c x))
  refine fold_asc h2 hn.2 fun y hy=>⟨fun h3=>?_,(hx y (by simp[hy])).2⟩
  rcases step_mem h3 with h3|h3
  ·exact(hx y (by simp[hy])).1 h3
  ·exact hn.1 (h3▸hy)
theorem ordE_nodup {p:Prob}:(ordE p).Nodup:=by
 unfold ordE
 split
 ·exact(srt_perm (D:=denI p) (l:=uptoI p.offers.length)).symm.nodup (uptoI_lt.imp fun h=>by omega)
 ·exact List.nodup_nil
theorem start_asc {p:Prob} {k:Nat}:ascOk p.offers.length (startG (gameR p) ((ordE p).take k)):=
 fold_asc ⟨List.Pairwise.nil,by simp⟩ (ordE_nodup.sublist (List.take_sublist _ _)) fun x hx=>⟨by simp,(ordE_mem (List.mem_of_mem_take hx)).2⟩
def r314:SCtr:=⟨15,Prob,.one codP,fun _=>True,fun p=> .sb (decide (p.offers.length≤16))⟩
theorem h314:Holds Try.prog r314:=by
 refine con (L:=[]) r314 F314 (fun _ _=> .look) (OwnOK.none _) (by simp) (by kernel_rfl) (by kernel_rfl) (fun _=>rfl) ?_
 rintro(p:Prob) -
 refine vcOf ((SV.sb (decide ((↑p.offers.length:Int)≤(16:Int)))).same (SV.sb (decide (p.offers.length≤16)))) (by kernel_rfl) ?_
 try simp only[vcs]
 by_cases h:p.offers.length≤16
 ·rw[decide_eq_true h];exact decide_eq_true (by omega)
 ·rw[decide_eq_false h];exact decide_eq_false (by omega)
def r317:SCtr:=⟨21,List Int×Int,.cons (codR (.i .i64)) (.one (codI .i64)),fun a=>a.1.length≤100000,fun a=> .sb (decide (a.2∈a.1))⟩
def Λ317 (c:List Int) (x:Int):Nat→LoopAnn
 |2=> .inv Int (fun i=>⟨[(1,.si .i64 x),(7,.row (.i .i64) c),(8,.si .i64 c.length),(9,.si .i64 i)],[]⟩)
   (fun s=>iS s 9) (fun i=>(0≤i∧i≤c.length)∧∀k:Nat,(k:Int)<i→nthD c k 0≠x) (fun i=>(c.length - i).toNat) fun _ _=> .look
 |_=> .look
theorem h317:Holds Try.prog r317:=by
 refine con (L:=[]) r317 F317 (fun a=>Λ317 a.1 a.2) (OwnOK.none _) (by simp) (by kernel_rfl) (by kernel_rfl) (fun _=>rfl) ?_
 rintro⟨c,x⟩ hl
 replace hl:c.length≤100000:=hl
 refine vcOf (let z0:=SV.row (SId.i .i64) c;let z1:=(↑c.length:Int);let z2:=SV.si .i64 z1;let z3:=SV.sb (decide (x∈c));((((SV.si .i64 x).same (SV.si .i64 x)∧z0.same z0∧(SV.si .i64 (↑c.length:Int)).same z2∧(SV.il .i64 0).same (SV.si .i64 0)∧True)∧True)∧((0:Int)≤(0:Int)∧(0:Int)≤z1)∧∀(k:Nat),(↑k:Int)<(0:Int)→nthD c k (0:Int)≠x)∧∀(x_1:Int),let z4:=decide (nthD c x_1.toNat (0:Int)=x);let z5:=x_1+(1:Int);let z6:=SV.si .i64 x;let z7:=SV.si .i64 z5;(((0:Int)≤x_1∧x_1≤z1)∧∀(k:Nat),(↑k:Int)<x_1→nthD c k (0:Int)≠x)→(decide (x_1<z1)=true→(0:Int)≤x_1∧x_1<(↑c.length:Int)∧x_1.toNat<c.length∧(z4=true→(SV.bl true).same z3)∧(z4=false→inR .i64 z5∧((z6.same z6∧z0.same z0∧z2.same z2∧z7.same z7∧True)∧True)∧(((0:Int)≤z5∧z5≤z1)∧∀(k:Nat),(↑k:Int)<z5→nthD c k (0:Int)≠x)∧(z1 - z5).toNat<(z1 - x_1).toNat))∧(decide (x_1<z1)=false→(SV.bl false).same z3)) (by kernel_rfl) ?_
 conv=>zeta
 try simp only[vcs]
 refine⟨⟨by omega,fun k h=>by omega⟩,?_⟩
 rintro i ⟨⟨i0,i1⟩,hk⟩
 refine⟨fun hi=>⟨i0,hi,by omega,fun he=>?_,fun he=>⟨by omega,⟨by omega,fun k h=>?_⟩,by omega⟩⟩,fun hi=>?_⟩
 ·exact(decide_eq_true (he▸nthD_mem (by omega))).symm
 ·by_cases h2:(k:Int)<i
  ·exact hk k h2
  ·rw[show k=i.toNat by omega]
   exact he
 ·refine(decide_eq_false fun h=>?_).symm
  obtain⟨k,hk2,rfl⟩:=List.getElem_of_mem h
  exact hk k (by omega) (nthD_eq hk2)
theorem sum_permI {l m:List Int} (h:l.Perm m):l.sum=m.sum:=by
 induction h with
 |nil=>rfl
 |cons x _ ih=>simp only[List.sum_cons,ih]
 |swap x y l=>simp only[List.sum_cons];omega
 |trans _ _ a b=>exact a.trans b
theorem use_perm {g:Game} {c d:List Int} {r:Nat} (h:c.Perm d):useG g c r=useG g d r:=sum_permI (h.map _)
theorem use_app {g:Game} {c e:List Int} {r:Nat}:useG g (c++e) r=useG g c r+useG g e r:=by
 unfold useG
 rw[List.map_append,List.sum_append]
theorem use_pos {g:Game} (hg:GameOk g) {e:List Int} (he:∀x∈e,0≤x∧x<g.offers.length) {r:Nat} (hr:r<g.bounds.length):0≤useG g e r:=by
 have h1:=sumBd (f:=fun x=>nthD (nthD g.rows r []) x.toNat 0) (c:=e) (k:=e.length) (m:=1000) (by omega) fun x hx=>by
  have h2:=hg.2.1 _ (nthD_mem (d:=[]) (show r<g.rows.length by have:=hg.1.1;omega))
  exact h2.2 _ (nthD_mem (by rw[h2.1];have:=he x hx;omega))
 rw[List.take_length] at h1
 exact h1.1
theorem fit_perm {g:Game} {c d:List Int} (h:c.Perm d):fitG g c=fitG g d:=by
 unfold fitG
 congr 1
 funext r
 rw[use_perm h]
theorem fit_less {g:Game} (hg:GameOk g) {c e:List Int} (he:∀x∈e,0≤x∧x<g.offers.length) (h:fitG g (c++e)=true):fitG g c=true:=by
 unfold fitG at h ⊢
 rw[List.all_eq_true] at h ⊢
 intro r hr
 have h1:=of_decide_eq_true (h r hr)
 rw[use_app] at h1
 have h2:=use_pos hg he (List.mem_range.1 hr)
 exact decide_eq_true (by omega)
theorem step_perm {g:Game} {c:List Int} {x:Int}:∃e:List Int,(stepG g c x).Perm (c++e)∧∀y∈e,y=x:=by
 unfold stepG
 split
 ·exact⟨[x],List.mergeSort_perm _ _,by simp⟩
 ·exact⟨[],by simp,by simp⟩
theorem fold_perm {g:Game}:∀{l c:List Int},∃e:List Int,(l.foldl (stepG g) c).Perm (c++e)∧∀y∈e,y∈l
 |[],c=>⟨[],by simp,by simp⟩
 |x::l,c=>by
  obtain⟨e1,h1,h2⟩:=@step_perm g c x
  obtain⟨e2,h3,h4⟩:=@fold_perm g l (stepG g c x)
  refine⟨e1++e2,?_,fun y hy=>?_⟩
  ·show(l.foldl (stepG g) (stepG g c x)).Perm _
   refine h3.trans ?_
   rw[←List.append_assoc]
   exact h1.append_right e2
  ·rcases List.mem_append.1 hy with hy|hy
   ·exact List.mem_cons.2 (.inl (h2 y hy))
   ·exact List.mem_cons_of_mem _ (h4 y hy)
theorem fold_skip {g:Game} {x:Int}:∀{l c:List Int},x∈l→x∉l.foldl (stepG g) c→∃c' e:List Int,fitG g (sortI (c'++[x]))=false∧(l.foldl (stepG g) c).Perm (c'++e)∧∀y∈e,y∈l
 |[],c,h,_=>by cases h
 |y::l,c,h,hn=>by
  have hn2:x∉l.foldl (stepG g) (stepG g c y):=hn
  rcases List.mem_cons.1 h with rfl|h
  ·cases hf:fitG g (sortI (c++[x])) with
   |true=>
    exfalso
    obtain⟨e,h3,_⟩:=@fold_perm g l (stepG g c x)
    refine hn2 (h3.mem_iff.2 (List.mem_append_left _ ?_))
    unfold stepG
    rw[if_pos hf,sortI_mem]
    simp
   |false=>
    obtain⟨e,h3,h4⟩:=@fold_perm g l (stepG g c x)
    have e1:stepG g c x=c:=by unfold stepG;rw[if_neg (by rw[hf];simp)]
    rw[e1] at h3
    refine⟨c,e,hf,?_,fun z hz=>List.mem_cons_of_mem _ (h4 z hz)⟩
    show(l.foldl (stepG g) (stepG g c x)).Perm _
    rw[e1]
    exact h3
  ·obtain⟨c',e,h3,h4,h5⟩:=@fold_skip g x l (stepG g c y) h hn2
   exact⟨c',e,h3,h4,fun z hz=>List.mem_cons_of_mem _ (h5 z hz)⟩
theorem fold_fit {g:Game}:∀{l c:List Int},fitG g c=true→fitG g (l.foldl (stepG g) c)=true
 |[],c,h=>h
 |x::l,c,h=>by
  show fitG g (l.foldl (stepG g) (stepG g c x))=true
  refine fold_fit ?_
  unfold stepG
  split
  ·assumption
  ·exact h
theorem fit_nil {p:Prob} (hc:checkE p=0):fitG (gameR p) []=true:=by
 unfold fitG
 rw[List.all_eq_true]
 intro r hr
 have hr2:r<(gameR p).bounds.length:=List.mem_range.1 hr
 have h1:nthD (gameR p).bounds r 0=boundS p r:=by
  show nthD (bndR p (nR p)) r 0=_
  rw[nthD_eq (by exact hr2)]
  simp[bndR]
 have h2:=bound_bd hc (r:=r)
 have h3:useG (gameR p) [] r=0:=rfl
 rw[h1,h3]
 exact decide_eq_true (by omega)
theorem start_asc2 {p:Prob}:ascOk p.offers.length (startR p):=by
 have h:=@start_asc p (ordE p).length
 rw[List.take_length] at h
 exact h
theorem start_feas {p:Prob} (hc:checkE p=0):feasE p (startR p)=0:=(feas_fit hc start_asc2).2 (fold_fit (fit_nil hc))
def selI (n:Nat) (c:List Int) (i:Int):List Int:=(uptoI n).filter fun k=>decide (k=i∨k∈c)
theorem sel_asc {n:Nat} {c:List Int} {i:Int}:ascOk n (selI n c i):=by
 refine⟨uptoI_lt.sublist List.filter_sublist,fun x hx=>?_⟩
 exact uptoI_mem.1 (List.mem_filter.1 hx).1
theorem sel_in {n:Nat} {c:List Int} {i:Int} (hc:ascOk n c) (hi:i∈c):(selI n c i).Perm c:=by
 refine(List.perm_ext_iff_of_nodup (asc_nodup sel_asc) (asc_nodup hc)).2 fun x=>?_
 unfold selI
 rw[List.mem_filter,decide_eq_true_eq,uptoI_mem]
 constructor
 ·rintro⟨_,rfl|h⟩
  ·exact hi
  ·exact h
 ·exact fun h=>⟨hc.2 x h,.inr h⟩
theorem sel_out {n:Nat} {c:List Int} {i:Int} (hc:ascOk n c) (hi:i∉c) (h0:0≤i∧i<n):(selI n c i).Perm (c++[i]):=by
 refine(List.perm_ext_iff_of_nodup (asc_nodup sel_asc) ?_).2 fun x=>?_
 ·rw[List.nodup_append]
  exact⟨asc_nodup hc,by simp,fun a ha b hb e=>by simp at hb;rw[e,hb] at ha;exact hi ha⟩
 ·unfold selI
  rw[List.mem_filter,decide_eq_true_eq,uptoI_mem,List.mem_append,List.mem_singleton]
  constructor
  ·rintro⟨_,h|h⟩
   ·exact .inr h
   ·exact .inl h
  ·rintro(h|rfl)
   ·exact⟨hc.2 x h,.inr h⟩
   ·exact⟨h0,.inl rfl⟩
theorem start_most {p:Prob} (hc:checkE p=0) {i:Int} (h0:inO p i) (hl:(startR p).length<(selI p.offers.length (startR p) i).length):feasE p (selI p.offers.length (startR p) i)≠0:=by
 have ha:=@start_asc2 p
 by_cases hi:i∈startR p
 ·have:=(sel_in ha hi).length_eq
  omega
 ·intro hf
  have hf2:=(feas_fit hc sel_asc).1 hf
  rw[fit_perm (sel_out ha hi h0)] at hf2
  have ho:i∈ordE p:=by unfold ordE;rw[if_pos hc];exact ord_mem.2 h0
  obtain⟨c',e,h3,h4,h5⟩:=@fold_skip (gameR p) i (ordE p) [] ho hi
  have h6:fitG (gameR p) (sortI (c'++[i])++e)=true:=by
   rw[←hf2]
   refine fit_perm ?_
   have q1:(sortI (c'++[i])++e).Perm (c'++[i]++e):=(List.mergeSort_perm _ _).append_right e
   refine q1.trans ?_
   have q2:(startR p++[i]).Perm (c'++e++[i]):=List.Perm.append_right [i] h4
   refine(List.Perm.trans ?_ q2.symm)
   rw[List.append_assoc,List.append_assoc]
   exact List.Perm.append_left c' List.perm_append_comm
  rw[fit_less (game_ok (by have:=(good_of hc).2.1;omega)) (fun x hx=>(ordE_mem (h5 x hx)).2) h6] at h3
  cases h3
theorem imp_inv {g:Game} (hg:gAll g):∀{n:Nat} {c:List Int},ascOk g.offers.length c→fitG g c=true→ascOk g.offers.length (impG g n c)∧fitG g (impG g n c)=true∧valG g c≤valG g (impG g n c)∧((1000000000 - valG g c).toNat≤n→exG g (impG g n c)=none):=by
 intro n
 induction n with
 |zero=>
  intro c hc hf
  refine⟨hc,hf,Int.le_refl _,fun h=>?_⟩
  show exG g c=none
  cases he:exG g c with
  |none=>rfl
  |some t=>
   obtain⟨h3,h4⟩:=ex_some he hc
   have h5:=valBd hg h4
   unfold betG at h3
   simp only[Bool.and_eq_true,decide_eq_true_eq] at h3
   omega
 |succ n ih=>
  intro c hc hf
  cases he:exG g c with
  |none=>
   have e:impG g (n+1) c=c:=by simp only[impG,he]
   rw[e]
   exact⟨hc,hf,Int.le_refl _,fun _=>he⟩
  |some t=>
   have e:impG g (n+1) c=impG g n t:=by simp only[impG,he]
   rw[e]
   obtain⟨h3,h4⟩:=ex_some he hc
   have h5:=valBd hg h4
   unfold betG at h3
   simp only[Bool.and_eq_true,decide_eq_true_eq] at h3
   obtain⟨a1,a2,a3,a4⟩:=ih h4 h3.2
   exact⟨a1,a2,by omega,fun h=>a4 (by omega)⟩
theorem imp_good {p:Prob} (hc:checkE p=0) {c:List Int} (hf:feasE p c=0):ascOk p.offers.length (impS p c).chosen∧feasE p (impS p c).chosen=0∧valueS p (impS p c).chosen=(impS p c).value∧valueS p c≤(impS p c).value∧impS p (impS p c).chosen=impS p c:=by
 obtain⟨_,ha⟩:=feas_good hf
 have hg:=gall_ok hc
 obtain⟨a1,a2,a3,a4⟩:=imp_inv hg (n:=(1000000000 - valG (gameR p) c).toNat) (c:=c) ha ((feas_fit hc ha).1 hf)
 have e:impS p c=⟨impR (gameR p) c,valG (gameR p) (impR (gameR p) c)⟩:=by unfold impS;rw[if_pos hf]
 have hf2:feasE p (impR (gameR p) c)=0:=(feas_fit hc a1).2 a2
 have a5:impR (gameR p) (impR (gameR p) c)=impR (gameR p) c:=imp_none (a4 (Nat.le_refl _))
 rw[e]
 refine⟨a1,hf2,val_eq hc a1,?_,?_⟩
 ·rw[val_eq hc ha];exact a3
 ·show impS p (impR (gameR p) c)=_
  unfold impS
  rw[if_pos hf2,a5]
def r306:SCtr:=⟨6,Prob,.one codP,fun _=>True,fun _=> .sb true⟩
def lsA (p:Prob):List (List Int×Int):=[(startR p,valG (gameR p) (startR p)),((impS p (startR p)).chosen,(impS p (startR p)).value)]
def selT (c:List Int) (i:Int) (k:Nat):List Int:=(uptoI k).filter fun k=>decide (k=i∨k∈c)
def st306 (p:Prob):SStore:=[.cells p.ss 27 20 false,.cells [.row (.i .i64) (startR p),.si .i64 (valG (gameR p) (startR p))] 34 2 false,.cells [.row (.i .i64) (impS p (startR p)).chosen,.si .i64 (impS p (startR p)).value] 34 2 false]
def Λ306 (p:Prob):Nat→LoopAnn
 |6=> .inv Int (fun i=>⟨[(1,.ptr 0 0 20),(3,.ptr 1 0 2),(4,.ptr 2 0 2),(26,.row (.pair (.lst (.i .i64)) (.i .i64)) (lsA p)),(27,.si .i64 2),(28,.si .i64 i)],st306 p⟩)
   (fun s=>iS s 28) (fun i=>0≤i∧i≤2) (fun i=>(2 - i).toNat) fun _ _=> .look
 |12=> .inv Int (fun i=>⟨[(1,.ptr 0 0 20),(3,.ptr 1 0 2),(4,.ptr 2 0 2),(49,.si .i64 p.offers.length),(50,.si .i64 i)],st306 p⟩)
   (fun s=>iS s 50) (fun i=>0≤i∧i≤p.offers.length) (fun i=>(p.offers.length - i).toNat) fun i k=>match k with
   |16=> .inv Int (fun k=>⟨[(1,.ptr 0 0 20),(3,.ptr 1 0 2),(4,.ptr 2 0 2),(7,.si .i64 i),(8,.ow 3 (selT (startR p) i k.toNat).length 1),(49,.si .i64 p.offers.length),(50,.si .i64 i),(55,.si .i64 p.offers.length),(56,.si .i64 k)],st306 p++[.row (.i .i64) (selT (startR p) i k.toNat) 3 true]⟩)
     (fun s=>iS s 56) (fun k=>0≤k∧k≤p.offers.length) (fun k=>(p.offers.length - k).toNat) fun _ _=> .look
   |_=> .look
 |_=> .look
theorem selT_succ {c:List Int} {i k:Int} (h:0≤k):selT c i (k+1).toNat=selT c i k.toNat++(if k=i∨k∈c then[k] else[]):=by
 unfold selT
 rw[show(k+1).toNat=k.toNat+1 by omega,uptoI_succ,List.filter_append]
 congr 1
 rw[show((k.toNat:Nat):Int)=k by omega]
 by_cases h2:k=i∨k∈c
 ·rw[if_pos h2]
  exact List.filter_cons_of_pos (p:=fun k=>decide (k=i∨k∈c)) (decide_eq_true h2)
 ·rw[if_neg h2]
  exact List.filter_cons_of_neg (p:=fun k=>decide (k=i∨k∈c)) (by rw[decide_eq_false h2];simp)
theorem selT_len {c:List Int} {i:Int} {k:Nat}:(selT c i k).length≤k:=by
 have:=List.length_filter_le (fun k=>decide (k=i∨k∈c)) (uptoI k)
 rw[uptoI_len] at this
 exact this
theorem h306:Holds Try.prog r306:=by
 refine con (L:=[r314,r24,r310,r312,r315,r55,r58,r317,r311]) r306 F306 Λ306 (OwnOK.none _) (by simpa using⟨h314,h24,h310,h312,h315,h55,h58,h317,h311⟩) (by kernel_rfl) (by kernel_rfl) (fun _=>rfl) ?_
 rintro(p:Prob) -
 refine vcOf (let z0:=p.offers.length;let z1:=!decide (z0≤16);let z2:=decide (checkE p≠(0:Int));let z3:=SV.ptr 0 0 20;let z4:=SV.ptr 1 0 2;let z5:=SV.ptr 2 0 2;let z6:=SId.i .i64;let z7:=z6.lst.pair z6;let z8:=valG (gameR p) (startR p);let z9:=impS p (startR p);let z10:=z9.chosen;let z11:=SV.row z7 (lsA p);let z12:=SV.si .i64 2;let z13:=SObj.cells [SV.si .i64 p.supply.a0,SV.si .i64 p.supply.a1,SV.si .i64 p.supply.a2,SV.si .i64 p.supply.a3,SV.si .i64 p.supply.a4,SV.si .i64 p.supply.a5,SV.si .i64 p.opn.a0,SV.si .i64 p.opn.a1,SV.si .i64 p.opn.a2,SV.si .i64 p.opn.a3,SV.si .i64 p.opn.a4,SV.si .i64 p.opn.a5,SV.si .i64 p.cls.a0,SV.si .i64 p.cls.a1,SV.si .i64 p.cls.a2,SV.si .i64 p.cls.a3,SV.si .i64 p.cls.a4,SV.si .i64 p.cls.a5,SV.row z6 p.classes,SV.row SId.off p.offers] 27 20 false;let z14:=SObj.cells [SV.row z6 (startR p),SV.si .i64 z8] 34 2 false;let z15:=SObj.cells [SV.row z6 z10,SV.si .i64 z9.value] 34 2 false;let z16:=(↑z0:Int);let z17:=SV.si .i64 z16;let z18:=decide (z8≤z9.value);let z19:=sameA (impS p z10) z9;True∧(z1=true→True∧(SV.sb true).same (SV.sb true))∧(z1=false→True∧(z2=true→True∧(SV.sb true).same (SV.sb true))∧(z2=false→z0≤40∧(startR p).length≤9223372036854775807∧(((z3.same z3∧z4.same z4∧z5.same z5∧(SV.row z7 [(startR p,z8),(z10,z9.value)]).same z11∧z12.same z12∧(SV.il .i64 0).same (SV.si .i64 0)∧True)∧z13.same z13∧z14.same z14∧z15.same z15∧True)∧(0:Int)≤(0:Int)∧(0:Int)≤(2:Int))∧∀(x:Int),let z20:=decide (x<(2:Int));let z21:=nthD (lsA p) x.toNat z7.dflt;let z22:=decide (feasE p z21.fst≠(0:Int));let z23:=decide (valueS p z21.fst≠z21.snd);let z24:=x+(1:Int);let z25:=SV.si .i64 z24;(0:Int)≤x∧x≤(2:Int)→(z20=true→(0:Int)≤x∧x<(↑(lsA p).length:Int)∧x.toNat<(lsA p).length∧List.length z21.fst≤9223372036854775807∧(z22=true→(SV.bl false).same (SV.sb true))∧(z22=false→List.length z21.fst≤9223372036854775807∧(z23=true→(SV.bl false).same (SV.sb true))∧(z23=false→inR .i64 z24∧((z3.same z3∧z4.same z4∧z5.same z5∧z11.same z11∧z12.same z12∧z25.same z25∧True)∧z13.same z13∧z14.same z14∧z15.same z15∧True)∧((0:Int)≤z24∧z24≤(2:Int))∧((2:Int) - z24).toNat<((2:Int) - x).toNat)))∧(z20=false→(((z3.same z3∧z4.same z4∧z5.same z5∧(SV.si .i64 (↑p.offers.length:Int)).same z17∧(SV.il .i64 0).same (SV.si .i64 0)∧True)∧z13.same z13∧z14.same z14∧z15.same z15∧True)∧(0:Int)≤(0:Int)∧(0:Int)≤z16)∧∀(x:Int),let z26:=selT (startR p) x 0;let z27:=x+(1:Int);let z28:=SV.si .i64 z27;(0:Int)≤x∧x≤z16→(decide (x<z16)=true→(((z3.same z3∧z4.same z4∧z5.same z5∧(SV.si .i64 x).same (SV.si .i64 x)∧(SV.ow 3 0 1).same (SV.ow 3 z26.length 1)∧z17.same z17∧(SV.si .i64 x).same (SV.si .i64 x)∧(SV.si .i64 (↑p.offers.length:Int)).same z17∧(SV.il .i64 0).same (SV.si .i64 0)∧True)∧z13.same z13∧z14.same z14∧z15.same z15∧(SObj.row z6 [] 3 true).same (SObj.row z6 z26 3 true)∧True)∧(0:Int)≤(0:Int)∧(0:Int)≤z16)∧∀(x_1:Int),let z29:=selT (startR p) x x_1.toNat;let z30:=z29.length;let z31:=z29.length+1;let z32:=x_1+(1:Int);let z33:=SV.si .i64 x;let z34:=selT (startR p) x z32.toNat;let z35:=SV.ow 3 z34.length 1;let z36:=SV.si .i64 z32;let z37:=SObj.row z6 z34 3 true;let z38:=decide (x_1∈startR p);let z39:=decide ((↑(startR p).length:Int)<(↑z30:Int));let z40:=decide (feasE p z29=(0:Int));(0:Int)≤x_1∧x_1≤z16→(decide (x_1<z16)=true→(decide (x_1=x)=true→z30=z29.length∧z31*8≤140737488355328∧z31≤1000000000000∧inR .i64 z32∧((z3.same z3∧z4.same z4∧z5.same z5∧z33.same z33∧(SV.ow 3 (z29++[x_1]).length 1).same z35∧z17.same z17∧z33.same z33∧z17.same z17∧z36.same z36∧True)∧z13.same z13∧z14.same z14∧z15.same z15∧(SObj.row z6 (z29++[x_1]) 3 true).same z37∧True)∧((0:Int)≤z32∧z32≤z16)∧(z16 - z32).toNat<(z16 - x_1).toNat)∧(decide (x_1=x)=false→(startR p).length≤100000∧(z38=true→z30=z29.length∧z31*8≤140737488355328∧z31≤1000000000000∧inR .i64 z32∧((z3.same z3∧z4.same z4∧z5.same z5∧z33.same z33∧(SV.ow 3 (z29++[x_1]).length 1).same z35∧z17.same z17∧z33.same z33∧z17.same z17∧z36.same z36∧True)∧z13.same z13∧z14.same z14∧z15.same z15∧(SObj.row z6 (z29++[x_1]) 3 true).same z37∧True)∧((0:Int)≤z32∧z32≤z16)∧(z16 - z32).toNat<(z16 - x_1).toNat)∧(z38=false→inR .i64 z32∧((z3.same z3∧z4.same z4∧z5.same z5∧z33.same z33∧(SV.ow 3 z30 1).same z35∧z17.same z17∧z33.same z33∧z17.same z17∧z36.same z36∧True)∧z13.same z13∧z14.same z14∧z15.same z15∧(SObj.row z6 z29 3 true).same z37∧True)∧((0:Int)≤z32∧z32≤z16)∧(z16 - z32).toNat<(z16 - x_1).toNat)))∧(decide (x_1<z16)=false→(z39=true→z30=z29.length∧z30≤9223372036854775807∧(z40=true→(SV.bl false).same (SV.sb true))∧(z40=false→inR .i64 z27∧((z3.same z3∧z4.same z4∧z5.same z5∧z17.same z17∧z28.same z28∧True)∧z13.same z13∧z14.same z14∧z15.same z15∧True)∧((0:Int)≤z27∧z27≤z16)∧(z16 - z27).toNat<(z16 - x).toNat))∧(z39=false→inR .i64 z27∧((z3.same z3∧z4.same z4∧z5.same z5∧z17.same z17∧z28.same z28∧True)∧z13.same z13∧z14.same z14∧z15.same z15∧True)∧((0:Int)≤z27∧z27≤z16)∧(z16 - z27).toNat<(z16 - x).toNat)))∧(decide (x<z16)=false→(z18=true→z10.length≤9223372036854775807∧((impS p z10).chosen.length≤1000000∧z10.length≤1000000)∧(z19=true→True∧(SV.sb true).same (SV.sb true))∧(z19=false→(SV.bl false).same (SV.sb true)))∧(z18=false→(SV.bl false).same (SV.sb true))))))) (by kernel_rfl) ?_
 conv=>zeta
 try simp only[vcs]
 refine⟨fun _=>trivial,fun h16=>⟨fun _=>trivial,fun h=>?_⟩⟩
 have hc:checkE p=0:=Classical.not_not.1 h
 have hsa:=@start_asc2 p
 have hsl:=asc_len hsa
 have hsf:=start_feas hc
 have hsv:valueS p (startR p)=valG (gameR p) (startR p):=val_eq hc hsa
 obtain⟨b1,b2,b3,b4,b5⟩:=imp_good hc hsf
 have hbl:=asc_len b1
 have hs:∀a:Alloc,sameA a a=true:=fun a=>by simp[sameA,cmp_same]
 have how:∀{x y:Nat},x=y→(SV.ow 3 x 1).same (SV.ow 3 y 1):=by rintro _ _ rfl;rfl
 have hrow:∀{x y:List Int},x=y→(SObj.row (.i .i64) x 3 true).same (SObj.row (.i .i64) y 3 true):=by rintro _ _ rfl;rfl
 have hll:(lsA p).length=2:=rfl
 refine⟨by omega,by omega,⟨rfl,by omega,by omega⟩,?_⟩
 rintro x ⟨x0,x1⟩
 refine⟨fun hx=>?_,fun _=>⟨⟨by omega,by omega⟩,?_⟩⟩
 ·have key:∀y:List Int×Int,y=nthD (lsA p) x.toNat ((SId.i IntKind.i64).lst.pair (SId.i IntKind.i64)).dflt→y.1.length≤9223372036854775807∧feasE p y.1=0∧valueS p y.1=y.2:=by
   intro y hy
   have h2:x=0∨x=1:=by omega
   rcases h2 with rfl|rfl
   ·have e:y=(startR p,valG (gameR p) (startR p)):=hy
    rw[e]
    exact⟨by show(startR p).length≤_;omega,hsf,hsv⟩
   ·have e:y=((impS p (startR p)).chosen,(impS p (startR p)).value):=hy
    rw[e]
    exact⟨by show(impS p (startR p)).chosen.length≤_;omega,b2,b3⟩
  obtain⟨k1,k2,k3⟩:=key _ rfl
  rw[k2,k3]
  exact⟨x0,by rw[hll];omega,by rw[hll];omega,k1,fun h=>absurd rfl h,fun _=>⟨k1,fun h=>absurd rfl h,fun _=>⟨by omega,by omega,by omega⟩⟩⟩
 ·rintro i ⟨i0,i1⟩
  refine⟨fun hi=>⟨⟨⟨how rfl,hrow rfl⟩,by omega,by omega⟩,?_⟩,fun hi=>?_⟩
  ·rintro k ⟨k0,k1⟩
   have hsl2:=@selT_len (startR p) i k.toNat
   refine⟨fun hk=>?_,fun hk=>?_⟩
   ·have hss:=@selT_succ (startR p) i k k0
    have tail:(0≤k+1∧k+1≤(p.offers.length:Int))∧((p.offers.length:Int) - (k+1)).toNat<((p.offers.length:Int) - k).toNat:=by omega
    refine⟨fun hki=>?_,fun hki=>⟨by omega,fun hin=>?_,fun hin=>?_⟩⟩
    ·rw[if_pos (.inl hki)] at hss
     rw[hss]
     exact⟨by omega,by omega,by omega,⟨how rfl,hrow rfl⟩,tail⟩
    ·rw[if_pos (.inr hin)] at hss
     rw[hss]
     exact⟨by omega,by omega,by omega,⟨how rfl,hrow rfl⟩,tail⟩
    ·rw[if_neg (fun h=>h.elim hki hin),List.append_nil] at hss
     rw[hss]
     exact⟨by omega,⟨how rfl,hrow rfl⟩,tail⟩
   ·have e:selT (startR p) i k.toNat=selI p.offers.length (startR p) i:=by
     rw[show k.toNat=p.offers.length by omega]
     rfl
    rw[e] at hsl2 ⊢
    exact⟨fun hlt=>⟨by omega,fun hf=>absurd hf (start_most hc ⟨i0,hi⟩ (by omega)),fun _=>⟨by omega,by omega,by omega⟩⟩,fun _=>⟨by omega,by omega,by omega⟩⟩
  ·rw[b5,hs]
   rw[hsv] at b4
   exact⟨fun _=>⟨by omega,⟨by omega,by omega⟩,fun _=>trivial,fun h=>absurd h (by simp)⟩,fun h=>absurd b4 h⟩
end Go.Vi
