/-
  Contracts: newTableau, setGoal, start.
  Conditions: none.
-/
import Derived.Test.YtgejbpobaicgfaaGreatRX06
import Derived.Test.YtgejbpobaicgfaaGreatRX07
import Derived.Test.YtgejbpobaicgfaaGreatRX08
import Derived.Test.YtgejbpobaicgfaaGreatRX09
import Derived.Test.YtgejbpobaicgfaaGreatRX10
set_option maxRecDepth 100000
set_option maxHeartbeats 4000000
set_option linter.unusedSimpArgs false
set_option linter.unusedVariables false
namespace Go.Vi
open Go.Proofs.YtgejbpobaicgfaaGreat.Ir
open Go.Proofs
def uY (a:nc):jf:=⟨a.1.length,a.2.length,a.2.length,a.2.length,a.2.length,a.1.length,a.2.map (·.1),a.2.map (·.2),List.replicate a.1.length (ah 0),ah 0,(bW a.2.length).map fun i=>a.1.length+i,bW a.1.length⟩
def Ff:cK where
 f:=101
 α:=nc
 put a:=[sK.put a]
 st _:=[]
 dec v o:=match v,o with
  |[v],[]=>sK.dec v
  |_,_=>none
 ok v o a h:=by
  split at h
  ·exact⟨by simp only[gL,sK.ok _ _ h],rfl⟩
  ·cases h
 inj a b h _:=sK.inj a b (by simpa[gL] using h)
 dom a:=a.1.length≤1000∧a.2.length≤1000∧∀r∈a.2,r.1.length≤1000
 res a:=.ptr 0 0 10
 out a:=(uY a).gQ
def MH (a:nc) (k0 k1 k2 k3 k4:Nat) (co:List (List aW)) (bo ct:List aW) (ba fr:List Int):a8:=
 [.cells [.row sF a.1,.row sR a.2] 110 2 false,.cells [.si .i64 a.1.length,.si .i64 a.2.length,.ow 2 k0 1,.ow 3 k1 3,.ow 4 k2 3,.sb (ah 0).1,.row (.i .u32) (ah 0).2.1,.row (.i .u32) (ah 0).2.2,.ow 5 k3 1,.ow 6 k4 1] 179 10 false,
  .row (.aY sF) co 72 false,.row sF bo 70 false,.row sF ct 70 true,.row (.i .i64) ba 3 false,.row (.i .i64) fr 3 false]
def Zn (a:nc):Nat→bz
 |3=> .inv Int (fun j=>⟨[(1,.ptr 0 0 2),(3,.ptr 1 0 10),(18,.si .i64 a.1.length),(19,.si .i64 j)],MH a 0 0 j.toNat 0 j.toNat [] [] (List.replicate j.toNat (ah 0)) [] (bW j.toNat)⟩)
   (fun s=>iS s 19) (fun j=>0≤j∧j≤a.1.length) (fun j=>(a.1.length - j).toNat) fun _ _=> .look
 |9=> .inv Int (fun i=>⟨[(3,.ptr 1 0 10),(44,.row sR a.2),(45,.si .i64 a.2.length),(46,.si .i64 i)],MH a i.toNat i.toNat a.1.length i.toNat a.1.length ((a.2.take i.toNat).map (·.1)) ((a.2.take i.toNat).map (·.2)) (List.replicate a.1.length (ah 0)) ((bW i.toNat).map fun i=>a.1.length+i) (bW a.1.length)⟩)
   (fun s=>iS s 46) (fun i=>0≤i∧i≤a.2.length) (fun i=>(a.2.length - i).toNat) fun _ _=> .look
 |_=> .look
theorem h399:eh Tryz.prog Ff:=by
 refine C0 (L:=[lW]) (W:=[]) Ff xi (fun _=>none) Zn (by simp) (by simpa using h94) (by kernel_rfl) (fun _=>rfl) (fun _=>rfl) (by kernel_rfl) ?_
 rintro⟨g,rs⟩ ⟨hg,hr,hrr⟩
 simp only at hg hr hrr
 refine bh (let z0:=SV.ptr 0 0 2;let z1:=SV.ptr 1 0 10;let z2:=SV.si .i64 (↑g.length:Int);let z3:=(↑g.length:Int);let z4:=SV.si .i64 z3;let z5:=SV.row sR rs;let z6:=af.cells [SV.row sF g,z5] 110 2 false;let z7:=SV.si .i64 (↑rs.length:Int);let z8:=SV.ow 2 0 1;let z9:=SV.ow 3 0 3;let ak:=SV.ow 4 0 3;let al:=ah (IntCast.intCast (0:Int));let z12:=ai.i .u32;let au:=SV.ow 5 0 1;let ar:=[au,SV.ow 6 0 1];let ax:=(↑rs.length:Int);let ay:=SV.si .i64 ax;let z17:=ah (0:Rat);let aG:=SV.sb z17.fst;let aH:=SV.row z12 z17.snd.fst;let z20:=SV.row z12 z17.snd.snd;let z21:=ai.b.pair (z12.aY.pair z12.aY);let z22:=af.row sF.aY [] 72 false;let z23:=af.row sF [] 70 false;let z24:=ai.i .i64;let z25:=af.row z24 [] 3 false;let z26:=SV.ow 4 g.length 3;let z27:=[SV.ow 6 g.length 1];let z28:=List.replicate g.length z17;let z29:=af.row sF z28 70 true;let z30:=af.row z24 (bW g.length) 3 false;let z31:=SV.ptr 0 0 10;let z32:=uY (g,rs);((-9223372036854775808:Int)≤(0:Int)∧(0:Int)≤(9223372036854775807:Int))∧(((z0.same z0∧z1.same z1∧z2.same z4∧(SV.il .i64 0).same (SV.si .i64 0)∧True)∧z6.same z6∧(af.cells (z2::z7::z8::z9::ak::SV.sb al.fst::SV.row z12 al.snd.fst::SV.row z12 al.snd.snd::ar) 179 10 false).same (af.cells (z4::ay::z8::z9::ak::aG::aH::z20::ar) 179 10 false)∧(af.row z21.aY [] 72 false).same z22∧(af.row z21 [] 70 false).same z23∧(af.row z21 [] 70 true).same (af.row sF [] 70 true)∧z25.same z25∧z25.same (af.row z24 (bW 0) 3 false)∧True)∧(0:Int)≤(0:Int)∧(0:Int)≤z3)∧∀(x:Int),let z33:=bW x.toNat;let z34:=z33.length+1;let z35:=List.replicate x.toNat z17;let z36:=z35.length+1;let z37:=x+(1:Int);let z38:=SV.si .i64 z37;let z39:=z35++[(al.fst,al.snd.fst,al.snd.snd)];let z40:=z37.toNat;(0:Int)≤x∧x≤z3→(decide (x<z3)=true→1=1∧x.toNat=z33.length∧z34*8≤140737488355328∧z34≤1000000000000∧((-9223372036854775808:Int)≤(0:Int)∧(0:Int)≤(9223372036854775807:Int))∧1=1∧x.toNat=z35.length∧z36*56≤140737488355328∧z36≤1000000000000∧aC .i64 z37∧((z0.same z0∧z1.same z1∧z4.same z4∧z38.same z38∧True)∧z6.same z6∧(af.cells [z4,ay,z8,z9,SV.ow 4 z39.length 3,aG,aH,z20,au,SV.ow 6 (z33++[x]).length 1] 179 10 false).same (af.cells [z4,ay,z8,z9,SV.ow 4 z40 3,aG,aH,z20,au,SV.ow 6 z40 1] 179 10 false)∧z22.same z22∧z23.same z23∧(af.row z21 z39 70 true).same (af.row sF (List.replicate z40 z17) 70 true)∧z25.same z25∧(af.row z24 (z33++[x]) 3 false).same (af.row z24 (bW z40) 3 false)∧True)∧((0:Int)≤z37∧z37≤z3)∧(z3 - z37).toNat<(z3 - x).toNat)∧(decide (x<z3)=false→(((z1.same z1∧z5.same z5∧z7.same ay∧(SV.il .i64 0).same (SV.si .i64 0)∧True)∧z6.same z6∧(af.cells [z4,ay,z8,z9,SV.ow 4 x.toNat 3,aG,aH,z20,au,SV.ow 6 x.toNat 1] 179 10 false).same (af.cells (z4::ay::z8::z9::z26::aG::aH::z20::au::z27) 179 10 false)∧z22.same z22∧z23.same z23∧(af.row sF z35 70 true).same z29∧z25.same z25∧(af.row z24 z33 3 false).same z30∧True)∧(0:Int)≤(0:Int)∧(0:Int)≤ax)∧∀(x:Int),let z41:=ae rs x.toNat sR.dflt;let z42:=List.length z41.fst;let z43:=List.take x.toNat rs;let z44:=List.map (fun x ↦x.fst) z43;let z45:=z44.length+1;let z46:=List.map (fun x ↦x.snd) z43;let z47:=z46.length+1;let z48:=List.map (fun i ↦(↑(g,rs).fst.length:Int)+i) (bW x.toNat);let z49:=z48.length+1;let z50:=x+(1:Int);let z51:=SV.si .i64 z50;let z52:=z46++[(z41.snd.fst,z41.snd.snd.fst,z41.snd.snd.snd)];let z53:=z50.toNat;(0:Int)≤x∧x≤ax→(decide (x<ax)=true→(0:Int)≤x∧x<(↑rs.length:Int)∧x.toNat<rs.length∧0=0∧(0+z42)*56≤140737488355328∧0+z42≤1000000000000∧x.toNat=z44.length∧z45*24≤140737488355328∧z45≤1000000000000∧z42=z42∧z42=z42∧z42=z42∧1=1∧x.toNat=z46.length∧z47*56≤140737488355328∧z47≤1000000000000∧aC .i64 (z3+x)∧1=1∧x.toNat=z48.length∧z49*8≤140737488355328∧z49≤1000000000000∧aC .i64 z50∧((z1.same z1∧z5.same z5∧ay.same ay∧z51.same z51∧True)∧z6.same z6∧(af.cells (z4::ay::SV.ow 2 z45 1::SV.ow 3 z52.length 3::z26::aG::aH::z20::SV.ow 5 (z48++[z3+x]).length 1::z27) 179 10 false).same (af.cells (z4::ay::SV.ow 2 z53 1::SV.ow 3 z53 3::z26::aG::aH::z20::SV.ow 5 z53 1::z27) 179 10 false)∧(af.row sF.aY (z44++[z41.fst]) 72 false).same (af.row sF.aY (List.map (fun x ↦x.fst) (List.take z53 rs)) 72 false)∧(af.row z21 z52 70 false).same (af.row sF (List.map (fun x ↦x.snd) (List.take z53 rs)) 70 false)∧z29.same z29∧(af.row z24 (z48++[z3+x]) 3 false).same (af.row z24 (List.map (fun i ↦(↑(g,rs).fst.length:Int)+i) (bW z53)) 3 false)∧z30.same z30∧True)∧((0:Int)≤z50∧z50≤ax)∧(ax - z50).toNat<(ax - x).toNat)∧(decide (x<ax)=false→g.length=z28.length∧z31.same z31∧(af.cells [z4,ay,SV.ow 1 x.toNat 1,SV.ow 2 x.toNat 3,SV.row sF z28,aG,aH,z20,SV.ow 3 x.toNat 1,SV.ow 4 g.length 1] 179 10 false).same (af.cells [SV.si .i64 z32.n,SV.si .i64 z32.m,SV.ow 1 z32.k0 1,SV.ow 2 z32.k1 3,SV.row sF z32.cost,SV.sb z32.v.fst,SV.row z12 z32.v.snd.fst,SV.row z12 z32.v.snd.snd,SV.ow 3 z32.k3 1,SV.ow 4 z32.k4 1] 179 10 false)∧(af.row sF.aY z44 72 false).same (af.row sF.aY z32.a7 72 false)∧(af.row sF z46 70 false).same (af.row sF z32.bound 70 false)∧(af.row z24 z48 3 false).same (af.row z24 z32.basic 3 false)∧z30.same (af.row z24 z32.free 3 false)∧True))) (by kernel_rfl) ?_
 simp only[vcs]
 have h0:(IntCast.intCast 0:Rat)=0:=rfl
 simp only[h0,gP]
 have hcell:∀{a b a' b' c d e a2 b2 c2 d2 e2:Nat},a=a2→b=b2→c=c2→d=d2→e=e2→(af.cells [.si .i64 a',.si .i64 b',.ow 2 a 1,.ow 3 b 3,.ow 4 c 3,.sb (ah 0).1,.row (.i .u32) (ah 0).2.1,.row (.i .u32) (ah 0).2.2,.ow 5 d 1,.ow 6 e 1] 179 10 false).same
   (af.cells [.si .i64 a',.si .i64 b',.ow 2 a2 1,.ow 3 b2 3,.ow 4 c2 3,.sb (ah 0).1,.row (.i .u32) (ah 0).2.1,.row (.i .u32) (ah 0).2.2,.ow 5 d2 1,.ow 6 e2 1] 179 10 false):=by
  rintro _ _ _ _ _ _ _ _ _ _ _ _ rfl rfl rfl rfl rfl
  rfl
 have Zo:∀{x y:List aW},x=y→(af.row sF x 70 false).same (af.row sF y 70 false):=by rintro _ _ rfl;rfl
 have oC:∀{x y:List aW},x=y→(af.row sF x 70 true).same (af.row sF y 70 true):=by rintro _ _ rfl;rfl
 have Zp:∀{x y:List (List aW)},x=y→(af.row (.aY sF) x 72 false).same (af.row (.aY sF) y 72 false):=by rintro _ _ rfl;rfl
 have fa:∀{x y:List Int},x=y→(af.row (.i .i64) x 3 false).same (af.row (.i .i64) y 3 false):=by rintro _ _ rfl;rfl
 have hcast:∀k:Nat,((k:Nat):Int).toNat=k:=fun k=>Int.toNat_natCast k
 refine⟨by omega,⟨⟨rfl,fa rfl⟩,by omega,by omega⟩,?_⟩
 rintro j ⟨j0,j1⟩
 have l1:=@e8 j.toNat
 have l2:(List.replicate j.toNat (ah 0)).length=j.toNat:=List.length_replicate
 refine⟨fun hj=>?_,fun hj=>?_⟩
 ·have e1:bW j.toNat++[j]=bW (j+1).toNat:=by
   rw[show(j+1).toNat=j.toNat+1 by omega,qi,show((j.toNat:Nat):Int)=j by omega]
  have e2:List.replicate j.toNat (ah 0)++[ah 0]=List.replicate (j+1).toNat (ah 0):=by
   rw[show(j+1).toNat=j.toNat+1 by omega,List.replicate_succ']
  rw[e1,e2,e8,List.length_replicate]
  rw[e8,List.length_replicate]
  exact⟨rfl,by omega,by omega,by omega,rfl,by omega,by omega,by omega,⟨hcell rfl rfl rfl rfl rfl,oC rfl,fa rfl⟩,by omega,by omega⟩
 ·rw[show j.toNat=g.length by omega]
  refine⟨⟨⟨hcell rfl rfl rfl rfl rfl,oC rfl,fa rfl⟩,by omega,by omega⟩,?_⟩
  rintro i ⟨i0,i1⟩
  have l3:(List.map (fun x:List aW×aW=>x.1) (List.take i.toNat rs)).length=i.toNat:=by rw[List.length_map,List.length_take];omega
  have l4:(List.map (fun x:List aW×aW=>x.2) (List.take i.toNat rs)).length=i.toNat:=by rw[List.length_map,List.length_take];omega
  have l5:(List.map (fun i:Int=>(g.length:Int)+i) (bW i.toNat)).length=i.toNat:=by rw[List.length_map,e8]
  refine⟨fun hi=>?_,fun hi=>?_⟩
  ·have hm:=hrr _ (dQ (d:=sR.dflt) (show i.toNat<rs.length by omega))
   have et:=k9 (d:=sR.dflt) i0 hi
   have e1:List.map (fun x:List aW×aW=>x.1) (List.take i.toNat rs)++[(ae rs i.toNat sR.dflt).1]=List.map (fun x:List aW×aW=>x.1) (List.take (i+1).toNat rs):=by rw[et,List.map_append];rfl
   have e2:List.map (fun x:List aW×aW=>x.2) (List.take i.toNat rs)++[(ae rs i.toNat sR.dflt).2]=List.map (fun x:List aW×aW=>x.2) (List.take (i+1).toNat rs):=by rw[et,List.map_append];rfl
   have e3:List.map (fun i:Int=>(g.length:Int)+i) (bW i.toNat)++[(g.length:Int)+i]=List.map (fun i:Int=>(g.length:Int)+i) (bW (i+1).toNat):=by
    rw[show(i+1).toNat=i.toNat+1 by omega,qi,List.map_append,show((i.toNat:Nat):Int)=i by omega];rfl
   have l6:(List.map (fun x:List aW×aW=>x.2) (List.take (i+1).toNat rs)).length=(i+1).toNat:=by rw[List.length_map,List.length_take];omega
   have l7:(List.map (fun i:Int=>(g.length:Int)+i) (bW (i+1).toNat)).length=(i+1).toNat:=by rw[List.length_map,e8]
   refine⟨i0,hi,by omega,by omega,by omega,l3.symm,by omega,by omega,l4.symm,by omega,by omega,by omega,l5.symm,by omega,by omega,by omega,⟨hcell ?_ ?_ rfl ?_ rfl,Zp e1,Zo e2,fa e3⟩,by omega,by omega⟩
   ·omega
   ·exact(congrArg List.length e2).trans l6
   ·exact(congrArg List.length e3).trans l7
  ·have e:i.toNat=rs.length:=by omega
   rw[e,List.take_length]
   exact⟨List.length_replicate.symm,rfl,rfl,rfl,rfl,rfl⟩
def r400:cK:=ox 102 Unit .nil (fun _ m t _=>fz m.toNat t) (fun _ _ _ _=> .aD [.sc (.slice none 0 0),.sb true]) (fun _ _ t _=>t)
def Zq (n m:Int) (t:Tb):Nat→bz
 |3=> .inv Int (fun i=>⟨[(0,.ptr 0 0 10),(4,.si .i64 (-1)),(12,.ow 2 t.bound.length 3),(13,.si .i64 t.bound.length),(14,.si .i64 i)],(aF n m t).gQ⟩)
   (fun s=>iS s 14) (fun i=>0≤i∧i≤m) (fun i=>(m - i).toNat) fun _ _=> .look
 |_=> .look
theorem h400:eh Tryz.prog r400:=by
 refine lN (L:=[sw]) (W:=[]) r400 xj (fun a=>Zq a.1.n a.1.m a.1.t) (by simp) (by simpa using h99) (by kernel_rfl) (fun _=>rfl) (by kernel_rfl) ?_
 rintro⟨x,u⟩ ⟨n,m,t,hx,hok,hd⟩
 simp only at hx hd
 subst hx
 refine bh (let z0:=SV.ptr 0 0 10;let z1:=SV.si .i64 (-1:Int);let z2:=SV.ow 2 (aF n m t).k1 3;let z3:=(aF n m t).t.bound.length;let z4:=SV.ow 2 z3 3;let z5:=SV.si .i64 (↑z3:Int);let z6:=(aF n m t).m;let z7:=ai.i .u32;let z8:=aF (aF n m t).n z6 (aF n m t).t;let z9:=af.cells [SV.si .i64 z8.n,SV.si .i64 z8.m,SV.ow 1 z8.k0 1,SV.ow 2 z8.k1 3,SV.row sF z8.cost,SV.sb z8.v.fst,SV.row z7 z8.v.snd.fst,SV.row z7 z8.v.snd.snd,SV.ow 3 z8.k3 1,SV.ow 4 z8.k4 1] 179 10 false;let ak:=af.row sF.aY z8.a7 72 false;let al:=af.row sF z8.bound 70 false;let z12:=ai.i .i64;let au:=af.row z12 z8.basic 3 false;let ar:=af.row z12 z8.free 3 false;let ax:=z8.bound.length;let ay:=SV.sc (Value.slice none 0 0);(((z0.same z0∧(SV.il .i64 (-1:Int)).same z1∧z2.same z4∧(SV.si .i64 (↑(aF n m t).k1:Int)).same z5∧(SV.il .i64 0).same (SV.si .i64 0)∧True)∧(af.cells [SV.si .i64 (aF n m t).n,SV.si .i64 z6,SV.ow 1 (aF n m t).k0 1,z2,SV.row sF (aF n m t).cost,SV.sb (aF n m t).v.fst,SV.row z7 (aF n m t).v.snd.fst,SV.row z7 (aF n m t).v.snd.snd,SV.ow 3 (aF n m t).k3 1,SV.ow 4 (aF n m t).k4 1] 179 10 false).same z9∧(af.row sF.aY (aF n m t).a7 72 false).same ak∧(af.row sF (aF n m t).bound 70 false).same al∧(af.row z12 (aF n m t).basic 3 false).same au∧(af.row z12 (aF n m t).free 3 false).same ar∧True)∧(0:Int)≤(0:Int)∧(0:Int)≤z6)∧∀(x:Int),let z17:=decide (x<(↑z3:Int));let aG:=ae z8.bound x.toNat sF.dflt;let aH:=(aG.fst,aG.snd.fst,aG.snd.snd);let z20:=decide (e7 (aO aH)<(0:Int));let z21:=x+(1:Int);let z22:=SV.si .i64 z21;(0:Int)≤x∧x≤z6→(z17=true→z3=ax∧(0:Int)≤x∧x<(↑ax:Int)∧z3=ax∧x.toNat<ax∧bM aH∧(z20=true→(true=true→aC .i64 z21∧((z0.same z0∧(SV.si .i64 x).same z1∧z4.same z4∧z5.same z5∧z22.same z22∧True)∧z9.same z9∧ak.same ak∧al.same al∧au.same au∧ar.same ar∧True)∧((0:Int)≤z21∧z21≤z6)∧(z6 - z21).toNat<(z6 - x).toNat)∧(true=false→z8.k1=ax∧(0:Int)≤(-1:Int)∧(-1:Int)<(↑ax:Int)∧z8.k1=ax∧0<ax∧False))∧(z20=false→aC .i64 z21∧((z0.same z0∧z1.same z1∧z4.same z4∧z5.same z5∧z22.same z22∧True)∧z9.same z9∧ak.same ak∧al.same al∧au.same au∧ar.same ar∧True)∧((0:Int)≤z21∧z21≤z6)∧(z6 - z21).toNat<(z6 - x).toNat))∧(z17=false→(true=true→(SV.aD [ay,SV.bl true]).same (SV.aD [ay,SV.sb true])∧z9.same z9∧ak.same ak∧al.same al∧au.same au∧ar.same ar∧True)∧(true=false→False))) (by kernel_rfl) ?_
 simp only[mX]
 try simp only[aF]
 simp only[vcs]
 obtain⟨⟨⟨n0,n1⟩,m0,m1⟩,hw,hz⟩:=id hok
 have hbl:=hw.bound
 have pj:=@ed t.bound
 refine⟨⟨by omega,by omega⟩,?_⟩
 rintro i ⟨i0,i1⟩
 refine⟨fun hi=>?_,fun hi=>⟨fun _=>trivial,fun h=>by cases h⟩⟩
 have hB:ae (fL t.bound) i.toNat sF.dflt=ah (t.bd i.toNat):=gl (by omega)
 have hpos:=hd i.toNat (by omega)
 have hneg:¬e7 (t.bd i.toNat)<0:=fun h=>by have:=YL.1 h;grind
 simp only[hB,gP,cb]
 exact⟨by omega,i0,by omega,by omega,by omega,dm (hok.bd (by omega)) (by omega),fun h=>absurd h hneg,fun _=>⟨by omega,by omega,by omega⟩⟩
def Fg:cK:=ox 103 (List aW) (.one (bR sF)) (fun n m t a=>∃g:List Rat,a=fL g∧g.length=n.toNat∧t.free=bW n.toNat∧∀v∈t.basic,n≤v) (fun _ _ _ _=> .aD []) (fun _ _ t a=>{t with cost:=vL a,value:=0})
def Zr (n m:Int) (t:Tb) (a:List aW):Nat→bz
 |3=> .inv Int (fun j=>⟨[(0,.ptr 0 0 10),(1,.row sF a),(4,.ow 5 n.toNat 3),(24,.ow 4 t.free.length 1),(25,.si .i64 t.free.length),(26,.si .i64 j)],(aF n m {t with value:=0}).gQ++[.row sF (de a j.toNat (false,([],[]))) 70 true]⟩)
   (fun s=>iS s 26) (fun i=>0≤i∧i≤n) (fun i=>(n - i).toNat) fun _ _=> .look
 |10=> .inv Int (fun i=>⟨[(0,.ptr 0 0 10),(1,.row sF a),(4,.ow 5 n.toNat 3),(52,.ow 3 t.basic.length 1),(53,.si .i64 t.basic.length),(54,.si .i64 i)],(aF n m {t with value:=0}).gQ++[.row sF a 70 true]⟩)
   (fun s=>iS s 54) (fun i=>0≤i∧i≤m) (fun i=>(m - i).toNat) fun _ _=> .look
 |_=> .look
theorem h401:eh Tryz.prog Fg:=by
 refine lN (L:=[lW]) (W:=[]) Fg xk (fun a=>Zr a.1.n a.1.m a.1.t a.2) (by simp) (by simpa using h94) (by kernel_rfl) (fun _=>rfl) (by kernel_rfl) ?_
 rintro⟨x,a⟩ ⟨n,m,t,hx,hok,g,ha,hgl,hfr,hbs⟩
 simp only at hx ha
 subst hx ha
 refine bh (let z0:=(↑(aF n m t).k4:Int);let z1:=SV.ptr 0 0 10;let z2:=SV.row sF (fL g);let z3:=(aF n m t).n;let z4:=SV.ow 5 z3.toNat 3;let z5:=SV.ow 4 (aF n m t).k4 1;let z6:=(aF n m t).t;let z7:=z6.free.length;let z8:=SV.ow 4 z7 1;let z9:=SV.si .i64 (↑z7:Int);let ak:=(aF n m t).m;let al:=ah (IntCast.intCast (0:Int));let z12:=ai.i .u32;let au:=aF z3 ak (Tb.mk z6.a7 z6.bound z6.cost (0:Rat) z6.basic z6.free);let ar:=SV.si .i64 au.n;let ax:=SV.si .i64 au.m;let ay:=SV.ow 1 au.k0 1;let z17:=SV.ow 2 au.k1 3;let aG:=SV.ow 3 au.k3 1;let aH:=[SV.sb au.v.fst,SV.row z12 au.v.snd.fst,SV.row z12 au.v.snd.snd,aG,SV.ow 4 au.k4 1];let z20:=af.cells (ar::ax::ay::z17::SV.row sF au.cost::aH) 179 10 false;let z21:=af.row sF.aY au.a7 72 false;let z22:=af.row sF au.bound 70 false;let z23:=ai.i .i64;let z24:=au.basic;let z25:=af.row z23 z24 3 false;let z26:=af.row z23 au.free 3 false;let z27:=(false,[],[]);let z28:=au.free.length;let z29:=(fL g).length;let z30:=z6.basic.length;let z31:=SV.ow 3 z30 1;let z32:=SV.si .i64 (↑z30:Int);let z33:=af.row sF (fL g) 70 true;let z34:=aF z3 ak (Tb.mk z6.a7 z6.bound (vL (fL g)) (0:Rat) z6.basic z6.free);((-9223372036854775808:Int)≤(0:Int)∧(0:Int)≤(9223372036854775807:Int))∧(0:Int)≤z0∧z0≤z0∧z0*(56:Int)≤(140737488355328:Int)∧z0≤(1000000000000:Int)∧(((z1.same z1∧z2.same z2∧(SV.ow 5 z0.toNat 3).same z4∧z5.same z8∧(SV.si .i64 z0).same z9∧(SV.il .i64 0).same (SV.si .i64 0)∧True)∧(af.cells [SV.si .i64 z3,SV.si .i64 ak,SV.ow 1 (aF n m t).k0 1,SV.ow 2 (aF n m t).k1 3,SV.row sF (aF n m t).cost,SV.sb al.fst,SV.row z12 al.snd.fst,SV.row z12 al.snd.snd,SV.ow 3 (aF n m t).k3 1,z5] 179 10 false).same z20∧(af.row sF.aY (aF n m t).a7 72 false).same z21∧(af.row sF (aF n m t).bound 70 false).same z22∧(af.row z23 (aF n m t).basic 3 false).same z25∧(af.row z23 (aF n m t).free 3 false).same z26∧(af.row (ai.b.pair (z12.aY.pair z12.aY)) (List.replicate z0.toNat z27) 70 true).same (af.row sF (de (fL g) 0 z27) 70 true)∧True)∧(0:Int)≤(0:Int)∧(0:Int)≤z3)∧∀(x:Int),let z35:=decide (x<(↑z7:Int));let z36:=de (fL g) x.toNat z27;let z37:=ae au.free x.toNat (0:Int);let z38:=decide (z37<au.n);let z39:=z36.set x.toNat (al.fst,al.snd.fst,al.snd.snd);let z40:=x+(1:Int);let z41:=SV.si .i64 z40;let z42:=ae (fL g) z37.toNat sF.dflt;let z43:=af.row sF (de (fL g) z40.toNat z27) 70 true;(0:Int)≤x∧x≤z3→(z35=true→z7=z28∧(0:Int)≤x∧x<(↑z28:Int)∧z7=z28∧x.toNat<z28∧((-9223372036854775808:Int)≤(0:Int)∧(0:Int)≤(9223372036854775807:Int))∧z3.toNat=z36.length∧(0:Int)≤x∧x<(↑z36.length:Int)∧z3.toNat=z36.length∧x.toNat<z36.length∧(z38=true→(0:Int)≤z37∧z37<(↑z29:Int)∧z37.toNat<z29∧z3.toNat=z39.length∧(0:Int)≤x∧x<(↑z39.length:Int)∧z3.toNat=z39.length∧x.toNat<z39.length∧aC .i64 z40∧((z1.same z1∧z2.same z2∧z4.same z4∧z8.same z8∧z9.same z9∧z41.same z41∧True)∧z20.same z20∧z21.same z21∧z22.same z22∧z25.same z25∧z26.same z26∧(af.row sF (z39.set x.toNat (z42.fst,z42.snd.fst,z42.snd.snd)) 70 true).same z43∧True)∧((0:Int)≤z40∧z40≤z3)∧(z3 - z40).toNat<(z3 - x).toNat)∧(z38=false→aC .i64 z40∧((z1.same z1∧z2.same z2∧z4.same z4∧z8.same z8∧z9.same z9∧z41.same z41∧True)∧z20.same z20∧z21.same z21∧z22.same z22∧z25.same z25∧z26.same z26∧(af.row sF z39 70 true).same z43∧True)∧((0:Int)≤z40∧z40≤z3)∧(z3 - z40).toNat<(z3 - x).toNat))∧(z35=false→(((z1.same z1∧z2.same z2∧z4.same z4∧aG.same z31∧(SV.si .i64 (↑au.k3:Int)).same z32∧(SV.il .i64 0).same (SV.si .i64 0)∧True)∧z20.same z20∧z21.same z21∧z22.same z22∧z25.same z25∧z26.same z26∧(af.row sF z36 70 true).same z33∧True)∧(0:Int)≤(0:Int)∧(0:Int)≤ak)∧∀(x:Int),let z44:=decide (x<(↑z30:Int));let z45:=ae z24 x.toNat (0:Int);let z46:=decide (au.n≤z45);let z47:=x+(1:Int);let z48:=SV.si .i64 z47;(0:Int)≤x∧x≤ak→(z44=true→z30=z24.length∧(0:Int)≤x∧x<(↑z24.length:Int)∧z30=z24.length∧x.toNat<z24.length∧(z46=true→aC .i64 z47∧((z1.same z1∧z2.same z2∧z4.same z4∧z31.same z31∧z32.same z32∧z48.same z48∧True)∧z20.same z20∧z21.same z21∧z22.same z22∧z25.same z25∧z26.same z26∧z33.same z33∧True)∧((0:Int)≤z47∧z47≤ak)∧(ak - z47).toNat<(ak - x).toNat)∧(z46=false→(0:Int)≤z45∧z45<(↑z29:Int)∧z45.toNat<z29∧False))∧(z44=false→z3.toNat=z29∧(SV.aD []).same (SV.aD [])∧(af.cells (ar::ax::ay::z17::z2::aH) 179 10 false).same (af.cells [SV.si .i64 z34.n,SV.si .i64 z34.m,SV.ow 1 z34.k0 1,SV.ow 2 z34.k1 3,SV.row sF z34.cost,SV.sb z34.v.fst,SV.row z12 z34.v.snd.fst,SV.row z12 z34.v.snd.snd,SV.ow 3 z34.k3 1,SV.ow 4 z34.k4 1] 179 10 false)∧z21.same (af.row sF.aY z34.a7 72 false)∧z22.same (af.row sF z34.bound 70 false)∧z25.same (af.row z23 z34.basic 3 false)∧z26.same (af.row z23 z34.free 3 false)∧True))) (by kernel_rfl) ?_
 simp only[mX]
 try simp only[aF]
 simp only[vcs]
 obtain⟨⟨⟨n0,n1⟩,m0,m1⟩,hw,hz⟩:=id hok
 have hbb:=hw.basic
 have hfl:=hw.free
 have hfg:=@ed g
 have h0:(IntCast.intCast 0:Rat)=0:=rfl
 have hrow:∀{x y:List aW},x=y→(af.row sF x 70 true).same (af.row sF y 70 true):=by rintro _ _ rfl;rfl
 simp only[h0,gP]
 refine⟨by omega,by omega,by omega,by omega,by omega,⟨⟨?_,?_,?_⟩,by omega,by omega⟩,?_⟩
 ·rw[hfl];rfl
 ·rfl
 ·exact hrow (by rw[uV,hfg,hgl,hfl];rfl)
 rintro j ⟨j0,j1⟩
 have eW:=@uU (fL g) j.toNat (false,([],[])) (by omega)
 refine⟨fun hj=>?_,fun hj=>?_⟩
 ·have hv:ae t.free j.toNat 0=j:=by rw[hfr,uS (by omega)];omega
  rw[hv]
  have hset:((de (fL g) j.toNat (false,([],[]))).set j.toNat (ah 0)).set j.toNat (ae (fL g) j.toNat sF.dflt)=de (fL g) (j+1).toNat (false,([],[])):=by
   have e:=uX (d:=fL g) (j:=j.toNat) (z:=(false,([],[]))) (x:=ae (fL g) j.toNat sF.dflt) (by omega) rfl
   rw[List.set_set,show(j+1).toNat=j.toNat+1 by omega]
   exact e
  rw[List.length_set]
  exact⟨j0,by omega,by omega,by omega,by omega,j0,by omega,by omega,by omega,fun _=>⟨j0,by omega,by omega,by omega,j0,by omega,by omega,by omega,by omega,hrow hset,by omega,by omega⟩,fun h=>(h (by omega)).elim⟩
 ·have e:j.toNat=(fL g).length:=by omega
  rw[e,uW]
  refine⟨⟨hrow rfl,by omega,by omega⟩,?_⟩
  rintro i ⟨i0,i1⟩
  refine⟨fun hi=>⟨i0,hi,by omega,fun _=>⟨by omega,by omega,by omega⟩,fun h=>absurd (hbs _ (dQ (by omega))) h⟩,fun hi=>⟨by omega,?_⟩⟩
  rw[mW]
  rfl
abbrev Lp:=List Rat×List (List Rat×Rat)
def ez (a:Lp):nc:=(fL a.1,a.2.map fun r=>(fL r.1,ah r.2))
def gn (a:Lp):Tb:=⟨a.2.map (·.1),a.2.map (·.2),a.1,0,(bW a.2.length).map fun i=>a.1.length+i,bW a.1.length⟩
def l8 (a:Lp):Tb:={gn a with cost:=List.replicate a.1.length 0}
theorem Zs {a:Lp}:uY (ez a)=aF a.1.length a.2.length (l8 a):=by
 unfold uY ez aF l8 gn
 simp only[ed,List.length_map,List.map_map,e8]
 congr 1
 ·unfold fM
  rw[List.map_map]
  rfl
 ·unfold fL
  rw[List.map_map]
  rfl
 ·unfold fL
  rw[List.map_replicate]
structure uZ (a:Lp):Prop where
 n:a.1.length≤160
 m:a.2.length≤40
 small:∃M G,Small a.1.length a.2.length M G (gn a)
 sE:fz a.2.length (gn a)
 bnd:∃B,∀x z,(gn a).holds a.1.length a.2.length x z→(∀v∈(gn a).basic++(gn a).free,0≤x v)→z≤B
noncomputable def jh (a:Lp):Tb:=lastT a.1.length a.2.length (gn a)
theorem Zt {a:Lp} (h:uZ a):okO a.1.length a.2.length (gn a):=by
 obtain⟨M,G,hs⟩:=h.small
 exact⟨gn a,M,G,hs,Run.refl hs.wf hs.nd,h.sE⟩
theorem Zu {a:Lp} (h:uZ a):Run a.1.length a.2.length (gn a) (jh a)∧fz a.2.length (jh a)∧cj (jh a) a.1.length<0:=by
 obtain⟨M,G,hs⟩:=h.small
 obtain⟨B,hB⟩:=h.bnd
 have hr:=Run.refl hs.wf hs.nd
 have:=E2 hr h.sE
 exact⟨this.1,this.2.1,LQ hr h.sE hB⟩
noncomputable def Fh:bf:=⟨65,nc,.one sK,fun x=>∃a:Lp,x=ez a∧uZ a,fun x=>
 let a:Lp:=(vL x.1,x.2.map fun r=>(vL r.1,aO r.2))
 .aD [.agg [.si .i64 1,.sb (ah (jh a).value).1,.row (.i .u32) (ah (jh a).value).2.1,.row (.i .u32) (ah (jh a).value).2.2,.row sF (fL (ew (jh a) a.1.length a.2.length)),.row sF (fL (fS (jh a) a.1.length a.2.length a.1.length)),.row sF []],.si .i64 0]⟩
theorem Zv {a:Lp}:((vL (ez a).1,(ez a).2.map fun r=>(vL r.1,aO r.2)):Lp)=a:=by
 obtain⟨g,rs⟩:=a
 unfold ez
 simp only[mW,List.map_map]
 congr 1
 conv=>rhs;rw[←List.map_id rs]
 refine List.map_congr_left fun r _=>?_
 show(vL (fL r.1),aO (ah r.2))=r
 rw[mW,cb]
theorem Zw {a:Lp}:((ez a).1,(ez a).2)=ez a:=rfl
theorem MI {a:Lp}:vL (ez a).1=a.1:=mW _
theorem MJ {a:Lp}:(ez a).2.map (fun r=>(vL r.1,aO r.2))=a.2:=congrArg Prod.snd (@Zv a)
theorem Zx {a:Lp}:({a7:=(l8 a).a7,bound:=(l8 a).bound,cost:=a.1,value:=0,basic:=(l8 a).basic,free:=(l8 a).free}:Tb)=gn a:=rfl
theorem Zy {a:Lp}:(ez a).1.length=a.1.length:=ed
theorem Zz {a:Lp}:(ez a).2.length=a.2.length:=List.length_map _
theorem MK {q:Rat} (h:Sz 1000000 q):iI (ah q)∧okF (ah q)=true:=by
 obtain⟨e1,⟨u1,_,v1⟩,⟨u2,_,v2⟩⟩:=ij q
 obtain⟨m1,m2⟩:=ln h
 refine⟨⟨⟨u1,u2⟩,m1,m2⟩,?_⟩
 unfold okF
 rw[cb]
 exact decide_eq_true rfl
theorem ZA {o:Store} {d:Nat} {acc:List Nat} {l:List aW}:bq o d (List.map (fun x:aW=>bP ai.b x.1++bP ((ai.i .u32).aY.pair (ai.i .u32).aY) x.2) l).flatten acc=acc:=tW fun a ha=>hZ (s:=sF) (l:=l) ha
theorem ZB {o:Store} {d:Nat} {acc:List Nat} {l:List (List aW)}:bq o d (List.map (fun x:List aW=>[AV.sl (List.length x) (List.flatMap (bP sF) x)]) l).flatten acc=acc:=tW fun a ha=>hZ (s:=sF.aY) (l:=l) ha
theorem ZC {o:Store} {d:Nat} {acc:List Nat} {l:List Int}:bq o d (List.map (fun x:Int=>List.map AV.sc (bN (ai.i .i64) x)) l).flatten acc=acc:=tW fun a ha=>hZ (s:=ai.i .i64) (l:=l) ha
theorem h395:Holds Tryz.prog Fh:=by
 refine Wc (L:=[Fe]) (W:=gi [Ff,r400,Fg,E9,Ap,Aq]) Fh xe (fun f=>Nat.beq f Ap.f||Nat.beq f Aq.f) (fun _ _=> .look) (kZ (by simpa using⟨h399,h400,h401,h402,h403,h405⟩)) (by simpa using h398) (by kernel_rfl) (by kernel_rfl) (fun _=>rfl) ?_
 rintro x ⟨a,hx,hok⟩
 subst hx
 refine bh (let z0:=(ez a).fst;let z1:=(ez a).snd;let z2:=SV.il .i64 0;let z3:=ai.i .i64;let z4:=SV.row z3 [];let z5:=[SV.bl false,z4,z4,z4,z4,z4];let z6:=[SV.si .i64 0];let z7:=List.map (fun r ↦(vL r.fst,aO r.snd)) z1;let z8:=jh (vL z0,z7);let z9:=ai.i .u32;let ak:=(vL z0).length;let al:=SV.aD (SV.agg [SV.si .i64 1,SV.sb (ah z8.value).fst,SV.row z9 (ah z8.value).snd.fst,SV.row z9 (ah z8.value).snd.snd,SV.row sF (fL (ew z8 ak z7.length)),SV.row sF (fL (fS z8 ak z7.length ak)),SV.row sF []]::z6);let z12:=uY (z0,z1);let au:=aF z12.n z12.m z12.t;let ar:=aF au.n au.m (Tb.mk au.t.a7 au.t.bound (vL z0) (0:Rat) au.t.basic au.t.free);let ax:=lastT ar.n.toNat ar.m.toNat ar.t;let ay:=!decide (cj ax ar.n.toNat<(0:Int));let z17:=aF ar.n ar.m ax;let aG:=af.cells [SV.row sF z0,SV.row sR z1] 110 2 false;let aH:=Value.slice none 0 0;let z20:=SV.sc aH;let z21:=af.cells [z2,SV.bl false,z20,z20,z20,z20,z20] 114 7 false;let z22:=z17.v.snd.fst;let z23:=z17.v.snd.snd;let z24:=aF z17.n z17.m z17.t;let z25:=z24.v.snd.fst;let z26:=z24.v.snd.snd;let z27:=af.cells [SV.si .i64 z24.n,SV.si .i64 z24.m,SV.ow 3 z24.k0 1,SV.ow 4 z24.k1 3,SV.row sF z24.cost,SV.sb z24.v.fst,SV.row z9 z25,SV.row z9 z26,SV.ow 5 z24.k3 1,SV.ow 6 z24.k4 1] 179 10 false;let z28:=af.row sF.aY z24.a7 72 false;let z29:=af.row sF z24.bound 70 false;let z30:=af.row z3 z24.basic 3 false;let z31:=af.row z3 z24.free 3 false;let z32:=aF z24.n z24.m z24.t;let z33:=aP.cells [AV.sl z0.length (List.map (fun x ↦bP ai.b x.fst++bP (z9.aY.pair z9.aY) x.snd) z0).flatten,AV.sl z1.length (List.map (fun x ↦bP sF.aY x.fst++bP sF x.snd) z1).flatten] 110 2 false;let z34:=AV.sc aH;let z35:=aP.cells [AV.sc (Value.int .i64 (0:Int)),AV.sc (Value.bool false),z34,z34,z34,z34,z34] 114 7 false;let z36:=(List.map (fun x ↦[AV.sl (List.length x) (List.flatMap (bP sF) x)]) z17.a7).flatten;let z37:=(List.map (fun x ↦bP ai.b x.fst++bP (z9.aY.pair z9.aY) x.snd) z17.bound).flatten;let z38:=(List.map (fun x ↦List.map AV.sc (bN z3 x)) z17.basic).flatten;let z39:=(List.map (fun x ↦List.map AV.sc (bN z3 x)) z17.free).flatten;let z40:=[z33,z35,aP.cells [AV.sc (Value.int .i64 z17.n),AV.sc (Value.int .i64 z17.m),AV.os 3 0 z17.k0 (z17.k0*1),AV.os 4 0 z17.k1 (z17.k1*3),AV.sl z17.cost.length (List.map (fun x ↦bP ai.b x.fst++bP (z9.aY.pair z9.aY) x.snd) z17.cost).flatten,AV.sc (Value.bool z17.v.fst),AV.sl z22.length (List.map (fun x ↦List.map AV.sc (bN z9 x)) z22).flatten,AV.sl z23.length (List.map (fun x ↦List.map AV.sc (bN z9 x)) z23).flatten,AV.os 5 0 z17.k3 (z17.k3*1),AV.os 6 0 z17.k4 (z17.k4*1)] 179 10 false,aP.cells z36 72 1 false,aP.cells z37 70 3 false,aP.cells z38 3 1 false,aP.cells z39 3 1 false];let z41:=[2,3];let z42:=bq z40 (nat_lit 396) z36 z41;let z43:=if List.elem 4 z42=true then z42 else bq z40 (nat_lit 395) z37 (z42++[4]);let z44:=if List.elem 5 z43=true then z43 else bq z40 (nat_lit 390) z38 (z43++[5]);let z45:=(List.map (fun x ↦[AV.sl (List.length x) (List.flatMap (bP sF) x)]) z24.a7).flatten;let z46:=(List.map (fun x ↦bP ai.b x.fst++bP (z9.aY.pair z9.aY) x.snd) z24.bound).flatten;let z47:=(List.map (fun x ↦List.map AV.sc (bN z3 x)) z24.basic).flatten;let z48:=(List.map (fun x ↦List.map AV.sc (bN z3 x)) z24.free).flatten;let z49:=[z33,z35,aP.cells [AV.sc (Value.int .i64 z24.n),AV.sc (Value.int .i64 z24.m),AV.os 3 0 z24.k0 (z24.k0*1),AV.os 4 0 z24.k1 (z24.k1*3),AV.sl z24.cost.length (List.map (fun x ↦bP ai.b x.fst++bP (z9.aY.pair z9.aY) x.snd) z24.cost).flatten,AV.sc (Value.bool z24.v.fst),AV.sl z25.length (List.map (fun x ↦List.map AV.sc (bN z9 x)) z25).flatten,AV.sl z26.length (List.map (fun x ↦List.map AV.sc (bN z9 x)) z26).flatten,AV.os 5 0 z24.k3 (z24.k3*1),AV.os 6 0 z24.k4 (z24.k4*1)] 179 10 false,aP.cells z45 72 1 false,aP.cells z46 70 3 false,aP.cells z47 3 1 false,aP.cells z48 3 1 false];let z50:=bq z49 (nat_lit 396) z45 z41;let z51:=if List.elem 4 z50=true then z50 else bq z49 (nat_lit 395) z46 (z50++[4]);let z52:=if List.elem 5 z51=true then z51 else bq z49 (nat_lit 390) z47 (z51++[5]);((z0.length≤160∧z1.length≤40)∧(∀(x:aW),x∈z0→iI x∧okF x=true)∧∀(r:List aW×aW),r∈z1→r.fst.length=z0.length∧(∀(x:aW),x∈r.fst→iI x∧okF x=true)∧iI r.snd∧okF r.snd=true)∧(false=true→(SV.aD (SV.agg (z2::z5)::z6)).same al)∧(false=false→(z0.length≤1000∧z1.length≤1000∧∀(r:List aW×aW),r∈z1→r.fst.length≤1000)∧(∃n m t,z12=aF n m t∧fA n m t∧fz m.toNat t)∧(false=true→(SV.aD [SV.agg (SV.il .i64 2::z5),z2]).same al)∧(false=false→(∃n m t,au=aF n m t∧fA n m t∧∃g,z0=fL g∧g.length=n.toNat∧t.free=bW n.toNat∧∀(v:Int),v∈t.basic→n≤v)∧(∃n m t,ar=aF n m t∧fA n m t∧okO n.toNat m.toNat t)∧(ay=true→(∃n m t,z17=aF n m t∧fA n m t∧∀(v:Int),v∈t.basic→(0:Int)≤v)∧(aG.same aG∧z21.same z21∧(af.cells [SV.si .i64 z17.n,SV.si .i64 z17.m,SV.ow 3 z17.k0 1,SV.ow 4 z17.k1 3,SV.row sF z17.cost,SV.sb z17.v.fst,SV.row z9 z22,SV.row z9 z23,SV.ow 5 z17.k3 1,SV.ow 6 z17.k4 1] 179 10 false).same z27∧(af.row sF.aY z17.a7 72 false).same z28∧(af.row sF z17.bound 70 false).same z29∧(af.row z3 z17.basic 3 false).same z30∧(af.row z3 z17.free 3 false).same z31∧True)∧False)∧(ay=false→(∃n m t,z17=aF n m t∧fA n m t∧∀(v:Int),v∈t.basic→(0:Int)≤v)∧(aG.same aG∧z21.same z21∧(af.cells [SV.si .i64 z17.n,SV.si .i64 z17.m,SV.ow 3 z17.k0 1,SV.ow 4 z17.k1 3,SV.row sF z17.cost,SV.sb z17.v.fst,SV.row z9 z22,SV.row z9 z23,SV.ow 5 z17.k3 1,SV.ow 6 z17.k4 1] 179 10 false).same z27∧(af.row sF.aY z17.a7 72 false).same z28∧(af.row sF z17.bound 70 false).same z29∧(af.row z3 z17.basic 3 false).same z30∧(af.row z3 z17.free 3 false).same z31∧True)∧(∃n m t,z24=aF n m t∧fA n m t∧True)∧(aG.same aG∧z21.same z21∧z27.same (af.cells [SV.si .i64 z32.n,SV.si .i64 z32.m,SV.ow 3 z32.k0 1,SV.ow 4 z32.k1 3,SV.row sF z32.cost,SV.sb z32.v.fst,SV.row z9 z32.v.snd.fst,SV.row z9 z32.v.snd.snd,SV.ow 5 z32.k3 1,SV.ow 6 z32.k4 1] 179 10 false)∧z28.same (af.row sF.aY z32.a7 72 false)∧z29.same (af.row sF z32.bound 70 false)∧z30.same (af.row z3 z32.basic 3 false)∧z31.same (af.row z3 z32.free 3 false)∧True)∧if(((if List.elem 6 z44=true then z44 else bq z40 (nat_lit 389) z39 (z44++[6])).all fun i ↦decide (i<7))&&(((if List.elem 6 z52=true then z52 else bq z49 (nat_lit 389) z48 (z52++[6])).all fun i ↦decide (i<7))&&true))=true then(SV.aD [SV.agg [SV.il .i64 1,SV.sb z17.v.fst,SV.row z9 z22,SV.row z9 z23,SV.row sF (fL (ew z17.t z17.n.toNat z17.m.toNat)),SV.row sF (fL (fS z24.t z24.n.toNat z24.m.toNat z24.n.toNat)),z4],z2]).same al else False)))) (by kernel_rfl) ?_
 simp only[Zw,Zs,mX,LG,LH,MI,MJ,Zx,Zy,Zz,Int.toNat_natCast]
 try simp only[vcs]
 obtain⟨M,G,hs⟩:=hok.small
 obtain⟨r1,r2,r3⟩:=Zu hok
 have hw:=hs.wf
 have hz:=hs.qm (Run.refl hs.wf hs.nd)
 have hn:=hok.n
 have hm:=hok.m
 have hO:=Zt hok
 have k1:fA a.1.length a.2.length (gn a):=⟨⟨by omega,by omega⟩,by simpa using hw,hz⟩
 have k0:fA a.1.length a.2.length (l8 a):=by
  refine⟨⟨by omega,by omega⟩,⟨hw.a7,hw.row,hw.bound,by simp[l8],hw.basic,hw.free⟩,hz.1,hz.2.1,fun q hq=>?_,hz.2.2.2⟩
  rw[(List.mem_replicate.1 hq).2]
  exact hz.2.2.2
 have k2:fA a.1.length a.2.length (jh a):=LN hs (by simpa using r1) (by omega) (by omega)
 have hl:lastT a.1.length a.2.length (gn a)=jh a:=rfl
 have Fj:((a.1,a.2):Lp)=a:=rfl
 simp only[hl,Fj,ZA,ZB,ZC]
 have mem2:∀i,i<a.2.length→ae a.2 i ([],0)∈a.2:=fun i hi=>dQ hi
 have hrow:∀r∈a.2,r.1.length=a.1.length∧(∀q∈r.1,Sz 1000000 q)∧Sz 1000000 r.2:=fun r hr=>by
  obtain⟨i,hi,rfl⟩:=List.getElem_of_mem hr
  have h1:=hw.row i hi
  have e:ae (gn a).a7 i []=a.2[i].1:=by
   show ae (a.2.map (·.1)) i []=_
   rw[bF (by rw[List.length_map];exact hi),List.getElem_map]
  rw[e] at h1
  refine⟨h1,hz.1 _ (List.mem_map.2 ⟨a.2[i],hr,rfl⟩),hz.2.1 _ (List.mem_map.2 ⟨a.2[i],hr,rfl⟩)⟩
 have hg:∀q∈a.1,Sz 1000000 q:=hz.2.2.1
 have hF:∀{l:List Rat},(∀q∈l,Sz 1000000 q)→∀x∈fL l,iI x∧okF x=true:=fun h x hx=>by
  obtain⟨q,hq,rfl⟩:=List.mem_map.1 hx
  exact MK (h q hq)
 have hdg:(∀x∈(ez a).1,iI x∧okF x=true)∧∀r∈(ez a).2,r.1.length=a.1.length∧(∀x∈r.1,iI x∧okF x=true)∧iI r.2∧okF r.2=true:=by
  refine⟨hF hg,fun r hr=>?_⟩
  obtain⟨r0,hr0,rfl⟩:=List.mem_map.1 hr
  obtain⟨h1,h2,h3⟩:=hrow r0 hr0
  exact⟨by rw[←h1];exact ed,hF h2,MK h3⟩
 have hb0:∀v∈(jh a).basic,0≤v:=fun v hv=>by
  have:=r1.perm.mem_iff.1 (List.mem_append_left _ hv)
  simp only[gn,List.mem_append,List.mem_map,lX] at this
  rcases this with⟨i,hi,rfl⟩|h
  ·omega
  ·exact h.1
 have hbn:∀v∈(l8 a).basic,(a.1.length:Int)≤v:=fun v hv=>by
  simp only[l8,gn,List.mem_map,lX] at hv
  obtain⟨i,hi,rfl⟩:=hv
  omega
 refine⟨⟨⟨hn,hm⟩,hdg.1,hdg.2⟩,fun h=>(by cases h),fun _=>⟨⟨by omega,by omega,fun r hr=>by have:=(hdg.2 r hr).1;omega⟩,⟨_,_,_,rfl,k0,by rw[Int.toNat_natCast];exact hok.sE⟩,fun h=>(by cases h),fun _=>⟨⟨_,_,_,rfl,k0,a.1,rfl,by simp,rfl,hbn⟩,⟨_,_,_,rfl,k1,by simpa using hO⟩,fun h=>absurd r3 h,fun _=>⟨⟨_,_,_,rfl,k2,hb0⟩,⟨_,_,_,rfl,k2⟩,?_⟩⟩⟩⟩
 rw[if_pos (by decide)]
 rfl
theorem Ar {f:List Int} {d:Int} {i:Int} (h0:0≤i) (h1:i<f.length):aI (f.take (i+1).toNat) d=aI (f.take i.toNat) d++if ae f i.toNat 0=d then[i] else[]:=by
 have hl1:(f.take (i+1).toNat).length=i.toNat+1:=by rw[List.length_take];omega
 have hl0:(f.take i.toNat).length=i.toNat:=by rw[List.length_take];omega
 unfold aI
 rw[hl1,hl0,qi,List.filter_append]
 have e:∀{k:Nat} {m:Nat},k<m→m≤f.length→ae (f.take m) k 0=ae f k 0:=fun {k m} h1 h2=>by
  rw[bF (by rw[List.length_take];omega),bF (by omega),List.getElem_take]
 congr 1
 ·refine List.filter_congr fun x hx=>?_
  have:=lX.1 hx
  rw[e (show x.toNat<(i+1).toNat by omega) (by omega),e (show x.toNat<i.toNat by omega) (by omega)]
 ·simp only[List.filter_cons,List.filter_nil]
  rw[show((i.toNat:Nat):Int)=i by omega,e (show i.toNat<(i+1).toNat by omega) (by omega)]
  by_cases h:ae f i.toNat 0=d
  ·rw[if_pos (decide_eq_true h),if_pos h]
  ·rw[if_neg (by simpa using h),if_neg h]
theorem ZD {f:List Int} {d:Int} {i:Int} (h:i=f.length):aI (f.take i.toNat) d=aI f d:=by
 rw[h,Int.toNat_natCast,List.take_length]
def j6 (f:List Int):Bool:=f.all fun x=>decide (-1≤x)&&decide (x≤1)
def fB (p:aE) (f:List Int):Int:=if bw p≠0 then bw p else if f.length≠p.offers.length then 3 else if j6 f=true then 0 else 4
def Fo:bf:=⟨63,aE×List Int,.cons ef (.one (bR (.i .i64))),fun a=>a.2.length≤1000000000000,fun a=> .si .i64 (fB a.1 a.2)⟩
def ZE (p:aE) (f:List Int):Nat→bz
 |7=> .inv Int (fun i=>⟨[(19,.row (.i .i64) f),(20,.si .i64 f.length),(21,.si .i64 i)],[.cells p.ss 27 20 false]⟩)
   (fun s=>iS s 21) (fun i=>(0≤i∧i≤f.length)∧j6 (f.take i.toNat)=true) (fun i=>(f.length - i).toNat) fun _ _=> .look
 |_=> .look
theorem h393:Holds Tryz.prog Fo:=by
 refine con (L:=[nT]) Fo xc (fun a=>ZE a.1 a.2) (bu.none _) (by simpa using h79) (by kernel_rfl) (by kernel_rfl) (fun _=>rfl) ?_
 rintro⟨p,f⟩ (hl:f.length≤1000000000000)
 refine bh (let z0:=decide (bw p≠(0:Int));let z1:=SV.si .i64 (fB p f);let z2:=(↑f.length:Int);let z3:=decide (z2≠(↑p.offers.length:Int));let z4:=SV.row (ai.i .i64) f;let z5:=(↑f.length:Int);let z6:=SV.si .i64 z5;let z7:=SV.il .i64 0;let z8:=af.cells (aE.ss p) 27 20 false;True∧(z0=true→(SV.si .i64 (bw p)).same z1)∧(z0=false→(z3=true→(SV.il .i64 3).same z1)∧(z3=false→(((z4.same z4∧(SV.si .i64 z2).same z6∧z7.same (SV.si .i64 0)∧True)∧z8.same z8∧True)∧((0:Int)≤(0:Int)∧(0:Int)≤z5)∧j6 []=true)∧∀(x:Int),let z9:=ae f x.toNat (0:Int);let ak:=decide (z9<(-1:Int));let al:=decide ((1:Int)<z9);let z12:=x+(1:Int);let au:=SV.si .i64 z12;((0:Int)≤x∧x≤z5)∧j6 (List.take x.toNat f)=true→(decide (x<z5)=true→(0:Int)≤x∧x<z2∧x.toNat<f.length∧(ak=true→(SV.il .i64 4).same z1)∧(ak=false→(al=true→(SV.il .i64 4).same z1)∧(al=false→aC .i64 z12∧((z4.same z4∧z6.same z6∧au.same au∧True)∧z8.same z8∧True)∧(((0:Int)≤z12∧z12≤z5)∧j6 (List.take z12.toNat f)=true)∧(z5 - z12).toNat<(z5 - x).toNat)))∧(decide (x<z5)=false→z7.same z1)))) (by kernel_rfl) ?_
 simp only[vcs]
 refine⟨fun h=>by simp[fB,h],fun h=>?_⟩
 have hc:bw p=0:=Classical.not_not.1 h
 refine⟨fun h1=>by
  have h2:f.length≠p.offers.length:=fun h=>h1 (by rw[h])
  simp[fB,hc,h2],fun h1=>⟨⟨⟨by omega,by omega⟩,rfl⟩,?_⟩⟩
 have hlen:f.length=p.offers.length:=by omega
 rintro i ⟨⟨i0,i1⟩,hall⟩
 refine⟨fun hi=>?_,fun hi=>?_⟩
 ·have hm:=dQ (d:=0) (show i.toNat<f.length by omega)
  have et:=k9 (d:=0) i0 hi
  have bad:¬(-1≤ae f i.toNat 0∧ae f i.toNat 0≤1)→(4:Int)=fB p f:=fun hn=>by
   have:j6 f=false:=by
    rw[Bool.eq_false_iff]
    intro h2
    have:=List.all_eq_true.1 h2 _ hm
    simp only[Bool.and_eq_true,decide_eq_true_eq] at this
    exact hn this
   simp[fB,hc,hlen,this]
  have good: -1≤ae f i.toNat 0∧ae f i.toNat 0≤1→j6 (f.take (i+1).toNat)=true:=fun hn=>by
   unfold j6 at hall ⊢
   rw[et,List.all_append,hall]
   simp[hn]
  refine⟨i0,hi,by omega,fun h2=>bad (by omega),fun h2=>⟨fun h3=>bad (by omega),fun h3=>⟨by omega,⟨⟨by omega,by omega⟩,good (by omega)⟩,by omega⟩⟩⟩
 ·rw[show i.toNat=f.length by omega,List.take_length] at hall
  simp[fB,hc,hlen,hall]
def gR (p:aE) (f:List Int):Int:=jR ((aI f 1).map (oI p))
theorem Fp {p:aE} (hc:bw p=0) {f:List Int} {k:Nat} (hl:f.length=p.offers.length):0≤gR p (f.take k)∧gR p (f.take k)≤160000000:=by
 have hg:=i6 hc
 have h1:=@oz (f.take k) 1
 have h2:(f.take k).length≤f.length:=by rw[List.length_take];omega
 have h3:=@JF p hg ((aI (f.take k) 1).map (oI p)) fun x hx=>by
  obtain⟨i,hi,rfl⟩:=List.mem_map.1 hx
  have:=(mZ.1 hi).1
  exact dQ (by omega)
 have h4:=hg.2.1
 rw[List.length_map] at h3
 unfold gR
 omega
theorem ZF {p:aE} {f:List Int} {i:Int} (h0:0≤i) (h1:i<f.length):gR p (f.take (i+1).toNat)=gR p (f.take i.toNat)+if ae f i.toNat 0=1 then(oI p i).value else 0:=by
 unfold gR
 rw[Ar h0 h1,List.map_append,JE]
 congr 1
 split
 ·simp[jR]
 ·rfl
def eT (p:aE) (f:List Int):Lp:=((ck p f).cost,(bW (mF p)).map fun r=>((aI f 0).map fun i=>((fF p r (oI p i):Int):Rat),((b9 p r - ca p ((aI f 1).map (oI p)) r:Int):Rat)))
theorem As {p:aE} {f:List Int}:gn (eT p f)=ck p f:=by
 unfold gn eT ck
 simp only[List.map_map,e8,List.length_map]
 congr 1
 ·unfold bW
  rw[List.map_map]
  rfl
 ·unfold bW
  rw[List.map_map]
  rfl
 ·unfold bW
  rw[List.map_map]
  refine List.map_congr_left fun i _=>?_
  simp
def iu (p:aE) (f:List Int) (j:Nat):List aW:=fL (((aI f 0).take j).map fun i=>(((oI p i).value:Int):Rat))
def ji (p:aE) (f:List Int) (r:Int) (j:Nat):List aW:=fL (((aI f 0).take j).map fun i=>((fF p r (oI p i):Int):Rat))
def jj (p:aE) (f:List Int) (k:Nat):List (List aW×aW):=(bW k).map fun r=>(ji p f r (aI f 0).length,ah ((b9 p r - ca p ((aI f 1).map (oI p)) r:Int):Rat))
theorem ML {p:aE} {f:List Int}:iu p f (aI f 0).length=(ez (eT p f)).1:=by
 unfold iu
 rw[List.take_length]
 rfl
theorem MM {p:aE} {f:List Int}:jj p f (mF p)=(ez (eT p f)).2:=by
 unfold jj ez eT
 simp only[List.map_map]
 refine List.map_congr_left fun r _=>?_
 unfold ji
 rw[List.take_length]
 rfl
theorem Fq {p:aE} {f:List Int} {j:Nat} (h:j≤(aI f 0).length):(iu p f j).length=j:=by
 unfold iu
 rw[ed,List.length_map,List.length_take]
 omega
theorem MN {p:aE} {f:List Int} {r:Int} {j:Nat} (h:j≤(aI f 0).length):(ji p f r j).length=j:=by
 unfold ji
 rw[ed,List.length_map,List.length_take]
 omega
theorem MO {p:aE} {f:List Int} {k:Nat}:(jj p f k).length=k:=by
 unfold jj
 rw[List.length_map,e8]
theorem MP {l m:List Rat}:fL (l++m)=fL l++fL m:=List.map_append
theorem ZG {p:aE} {f:List Int} {j:Int} (h0:0≤j) (h:j<(aI f 0).length):iu p f (j+1).toNat=iu p f j.toNat++[ah (((oI p (ae (aI f 0) j.toNat 0)).value:Int):Rat)]:=by
 unfold iu
 rw[k9 (d:=0) h0 h,List.map_append,MP]
 rfl
theorem ZH {p:aE} {f:List Int} {r j:Int} (h0:0≤j) (h:j<(aI f 0).length):ji p f r (j+1).toNat=ji p f r j.toNat++[ah ((fF p r (oI p (ae (aI f 0) j.toNat 0)):Int):Rat)]:=by
 unfold ji
 rw[k9 (d:=0) h0 h,List.map_append,MP]
 rfl
theorem ZI {p:aE} {f:List Int} {r:Int} (h0:0≤r):jj p f (r+1).toNat=jj p f r.toNat++[(ji p f r (aI f 0).length,ah ((b9 p r - ca p ((aI f 1).map (oI p)) r:Int):Rat))]:=by
 unfold jj
 rw[show(r+1).toNat=r.toNat+1 by omega,qi,List.map_append,show((r.toNat:Nat):Int)=r by omega]
 rfl
def kG (p:aE) (f:List Int):Bool:=fG p ((aI f 1).map (oI p))
def iJ (p:aE) (f:List Int):List aW×(List (List aW×aW)×List Int):=if kG p f=true then((ez (eT p f)).1,((ez (eT p f)).2,aI f 0)) else([],([],[]))
theorem ZJ {p:aE} {f:List Int} (h:kF p f):uZ (eT p f):=by
 have hg:=i6 h.1
 have e1:(eT p f).1.length=nF f:=by
  show((aI f 0).map _).length=_
  rw[List.length_map]
 have e2:(eT p f).2.length=mF p:=by
  show((bW (mF p)).map _).length=_
  rw[List.length_map,e8]
 have hl:=@oz f 0
 have hm:mF p=p.classes.length+12:=rfl
 refine⟨?_,?_,?_,?_,?_⟩
 ·rw[e1];have:=h.2.1;have:=hg.2.1;have hx:(eT p f).1.length=(aI f 0).length:=e1;unfold nF;omega
 ·rw[e2];have:=hg.1;omega
 ·rw[e1,e2,As];exact⟨4,1000000,E6 h⟩
 ·rw[e2,As];exact E8 h
 ·rw[e1,e2,As];exact⟨_,fun x z hx h0=>LY h hx h0⟩
theorem ZK {p:aE} {f:List Int}:jh (eT p f)=e9 p f:=by
 have e1:(eT p f).1.length=nF f:=by
  show((aI f 0).map _).length=_
  rw[List.length_map]
 have e2:(eT p f).2.length=mF p:=by
  show((bW (mF p)).map _).length=_
  rw[List.length_map,e8]
 unfold jh e9
 rw[e1,e2,As]
noncomputable def fD (p:aE) (f:List Int) (k:Nat):List Rat:=(bW f.length).map fun i=>if ae f i.toNat 0=1 then 1 else if i∈(aI f 0).take k then ae (ew (e9 p f) (nF f) (mF p)) ((aI f 0).idxOf i) 0 else 0
noncomputable def qp (p:aE) (f:List Int):Rat:=((gR p f:Int):Rat)+(e9 p f).value
noncomputable def Ft (p:aE) (f:List Int):List Rat:=fS (e9 p f) (nF f) (mF p) (nF f)
theorem sL {p:aE} {f:List Int} {k:Nat}:(fD p f k).length=f.length:=by
 unfold fD
 rw[List.length_map,e8]
theorem Fv {p:aE} {f:List Int} {k i:Nat} (h:i<f.length):ae (fD p f k) i 0=if ae f i 0=1 then 1 else if(i:Int)∈(aI f 0).take k then ae (ew (e9 p f) (nF f) (mF p)) ((aI f 0).idxOf (i:Int)) 0 else 0:=by
 unfold fD
 rw[uR (e:=0) (by rw[e8];exact h),uS h,Int.toNat_natCast]
theorem ZL {l m:List Rat} (h1:l.length=m.length) (h:∀i,i<m.length→ae l i 0=ae m i 0):l=m:=List.ext_getElem h1 fun i h2 h3=>by
 have:=h i h3
 rwa [bF h2,bF h3] at this
theorem ZM {p:aE} {f:List Int} {k:Nat} (hk:k<nF f):(fD p f k).set (ae (aI f 0) k 0).toNat (ae (ew (e9 p f) (nF f) (mF p)) k 0)=fD p f (k+1):=by
 have hm:=mZ.1 (dQ (d:=0) hk)
 refine ZL (by rw[List.length_set,sL,sL]) fun i hi=>?_
 rw[sL] at hi
 have hid:(aI f 0).idxOf (ae (aI f 0) k 0)=k:=lp (Aj.imp fun h=>by omega) hk
 have ht:(aI f 0).take (k+1)=(aI f 0).take k++[ae (aI f 0) k 0]:=by rw[List.take_succ_eq_append_getElem hk,bF hk]
 rw[zT (by rw[sL];omega),Fv hi,Fv hi,ht]
 by_cases h3:i=(ae (aI f 0) k 0).toNat
 ·have h4:ae (aI f 0) k 0=(i:Int):=by omega
  rw[if_pos h3,h4]
  rw[h4,Int.toNat_natCast] at hm
  rw[if_neg (by omega),if_pos (by simp),←h4,hid]
 ·rw[if_neg h3]
  have h4:(i:Int)≠ae (aI f 0) k 0:=by omega
  have h5:((i:Int)∈(aI f 0).take k++[ae (aI f 0) k 0])↔(i:Int)∈(aI f 0).take k:=by simp[h4]
  simp only[h5]
theorem ZN {p:aE} {f:List Int} {i:Nat} (h:i<f.length):ae (fD p f 0) i 0=if ae f i 0=1 then 1 else 0:=by
 rw[Fv h]
 simp
def fb (p:aE) (f:List Int):Bool:=decide (fB p f=0)&&kG p f
noncomputable def fc (p:aE) (f:List Int):aW:=if fb p f=true then ah (qp p f) else(false,([],[]))
noncomputable def u7 (p:aE) (f:List Int):List aW:=if fb p f=true then fL (Ft p f) else[]
noncomputable def u9 (p:aE) (f:List Int):List aW:=if fb p f=true then fL (fD p f (nF f)) else[]
noncomputable def ZO (p:aE) (f:List Int):SV:=.agg [.sb (fb p f),.sb (fc p f).1,.row (.i .u32) (fc p f).2.1,.row (.i .u32) (fc p f).2.2,.row sF (u7 p f),.row sF (u9 p f)]
section
variable {P:Program} {T:Tab} {p:dY} {Λ:Nat→bz}
end
theorem ZP {k:Nat} {r r1:AV} {o mid o2:Store} (h1:r.aX o (fun i=>decide (k≤i))=some r1) (h2:eV o (fun i=>decide (k≤i)) o=some mid) (h3:dx (fun i=>decide (k≤i)) 0 mid=o2) (hr:r1.a6 k=true) (ho:∀x∈o2,x.a6 k=true) (hl:k≤o2.length):fe k r o=some (r1,o2.take k):=by
 unfold fe
 rw[h1,h2]
 simp only[h3]
 have hb:∀x∈o2.take k,x.a6 k=true:=fun x hx=>ho x (List.mem_of_mem_take hx)
 rw[IM (by simp only[b7,hr,Bool.true_and];exact CG hb)]
 have hn:eA.ki (List.range k)=true:=by rw[List.range_eq_range'];exact nodup_range'
 rw[if_pos hn,yL hr]
 have hs:=CE (k:=k) (o:=o2) hb hl (n:=k) (s:=0) (by omega)
 rw[←List.range_eq_range',List.drop_zero] at hs
 rw[hs]
def Au (k:Nat) (r:SV) (o:a8) (K:SV→a8→Prop):Prop:=
 gI o k r fun r1=>jQ o k 0 o fun o2=>if r1.a6 k&&o2.all (fun x=>x.a6 k)&&decide (k≤o2.length) then K r1 (o2.take k) else False
theorem ZQ {k:Nat} {r:SV} {o:a8} {K:SV→a8→Prop} (h:Au k r o K):∃r' o',fe k r.g (gO o)=some (r'.g,gO o')∧K r' o':=by
 unfold Au at h
 obtain⟨r1,h1,h2⟩:=CX h
 obtain⟨o2,mid,h3,h4,h5⟩:=rP h2
 split at h5
 ·rename_i hk
  simp only[Bool.and_eq_true,decide_eq_true_eq,List.all_eq_true] at hk
  obtain⟨⟨hc1,hc2⟩,hc3⟩:=hk
  refine⟨r1,o2.take k,?_,h5⟩
  rw[ZP h1 h3 h4 (by rw[tG];exact hc1) (fun x hx=>?_) (by rw[ic];exact hc3)]
  ·simp only[gO,List.map_take]
  ·simp only[gO,List.mem_map] at hx
   obtain⟨y,hy,rfl⟩:=hx
   rw[yH]
   exact hc2 y hy
 ·exact h5.elim
def Av (p:dY) (Λ:Nat→bz) (F:aT) (args:List SV) (o:a8) (Q:SV→a8→Prop):Prop:=
 wpS p o.length F.body Λ ⟨jP 0 args,o⟩ fun out st=>match out with
  | .exit _=>False
  | .goto _=>False
  |_=>iV st F.res fun r=>Au o.length r st.o Q
theorem ZR {P:Program} {T:Tab} {p:dY} {Λ:Nat→bz} (hT:gd P T) (hC:iZ T.K p.C) (hI:∀f F,p.it f=some F→T.fn f=some F) {f:FuncId} {F:aT} (hF:T.fn f=some F) {args:List SV} {o:a8} {r:AV} {o':Store} (hK:T.K f (gL args) (gO o) true=none) (hlen:args.length=F.params)
  {Q:SV→a8→Prop} (hQ:∀v s,Q v s→v.g=r∧gO s=o') (h:Av p Λ F args o Q):eG P f=true∧iQ P f (gL args) (gO o) r o':=by
 unfold Av at h
 have hw:=yW hC hI h
 have hst:(aN.mk (jP 0 args) o).g=⟨dW 0 (gL args),gO o⟩:=by simp[aN.g,rH]
 rw[hst] at hw
 have hol:(gO o).length=o.length:=ic o
 rw[←hol] at hw
 have fin:∀(ss:aN),(iV ss F.res fun v=>Au (gO o).length v ss.o Q)→(gX ss.g F.res).bind (fun r0=>finish true (gO o).length r0 ss.g.o)=some (r,o'):=by
  intro ss hq
  obtain⟨r0,h1,h2⟩:=rG hq
  obtain⟨r',s',h3,h4⟩:=ZQ h2
  rw[h1]
  simp only[Option.bind_some,finish,if_true]
  have:fe (gO o).length r0.g ss.g.o=some (r'.g,gO s'):=h3
  rw[this,(hQ _ _ h4).1,(hQ _ _ h4).2]
 obtain⟨h1,h2,_⟩:=yo hT hF (o:=gO o) (own:=true) hK (by rw[eY];exact hlen) (v:=r) (o':=o') (hw.mono fun out s hs=>by
  obtain⟨ss,rfl,hq⟩:=hs
  cases out with
  |exit id=>exact hq.elim
  |goto l=>exact hq.elim
  |norm=>exact⟨.inl rfl,fin ss hq⟩
  |ret=>exact⟨.inr rfl,fin ss hq⟩)
 exact⟨h1,h2⟩
theorem ZS {P:Program} {fn:FuncId→Option aT} {L:List bf} {W:List cK} (c:cK) {F:aT} {ty:TypeId→Option ai} {mt:List Nat×Bool→Option (ai×ai)} {Λ:c.α→Nat→bz}
  (h0:gd P ⟨fn,fun _ _ _ _=>none⟩) (hW:∀c∈W,eh P c) (hL:∀c∈L,Holds P c)
  (hF:fn c.f=some F) (hlen:∀a,(c.put a).length=F.params)
  (a:c.α) (hfr:kY c.f W=none)
  (h:Av (mM L (gi W) ty mt fn) (Λ a) F (c.put a) (c.st a) fun v s=>v.same (c.res a)∧iF s (c.out a)):
  eG P c.f=true∧iQ P c.f (gL (c.put a)) (gO (c.st a)) (c.res a).g (gO (c.out a)):=by
 refine ZR (p:=mM L (gi W) ty mt fn) (Λ:=Λ a) (Q:=fun v s=>v.same (c.res a)∧iF s (c.out a)) (tP (kZ hW) hL h0) (tQ (kZ hW)) (fun _ _ h=>h) hF ?_ (hlen a) (fun v s hs=>⟨hs.1,tO hs.2⟩) h
 simp only[lK,nQ,if_true,gi,pR,hfr]
def Fz (f:FuncId) (dom:aE→List Int→Prop) (res:aE→List Int→SV):cK where
 f:=f
 α:=aE×Nat×List Int
 put a:=[ef.put a.1,.ow 0 a.2.1 1]
 st a:=[.row (.i .i64) a.2.2 3 true]
 dec v o:=match v,o with
  |[p,.ow 0 n 1],[.row s l 3 true]=>match ef.dec p,gh s (.i .i64) l with
   |some p,some l=>some (p,n,l)
   |_,_=>none
  |_,_=>none
 ok v o a h:=by
  split at h
  ·split at h
   ·rename_i h1 h2
    simp only[Option.some.injEq] at h;subst h
    obtain⟨rfl,e1⟩:=nE h2
    cases e1
    exact⟨by simp only[gL,ef.ok _ _ h1],rfl⟩
   ·cases h
  ·cases h
 inj a b h1 h2:=by
  obtain⟨p,n,l⟩:=a
  obtain⟨p',n',l'⟩:=b
  simp only[gL,List.cons.injEq,and_true,SV.g,AV.os.injEq,true_and] at h1
  simp only[gO,List.map_cons,List.map_nil,af.g,List.cons.injEq,aP.cells.injEq,and_true] at h2
  rw[ef.inj p p' h1.1,ov (s:=.i .i64) h2,h1.2.1]
 dom a:=a.2.1=a.2.2.length∧dom a.1 a.2.2
 res a:=res a.1 a.2.2
 out a:=[.row (.i .i64) a.2.2 3 true]
theorem Aw {L:List bf} {W:List cK} (c:cK) (F:aT) (Λ:c.α→Nat→bz) (hW:∀c∈W,eh Tryz.prog c) (hL:∀c∈L,Holds Tryz.prog c)
  (hF:lM c.f=some F) (hlen:∀a,(c.put a).length=F.params) (hfr:kY c.f W=none)
  (h:∀a,c.dom a→Vc (Av (mM L (gi W) rK rL lM) (Λ a) F (c.put a) (c.st a) fun v s=>v.same (c.res a)∧iF s (c.out a))):eh Tryz.prog c:=
 fun a ha=>ZS c tZ hW hL hF hlen a hfr (h a ha).out
noncomputable def FA:cK:=Fz 67 (fun p f=>bw p=0∧f.length=p.offers.length) fun p f=>iH (IntCast.intCast (gR p f))
def ZT (p:aE) (f:List Int):Nat→bz
 |3=> .inv Int (fun i=>⟨[(2,.ptr 1 0 20),(4,.ptr 2 0 3),(5,.si .i64 (gR p (f.take i.toNat))),(8,.ow 0 f.length 1),(9,.si .i64 f.length),(10,.si .i64 i)],[.row (.i .i64) f 3 true,.cells p.ss 27 20 false,.cells [.bl false,.sc (.slice none 0 0),.sc (.slice none 0 0)] 70 3 false]⟩)
   (fun s=>iS s 10) (fun i=>0≤i∧i≤f.length) (fun i=>(f.length - i).toNat) fun _ _=> .look
 |_=> .look
theorem h396w:eh Tryz.prog FA:=by
 refine Aw (L:=[lW]) (W:=[]) FA xf (fun a=>ZT a.1 a.2.2) (by simp) (by simpa using h94) (by kernel_rfl) (fun _=>rfl) (by kernel_rfl) ?_
 rintro⟨p,n,f⟩ ⟨hn,⟨hc,hl⟩⟩
 simp only at hn
 subst hn
 simp only at hc hl
 refine bh (let z0:=SV.ptr 1 0 20;let z1:=SV.ptr 2 0 3;let z2:=SV.il .i64 0;let z3:=SV.ow 0 f.length 1;let z4:=(↑f.length:Int);let z5:=SV.si .i64 z4;let z6:=af.row (ai.i .i64) f 3 true;let z7:=af.cells (aE.ss p) 27 20 false;let z8:=SV.sc (Value.slice none 0 0);let z9:=af.cells [SV.bl false,z8,z8] 70 3 false;let ak:=ai.i .u32;let al:=ah (IntCast.intCast (gR p f));(((z0.same z0∧z1.same z1∧z2.same (SV.si .i64 (gR p []))∧z3.same z3∧z5.same z5∧z2.same (SV.si .i64 0)∧True)∧z6.same z6∧z7.same z7∧z9.same z9∧True)∧(0:Int)≤(0:Int)∧(0:Int)≤z4)∧∀(x:Int),let z12:=decide (ae f x.toNat (0:Int)=(1:Int));let au:=gR p (List.take x.toNat f);let ar:=au+(ae p.offers x.toNat ai.off.dflt).value;let ax:=x+(1:Int);let ay:=SV.si .i64 (gR p (List.take ax.toNat f));let z17:=SV.si .i64 ax;let aG:=ah (IntCast.intCast au);(0:Int)≤x∧x≤z4→(decide (x<z4)=true→f.length=f.length∧(0:Int)≤x∧x<(↑f.length:Int)∧f.length=f.length∧x.toNat<f.length∧(z12=true→(0:Int)≤x∧x<(↑p.offers.length:Int)∧x.toNat<p.offers.length∧aC .i64 ar∧aC .i64 ax∧((z0.same z0∧z1.same z1∧(SV.si .i64 ar).same ay∧z3.same z3∧z5.same z5∧z17.same z17∧True)∧z6.same z6∧z7.same z7∧z9.same z9∧True)∧((0:Int)≤ax∧ax≤z4)∧(z4 - ax).toNat<(z4 - x).toNat)∧(z12=false→aC .i64 ax∧((z0.same z0∧z1.same z1∧(SV.si .i64 au).same ay∧z3.same z3∧z5.same z5∧z17.same z17∧True)∧z6.same z6∧z7.same z7∧z9.same z9∧True)∧((0:Int)≤ax∧ax≤z4)∧(z4 - ax).toNat<(z4 - x).toNat))∧(decide (x<z4)=false→((-9223372036854775808:Int)≤au∧au≤(9223372036854775807:Int))∧(SV.agg [SV.sb aG.fst,SV.row ak aG.snd.fst,SV.row ak aG.snd.snd]).same (SV.agg [SV.sb al.fst,SV.row ak al.snd.fst,SV.row ak al.snd.snd])∧z6.same z6∧True)) (by kernel_rfl) ?_
 simp only[vcs]
 have h160:=(i6 hc).2.1
 refine⟨⟨by simp[gR,aI,bW,jR],by omega,by omega⟩,?_⟩
 rintro i ⟨i0,i1⟩
 have hb:=@Fp p hc f i.toNat hl
 refine⟨fun hi=>?_,fun hi=>?_⟩
 ·have hs:=@ZF p f i i0 hi
  have ho:=lZ hc (i:=i) ⟨i0,by omega⟩
  have hv:(ae p.offers i.toNat ai.off.dflt).value=(oI p i).value:=rfl
  rw[hv]
  refine⟨i0,hi,by omega,fun h1=>?_,fun h1=>?_⟩
  ·rw[if_pos h1] at hs
   exact⟨i0,by omega,by omega,by omega,by omega,by omega,by omega,by omega⟩
  ·rw[if_neg h1] at hs
   exact⟨by omega,by omega,by omega,by omega⟩
 ·rw[show f.take i.toNat=f by rw[show i.toNat=f.length by omega,List.take_length]] at hb ⊢
  exact⟨by omega,rfl⟩
noncomputable def FB:cK:=Fz 64 (fun p f=>(bw p=0∧f.length=p.offers.length)∧j6 f=true) fun p f=> .aD [.agg [.row sF (iJ p f).1,.row sR (iJ p f).2.1],.row (.i .i64) (iJ p f).2.2,.si .i64 (if kG p f=true then 0 else 14)]
def MQ (p:aE) (f:List Int) (l:List Int) (m:List Off):a8:=[.row (.i .i64) f 3 true,.cells p.ss 27 20 false,.cells [.sc (.slice none 0 0),.sc (.slice none 0 0)] 110 2 false,.row (.i .i64) l 3 true,.row .off m 58 true]
def Ax (p:aE) (f:List Int) (l:List Int) (m:List Off) (k0 k1:Nat) (rs:List (List aW×aW)) (g:List aW):a8:=MQ p f l m++[.cells p.ss 98 20 false,.cells [.ow 8 k0 3,.ow 7 k1 4] 110 2 false,.row sR rs 167 false,.row sF g 70 false]
def ZU (p:aE) (f:List Int):Nat→bz
 |9=> .inv Int (fun i=>⟨[(2,.ptr 1 0 20),(4,.ptr 2 0 2),(8,.ow 3 (aI (f.take i.toNat) 0).length 1),(9,.ow 4 (aI (f.take i.toNat) 1).length 8),(36,.ow 0 f.length 1),(37,.si .i64 f.length),(38,.si .i64 i)],MQ p f (aI (f.take i.toNat) 0) ((aI (f.take i.toNat) 1).map (oI p))⟩)
   (fun s=>iS s 38) (fun i=>0≤i∧i≤f.length) (fun i=>(f.length - i).toNat) fun _ _=> .look
 |24=> .inv Int (fun j=>⟨[(2,.ptr 1 0 20),(4,.ptr 2 0 2),(8,.ow 3 (aI f 0).length 1),(9,.ow 4 (aI f 1).length 8),(12,.ptr 5 0 20),(13,.ptr 6 0 2),(71,.ow 3 (aI f 0).length 1),(72,.si .i64 (aI f 0).length),(73,.si .i64 j)],Ax p f (aI f 0) ((aI f 1).map (oI p)) j.toNat 0 [] (iu p f j.toNat)⟩)
   (fun s=>iS s 73) (fun j=>0≤j∧j≤(aI f 0).length) (fun j=>((aI f 0).length - j).toNat) fun _ _=> .look
 |29=> .inv Int (fun r=>⟨[(2,.ptr 1 0 20),(4,.ptr 2 0 2),(8,.ow 3 (aI f 0).length 1),(9,.ow 4 (aI f 1).length 8),(12,.ptr 5 0 20),(13,.ptr 6 0 2),(91,.si .i64 (bY p)),(92,.si .i64 r)],Ax p f (aI f 0) ((aI f 1).map (oI p)) (aI f 0).length r.toNat (jj p f r.toNat) (iu p f (aI f 0).length)⟩)
   (fun s=>iS s 92) (fun r=>0≤r∧r≤bY p) (fun r=>(bY p - r).toNat) fun r k=>match k with
   |33=> .inv Int (fun j=>⟨[(2,.ptr 1 0 20),(4,.ptr 2 0 2),(8,.ow 3 (aI f 0).length 1),(9,.ow 4 (aI f 1).length 8),(12,.ptr 5 0 20),(13,.ptr 6 0 2),(16,.si .i64 r),(17,.si .i64 (b9 p r - ca p (((aI f 1).map (oI p)).take j.toNat) r)),(91,.si .i64 (bY p)),(92,.si .i64 r),(98,.ow 4 (aI f 1).length 8),(99,.si .i64 (aI f 1).length),(100,.si .i64 j)],Ax p f (aI f 0) ((aI f 1).map (oI p)) (aI f 0).length r.toNat (jj p f r.toNat) (iu p f (aI f 0).length)⟩)
     (fun s=>iS s 100) (fun j=>0≤j∧j≤(aI f 1).length) (fun j=>((aI f 1).length - j).toNat) fun _ _=> .look
   |39=> .inv Int (fun j=>⟨[(2,.ptr 1 0 20),(4,.ptr 2 0 2),(8,.ow 3 (aI f 0).length 1),(9,.ow 4 (aI f 1).length 8),(12,.ptr 5 0 20),(13,.ptr 6 0 2),(16,.si .i64 r),(20,.ptr 9 0 4),(91,.si .i64 (bY p)),(92,.si .i64 r),(114,.ow 3 (aI f 0).length 1),(115,.si .i64 (aI f 0).length),(116,.si .i64 j)],Ax p f (aI f 0) ((aI f 1).map (oI p)) (aI f 0).length r.toNat (jj p f r.toNat) (iu p f (aI f 0).length)++[.cells [.ow 10 j.toNat 3,.sb (ah ((b9 p r - ca p ((aI f 1).map (oI p)) r:Int):Rat)).1,.row (.i .u32) (ah ((b9 p r - ca p ((aI f 1).map (oI p)) r:Int):Rat)).2.1,.row (.i .u32) (ah ((b9 p r - ca p ((aI f 1).map (oI p)) r:Int):Rat)).2.2] 167 4 false,.row sF (ji p f r j.toNat) 70 false]⟩)
     (fun s=>iS s 116) (fun j=>0≤j∧j≤(aI f 0).length) (fun j=>((aI f 0).length - j).toNat) fun _ _=> .look
   |_=> .look
 |_=> .look
theorem h394w:eh Tryz.prog FB:=by
 refine Aw (L:=[nT,lW,za,ua,t7,t8]) (W:=[]) FB xd (fun a=>ZU a.1 a.2.2) (by simp) (by simpa using⟨h79,h94,h134,h156,h157,h158⟩) (by kernel_rfl) (fun _=>rfl) (by kernel_rfl) ?_
 rintro⟨p,n,f⟩ ⟨hn,⟨⟨hc,hl⟩,hr⟩⟩
 simp only at hn
 subst hn
 simp only at hc hl hr
 refine bh (let z0:=decide (bw p≠(0:Int));let z1:=SV.sc (Value.slice none 0 0);let z2:=SV.agg [z1,z1];let z3:=ai.i .i64;let z4:=SV.aD [SV.agg [SV.row sF (iJ p f).fst,SV.row sR (iJ p f).snd.fst],SV.row z3 (iJ p f).snd.snd,SV.si .i64 (if kG p f=true then(0:Int) else(14:Int))];let z5:=af.row z3 f 3 true;let z6:=(↑f.length:Int);let z7:=p.offers.length;let z8:=decide (z6≠(↑z7:Int));let z9:=SV.ptr 1 0 20;let ak:=SV.ptr 2 0 2;let al:=SV.ow 0 f.length 1;let z12:=SV.si .i64 z6;let au:=SV.il .i64 0;let ar:=[SV.si .i64 p.supply.a0,SV.si .i64 p.supply.a1,SV.si .i64 p.supply.a2,SV.si .i64 p.supply.a3,SV.si .i64 p.supply.a4,SV.si .i64 p.supply.a5,SV.si .i64 p.opn.a0,SV.si .i64 p.opn.a1,SV.si .i64 p.opn.a2,SV.si .i64 p.opn.a3,SV.si .i64 p.opn.a4,SV.si .i64 p.opn.a5,SV.si .i64 p.cls.a0,SV.si .i64 p.cls.a1,SV.si .i64 p.cls.a2,SV.si .i64 p.cls.a3,SV.si .i64 p.cls.a4,SV.si .i64 p.cls.a5,SV.row z3 p.classes,SV.row ai.off p.offers];let ax:=af.cells ar 27 20 false;let ay:=af.cells [z1,z1] 110 2 false;let z17:=af.row ai.off [] 58 true;let aG:=ai.off.dflt;let aH:=(↑p.classes.length:Int);let z20:=ai.i .u32;let z21:=ai.b.pair (z20.aY.pair z20.aY);let z22:=z21.aY.pair z21;let z23:=aI f (0:Int);let z24:=z23.length;let z25:=SV.ow 3 z24 1;let z26:=(aI f (1:Int)).length;let z27:=SV.ow 4 z26 8;let z28:=SV.ptr 5 0 20;let z29:=SV.ptr 6 0 2;let z30:=(↑z24:Int);let z31:=SV.si .i64 z30;let z32:=af.row z3 z23 3 true;let z33:=List.map (oI p) (aI f (1:Int));let z34:=af.row ai.off z33 58 true;let z35:=af.cells ar 98 20 false;let z36:=[SV.ow 7 0 4];let z37:=af.cells (SV.ow 8 0 3::z36) 110 2 false;let z38:=af.row sR [] 167 false;let z39:=af.row z21 [] 70 false;let z40:=SV.si .i64 (bY p);let z41:=SV.ow 8 z24 3;let z42:=iu p f z24;let z43:=af.row sF z42 70 false;let z44:=(↑z26:Int);let z45:=SV.si .i64 z44;let z46:=SV.ptr 9 0 4;let z47:=SV.ow 10 0 3;True∧(z0=true→(SV.aD [z2,z1,SV.si .i64 (bw p)]).same z4∧z5.same z5∧True)∧(z0=false→(z8=true→(SV.aD [z2,z1,SV.il .i64 3]).same z4∧z5.same z5∧True)∧(z8=false→(((z9.same z9∧ak.same ak∧(SV.ow 3 0 1).same (SV.ow 3 (aI [] (0:Int)).length 1)∧(SV.ow 4 0 8).same (SV.ow 4 (aI [] (1:Int)).length 8)∧al.same al∧z12.same z12∧au.same (SV.si .i64 0)∧True)∧z5.same z5∧ax.same ax∧ay.same ay∧(af.row z3 [] 3 true).same (af.row z3 (aI [] (0:Int)) 3 true)∧z17.same z17∧True)∧(0:Int)≤(0:Int)∧(0:Int)≤z6)∧∀(x:Int),let z48:=ae f x.toNat (0:Int);let z49:=decide (z48=(-1:Int));let z50:=x+(1:Int);let z51:=aI (List.take x.toNat f) (0:Int);let z52:=SV.ow 3 z51.length 1;let z53:=List.take z50.toNat f;let z54:=SV.ow 3 (aI z53 (0:Int)).length 1;let z55:=aI (List.take x.toNat f) (1:Int);let z56:=SV.ow 4 z55.length 8;let z57:=SV.ow 4 (aI z53 (1:Int)).length 8;let z58:=SV.si .i64 z50;let z59:=af.row z3 z51 3 true;let z60:=af.row z3 (aI z53 (0:Int)) 3 true;let z61:=List.map (oI p) z55;let z62:=af.row ai.off z61 58 true;let z63:=af.row ai.off (List.map (oI p) (aI z53 (1:Int))) 58 true;let z64:=decide (z48=(0:Int));let z65:=z51.length+1;let z66:=decide (z48=(1:Int));let z67:=z61.length+1;let z68:=z61++[ae p.offers x.toNat aG];(0:Int)≤x∧x≤z6→(decide (x<z6)=true→f.length=f.length∧(0:Int)≤x∧x<(↑f.length:Int)∧f.length=f.length∧x.toNat<f.length∧(z49=true→aC .i64 z50∧((z9.same z9∧ak.same ak∧z52.same z54∧z56.same z57∧al.same al∧z12.same z12∧z58.same z58∧True)∧z5.same z5∧ax.same ax∧ay.same ay∧z59.same z60∧z62.same z63∧True)∧((0:Int)≤z50∧z50≤z6)∧(z6 - z50).toNat<(z6 - x).toNat)∧(z49=false→(z64=true→z51.length=z51.length∧z65*8≤140737488355328∧z65≤1000000000000∧aC .i64 z50∧((z9.same z9∧ak.same ak∧(SV.ow 3 (z51++[x]).length 1).same z54∧z56.same z57∧al.same al∧z12.same z12∧z58.same z58∧True)∧z5.same z5∧ax.same ax∧ay.same ay∧(af.row z3 (z51++[x]) 3 true).same z60∧z62.same z63∧True)∧((0:Int)≤z50∧z50≤z6)∧(z6 - z50).toNat<(z6 - x).toNat)∧(z64=false→(z66=true→(0:Int)≤x∧x<(↑z7:Int)∧x.toNat<z7∧z55.length=z61.length∧z67*64≤140737488355328∧z67≤1000000000000∧aC .i64 z50∧((z9.same z9∧ak.same ak∧z52.same z54∧(SV.ow 4 z68.length 8).same z57∧al.same al∧z12.same z12∧z58.same z58∧True)∧z5.same z5∧ax.same ax∧ay.same ay∧z59.same z60∧(af.row ai.off z68 58 true).same z63∧True)∧((0:Int)≤z50∧z50≤z6)∧(z6 - z50).toNat<(z6 - x).toNat)∧(z66=false→(SV.aD [z2,z1,SV.il .i64 4]).same z4∧z5.same z5∧True))))∧(decide (x<z6)=false→z55.length=z61.length∧(p.classes.length≤8∧z61.length≤1000∧∀(x:Off),x∈z61→(0:Int)≤x.bD∧x.bD<aH∧x.want.ok=true)∧((!fG p z61)=true→0=0∧0=0∧0=0∧(SV.aD [SV.agg [SV.row z21 [],SV.row z22 []],SV.row z3 [],SV.il .i64 14]).same z4∧z5.same z5∧True)∧((!fG p z61)=false→(((z9.same z9∧ak.same ak∧z52.same z25∧z56.same z27∧z28.same z28∧z29.same z29∧z52.same z25∧(SV.si .i64 (↑z51.length:Int)).same z31∧au.same (SV.si .i64 0)∧True)∧z5.same z5∧ax.same ax∧ay.same ay∧z59.same z32∧z62.same z34∧z35.same z35∧z37.same z37∧(af.row z22 [] 167 false).same z38∧z39.same (af.row sF (iu p f 0) 70 false)∧True)∧(0:Int)≤(0:Int)∧(0:Int)≤z30)∧∀(x:Int),let z69:=ae z23 x.toNat (0:Int);let z70:=(ae p.offers z69.toNat aG).value;let z71:=iu p f x.toNat;let z72:=z71.length+1;let z73:=x+(1:Int);let z74:=SV.si .i64 z73;let z75:=ah (IntCast.intCast z70);let z76:=z71++[(z75.fst,z75.snd.fst,z75.snd.snd)];(0:Int)≤x∧x≤z30→(decide (x<z30)=true→z24=z23.length∧(0:Int)≤x∧x<(↑z23.length:Int)∧z24=z23.length∧x.toNat<z23.length∧(0:Int)≤z69∧z69<(↑z7:Int)∧z69.toNat<z7∧((-9223372036854775808:Int)≤z70∧z70≤(9223372036854775807:Int))∧1=1∧x.toNat=z71.length∧z72*56≤140737488355328∧z72≤1000000000000∧aC .i64 z73∧((z9.same z9∧ak.same ak∧z25.same z25∧z27.same z27∧z28.same z28∧z29.same z29∧z25.same z25∧z31.same z31∧z74.same z74∧True)∧z5.same z5∧ax.same ax∧ay.same ay∧z32.same z32∧z34.same z34∧z35.same z35∧(af.cells (SV.ow 8 z76.length 3::z36) 110 2 false).same (af.cells (SV.ow 8 z73.toNat 3::z36) 110 2 false)∧z38.same z38∧(af.row z21 z76 70 false).same (af.row sF (iu p f z73.toNat) 70 false)∧True)∧((0:Int)≤z73∧z73≤z30)∧(z30 - z73).toNat<(z30 - x).toNat)∧(decide (x<z30)=false→p.classes.length≤8∧(((z9.same z9∧ak.same ak∧z25.same z25∧z27.same z27∧z28.same z28∧z29.same z29∧z40.same z40∧au.same (SV.si .i64 0)∧True)∧z5.same z5∧ax.same ax∧ay.same ay∧z32.same z32∧z34.same z34∧z35.same z35∧(af.cells (SV.ow 8 x.toNat 3::z36) 110 2 false).same (af.cells (z41::z36) 110 2 false)∧z38.same (af.row sR (jj p f 0) 167 false)∧(af.row sF z71 70 false).same z43∧True)∧(0:Int)≤(0:Int)∧(0:Int)≤bY p)∧∀(x:Int),let z77:=decide (x<bY p);let z78:=af.cells [z41,SV.ow 7 x.toNat 4] 110 2 false;let z79:=jj p f x.toNat;let z80:=af.row sR z79 167 false;let jV:=ah (IntCast.intCast (b9 p x - ca p z33 x));let z82:=[SV.sb jV.fst,SV.row z20 jV.snd.fst,SV.row z20 jV.snd.snd];let z83:=z79.length+1;let z84:=x+(1:Int);let z85:=SV.si .i64 z84;(0:Int)≤x∧x≤bY p→(z77=true→(p.classes.length≤8∧(0:Int)≤x∧x<bY p)∧(((z9.same z9∧ak.same ak∧z25.same z25∧z27.same z27∧z28.same z28∧z29.same z29∧(SV.si .i64 x).same (SV.si .i64 x)∧(SV.si .i64 (b9 p x)).same (SV.si .i64 (b9 p x - ca p [] x))∧z40.same z40∧(SV.si .i64 x).same (SV.si .i64 x)∧z27.same z27∧z45.same z45∧au.same (SV.si .i64 0)∧True)∧z5.same z5∧ax.same ax∧ay.same ay∧z32.same z32∧z34.same z34∧z35.same z35∧z78.same z78∧z80.same z80∧z43.same z43∧True)∧(0:Int)≤(0:Int)∧(0:Int)≤z44)∧∀(x_1:Int),let z86:=ae z33 x_1.toNat aG;let z87:=b9 p x - ca p (List.take x_1.toNat z33) x;let lT:=z87 - fF p x z86;let z89:=x_1+(1:Int);let eZ:=SV.si .i64 x;let z91:=SV.si .i64 z89;let jW:=ah (IntCast.intCast z87);(0:Int)≤x_1∧x_1≤z44→(decide (x_1<z44)=true→z26=z33.length∧(0:Int)≤x_1∧x_1<(↑z33.length:Int)∧z26=z33.length∧x_1.toNat<z33.length∧(p.classes.length≤8∧(0:Int)≤x∧x<bY p∧(0:Int)≤z86.bD∧z86.bD<aH)∧aC .i64 lT∧aC .i64 z89∧((z9.same z9∧ak.same ak∧z25.same z25∧z27.same z27∧z28.same z28∧z29.same z29∧eZ.same eZ∧(SV.si .i64 lT).same (SV.si .i64 (b9 p x - ca p (List.take z89.toNat z33) x))∧z40.same z40∧eZ.same eZ∧z27.same z27∧z45.same z45∧z91.same z91∧True)∧z5.same z5∧ax.same ax∧ay.same ay∧z32.same z32∧z34.same z34∧z35.same z35∧z78.same z78∧z80.same z80∧z43.same z43∧True)∧((0:Int)≤z89∧z89≤z44)∧(z44 - z89).toNat<(z44 - x_1).toNat)∧(decide (x_1<z44)=false→((-9223372036854775808:Int)≤z87∧z87≤(9223372036854775807:Int))∧(((z9.same z9∧ak.same ak∧z25.same z25∧z27.same z27∧z28.same z28∧z29.same z29∧eZ.same eZ∧z46.same z46∧z40.same z40∧eZ.same eZ∧z25.same z25∧z31.same z31∧au.same (SV.si .i64 0)∧True)∧z5.same z5∧ax.same ax∧ay.same ay∧z32.same z32∧z34.same z34∧z35.same z35∧z78.same z78∧z80.same z80∧z43.same z43∧(af.cells [z47,SV.sb jW.fst,SV.row z20 jW.snd.fst,SV.row z20 jW.snd.snd] 167 4 false).same (af.cells (z47::z82) 167 4 false)∧z39.same (af.row sF (ji p f x 0) 70 false)∧True)∧(0:Int)≤(0:Int)∧(0:Int)≤z30)∧∀(x_2:Int),let z93:=ae z23 x_2.toNat (0:Int);let ek:=ae p.offers z93.toNat aG;let jd:=fF p x ek;let kD:=ji p f x x_2.toNat;let um:=kD.length+1;let lU:=x_2+(1:Int);let pZ:=SV.si .i64 lU;let sf:=ah (IntCast.intCast jd);let uo:=kD++[(sf.fst,sf.snd.fst,sf.snd.snd)];let ob:=z79++[(kD,jV.fst,jV.snd.fst,jV.snd.snd)];(0:Int)≤x_2∧x_2≤z30→(decide (x_2<z30)=true→z24=z23.length∧(0:Int)≤x_2∧x_2<(↑z23.length:Int)∧z24=z23.length∧x_2.toNat<z23.length∧(0:Int)≤z93∧z93<(↑z7:Int)∧z93.toNat<z7∧(p.classes.length≤8∧(0:Int)≤x∧x<bY p∧(0:Int)≤ek.bD∧ek.bD<aH)∧((-9223372036854775808:Int)≤jd∧jd≤(9223372036854775807:Int))∧1=1∧x_2.toNat=kD.length∧um*56≤140737488355328∧um≤1000000000000∧aC .i64 lU∧((z9.same z9∧ak.same ak∧z25.same z25∧z27.same z27∧z28.same z28∧z29.same z29∧eZ.same eZ∧z46.same z46∧z40.same z40∧eZ.same eZ∧z25.same z25∧z31.same z31∧pZ.same pZ∧True)∧z5.same z5∧ax.same ax∧ay.same ay∧z32.same z32∧z34.same z34∧z35.same z35∧z78.same z78∧z80.same z80∧z43.same z43∧(af.cells (SV.ow 10 uo.length 3::z82) 167 4 false).same (af.cells (SV.ow 10 lU.toNat 3::z82) 167 4 false)∧(af.row z21 uo 70 false).same (af.row sF (ji p f x lU.toNat) 70 false)∧True)∧((0:Int)≤lU∧lU≤z30)∧(z30 - lU).toNat<(z30 - x_2).toNat)∧(decide (x_2<z30)=false→x_2.toNat=kD.length∧1=1∧x.toNat=z79.length∧z83*80≤140737488355328∧z83≤1000000000000∧aC .i64 z84∧((z9.same z9∧ak.same ak∧z25.same z25∧z27.same z27∧z28.same z28∧z29.same z29∧z40.same z40∧z85.same z85∧True)∧z5.same z5∧ax.same ax∧ay.same ay∧z32.same z32∧z34.same z34∧z35.same z35∧(af.cells [z41,SV.ow 7 ob.length 4] 110 2 false).same (af.cells [z41,SV.ow 7 z84.toNat 4] 110 2 false)∧(af.row z22 ob 167 false).same (af.row sR (jj p f z84.toNat) 167 false)∧z43.same z43∧True)∧((0:Int)≤z84∧z84≤bY p)∧(bY p - z84).toNat<(bY p - x).toNat)))∧(z77=false→z24=z42.length∧x.toNat=z79.length∧z24=z23.length∧(SV.aD [SV.agg [SV.row sF z42,SV.row sR z79],SV.row z3 z23,au]).same z4∧z5.same z5∧True))))))) (by kernel_rfl) ?_
 simp only[vcs]
 obtain⟨g1,g2,g3,g4,g5⟩:=i6 hc
 have hoi:∀k:Nat,∀o:Int,o=k→(ae p.offers k ai.off.dflt)=oI p o:=fun k o h=>by subst h;rfl
 have hw2:∀{a b:Nat},a=b→(SV.ow 3 a 1).same (SV.ow 3 b 1):=by rintro _ _ rfl;rfl
 have hw3:∀{a b:Nat},a=b→(SV.ow 4 a 8).same (SV.ow 4 b 8):=by rintro _ _ rfl;rfl
 have fa:∀{x y:List Int},x=y→(af.row (.i .i64) x 3 true).same (af.row (.i .i64) y 3 true):=by rintro _ _ rfl;rfl
 have qq:∀{x y:List Off},x=y→(af.row .off x 58 true).same (af.row .off y 58 true):=by rintro _ _ rfl;rfl
 refine⟨fun h=>absurd hc h,fun _=>⟨fun h=>absurd (by rw[hl]) h,fun _=>⟨⟨⟨⟨hw2 rfl,hw3 rfl⟩,fa rfl⟩,by omega,by omega⟩,?_⟩⟩⟩
 rintro i ⟨i0,i1⟩
 have htl:(f.take i.toNat).length≤160:=by rw[List.length_take];omega
 have hd0:=@oz (f.take i.toNat) 0
 have hd1:=@oz (f.take i.toNat) 1
 have hm1:(List.map (oI p) (aI (f.take i.toNat) 1)).length=(aI (f.take i.toNat) 1).length:=List.length_map _
 refine⟨fun hi=>?_,fun hi=>?_⟩
 ·have hs0:=@Ar f 0 i i0 hi
  have hs1:=@Ar f 1 i i0 hi
  have aaX: -1≤ae f i.toNat 0∧ae f i.toNat 0≤1:=by
   have:=List.all_eq_true.1 hr _ (dQ (d:=0) (show i.toNat<f.length by omega))
   simpa using this
  refine⟨i0,hi,by omega,fun h1=>?_,fun h1=>⟨fun h2=>?_,fun h2=>⟨fun h3=>?_,fun h3=>by omega⟩⟩⟩
  ·rw[if_neg (by omega),List.append_nil] at hs0 hs1
   rw[hs0,hs1]
   exact⟨by omega,⟨⟨hw2 rfl,hw3 rfl⟩,fa rfl,qq rfl⟩,by omega,by omega⟩
  ·rw[if_pos (by omega)] at hs0
   rw[if_neg (by omega),List.append_nil] at hs1
   rw[hs0,hs1]
   exact⟨by omega,by omega,by omega,⟨⟨hw2 rfl,hw3 rfl⟩,fa rfl,qq rfl⟩,by omega,by omega⟩
  ·rw[if_neg (by omega),List.append_nil] at hs0
   rw[if_pos (by omega)] at hs1
   rw[hs0,hs1,hoi i.toNat i (by omega),hm1]
   have e:List.map (oI p) (aI (f.take i.toNat) 1)++[oI p i]=List.map (oI p) (aI (f.take i.toNat) 1++[i]):=by rw[List.map_append];rfl
   rw[e,List.length_map]
   exact⟨i0,by omega,by omega,rfl,by omega,by omega,by omega,⟨⟨hw2 rfl,hw3 rfl⟩,fa rfl,qq rfl⟩,by omega,by omega⟩
 ·have htk:f.take i.toNat=f:=by rw[show i.toNat=f.length by omega,List.take_length]
  rw[htk] at hd0 hd1 hm1 ⊢
  have hdl:∀d,(aI f d).length≤160:=fun d=>by have:=@oz f d;omega
  refine⟨hm1.symm,⟨g1,by omega,fun x hx=>?_⟩,fun hb=>?_,fun hb=>?_⟩
  ·obtain⟨k,hk,rfl⟩:=List.mem_map.1 hx
   have h1:=(mZ.1 hk).1
   have:=lZ hc (i:=k) (by omega)
   exact⟨this.1,this.2.1,this.2.2.1⟩
  ·have hb2:kG p f=false:=hb
   unfold iJ
   simp only[hb2]
   exact⟨rfl,rfl,rfl⟩
  ·have hb2:kG p f=true:=hb
   have hG:iJ p f=((ez (eT p f)).1,((ez (eT p f)).2,aI f 0)):=by unfold iJ;rw[if_pos hb2]
   simp only[hb2,if_true,hG]
   have hfx:kF p f:=⟨hc,hl,hb⟩
   have vd:∀{x y:List aW},x=y→(af.row sF x 70 false).same (af.row sF y 70 false):=by rintro _ _ rfl;rfl
   have MR:∀{x y:List (List aW×aW)},x=y→(af.row sR x 167 false).same (af.row sR y 167 false):=by rintro _ _ rfl;rfl
   have FC:∀{a b c d:Nat},a=b→c=d→(af.cells [.ow 8 a 3,.ow 7 c 4] 110 2 false).same (af.cells [.ow 8 b 3,.ow 7 d 4] 110 2 false):=by rintro _ _ _ _ rfl rfl;rfl
   have hc8:∀{a b:Nat} {q q':Rat},a=b→q=q'→(af.cells [.ow 10 a 3,.sb (ah q).1,.row (.i .u32) (ah q).2.1,.row (.i .u32) (ah q).2.2] 167 4 false).same (af.cells [.ow 10 b 3,.sb (ah q').1,.row (.i .u32) (ah q').2.1,.row (.i .u32) (ah q').2.2] 167 4 false):=by rintro _ _ _ _ rfl rfl;rfl
   have hn0:=hdl 0
   have hn1:=hdl 1
   have hfree:∀j:Int,0≤j→j<(aI f 0).length→(0≤ae (aI f 0) j.toNat 0∧ae (aI f 0) j.toNat 0<p.offers.length):=fun j h0 h1=>by
    have:=(mZ.1 (dQ (d:=0) (show j.toNat<(aI f 0).length by omega))).1
    omega
   refine⟨⟨⟨⟨hw2 rfl,hw3 rfl,hw2 rfl,trivial⟩,fa rfl,qq rfl,vd rfl⟩,by omega,by omega⟩,?_⟩
   rintro j ⟨j0,j1⟩
   have hgl:=@Fq p f j.toNat (by omega)
   refine⟨fun hj=>?_,fun hj=>?_⟩
   ·have hk:=hfree j j0 hj
    have ho:=lZ hc hk
    have hs:=@ZG p f j j0 hj
    have ZV:=@Fq p f (j+1).toNat (by omega)
    rw[hoi _ (ae (aI f 0) j.toNat 0) (by omega)]
    simp only[gP]
    have e:iu p f j.toNat++[ah (IntCast.intCast (oI p (ae (aI f 0) j.toNat 0)).value)]=iu p f (j+1).toNat:=hs.symm
    rw[e]
    exact⟨j0,hj,by omega,hk.1,hk.2,by omega,by omega,by omega,by omega,by omega,by omega,⟨FC ZV rfl,vd rfl⟩,by omega,by omega⟩
   ·rw[show j.toNat=(aI f 0).length by omega]
    have hnr:bY p=p.classes.length+12:=rfl
    refine⟨g1,⟨⟨FC rfl rfl,MR rfl,vd rfl⟩,by omega,by omega⟩,?_⟩
    rintro r ⟨r0,r1⟩
    have hrl:=@MO p f r.toNat
    refine⟨fun hr2=>⟨⟨g1,r0,hr2⟩,⟨by simp[ca],by omega,by omega⟩,?_⟩,fun hr2=>?_⟩
    ·rintro k ⟨k0,k1⟩
     have hok:∀x∈(List.map (oI p) (aI f 1)).take k.toNat,x.want.ok=true:=fun x hx=>(Am hfx x (List.mem_of_mem_take hx)).2.2.1
     have hsb:=@rQ p r ((List.map (oI p) (aI f 1)).take k.toNat) hok
     have ZW:((List.map (oI p) (aI f 1)).take k.toNat).length≤160:=by rw[List.length_take];omega
     have hbb:=@Ew p hc r
     refine⟨fun hk=>?_,fun hk=>?_⟩
     ·have hx:=Am hfx _ (dQ (d:=ai.off.dflt) (show k.toNat<(List.map (oI p) (aI f 1)).length by omega))
      have hst:=@C5 p r (List.map (oI p) (aI f 1)) k ai.off.dflt k0 (by omega)
      have hcb:=@pS p r _ hx.2.2.1
      exact⟨by omega,k0,by omega,by omega,by omega,⟨g1,r0,hr2,hx.1,hx.2.1⟩,by omega,by omega,by omega,by omega,by omega⟩
     ·have e:(List.map (oI p) (aI f 1)).take k.toNat=List.map (oI p) (aI f 1):=List.take_of_length_le (by omega)
      rw[e] at hsb ZW ⊢
      refine⟨by omega,⟨⟨hc8 rfl rfl,vd rfl⟩,by omega,by omega⟩,?_⟩
      rintro l ⟨l0,l1⟩
      have hcl:=@MN p f r l.toNat (by omega)
      refine⟨fun hl2=>?_,fun hl2=>?_⟩
      ·have hk:=hfree l l0 hl2
       have ho:=lZ hc hk
       have hs:=@ZH p f r l l0 hl2
       have ZX:=@MN p f r (l+1).toNat (by omega)
       have hcb:=@pS p r _ ho.2.2.1
       rw[hoi _ (ae (aI f 0) l.toNat 0) (by omega)]
       simp only[gP]
       have e:ji p f r l.toNat++[ah (IntCast.intCast (fF p r (oI p (ae (aI f 0) l.toNat 0))))]=ji p f r (l+1).toNat:=hs.symm
       rw[e]
       exact⟨l0,hl2,by omega,hk.1,hk.2,by omega,⟨g1,r0,hr2,ho.1,ho.2.1⟩,by omega,by omega,by omega,by omega,by omega,⟨hc8 ZX rfl,vd rfl⟩,by omega,by omega⟩
      ·rw[show l.toNat=(aI f 0).length by omega] at hcl ⊢
       have hs:=@ZI p f r r0
       have hrl2:=@MO p f (r+1).toNat
       simp only[gP]
       have e:jj p f r.toNat++[(ji p f r (aI f 0).length,ah (IntCast.intCast (b9 p r - ca p (List.map (oI p) (aI f 1)) r)))]=jj p f (r+1).toNat:=hs.symm
       rw[e]
       exact⟨hcl.symm,hrl.symm,by omega,by omega,by omega,⟨FC rfl hrl2,MR rfl⟩,by omega,by omega⟩
    ·have e:r.toNat=mF p:=by
      show r.toNat=p.classes.length+12
      omega
     rw[e] at hrl ⊢
     rw[ML,MM]
     refine⟨?_,hrl.symm.trans (by rw[MM]),rfl,trivial,trivial⟩
     rw[←ML]
     exact(Fq (Nat.le_refl _)).symm
noncomputable def Az:cK:=Fz 36 (fun p f=>f.length≤1000000000000) fun p f=> .aD [ZO p f,.si .i64 (fB p f)]
noncomputable def MS (p:aE) (f:List Int) (x:List aW):a8:=
 [.row (.i .i64) f 3 true,.cells p.ss 27 20 false,.cells [.bl false,.bl false,.sc (.slice none 0 0),.sc (.slice none 0 0),.sc (.slice none 0 0),.sc (.slice none 0 0)] 74 6 false,.cells [.row sF (iJ p f).1,.row sR (iJ p f).2.1] 110 2 false,
  .cells [.si .i64 1,.sb (ah (e9 p f).value).1,.row (.i .u32) (ah (e9 p f).value).2.1,.row (.i .u32) (ah (e9 p f).value).2.2,.row sF (fL (ew (e9 p f) (nF f) (mF p))),.row sF (fL (Ft p f)),.row sF []] 114 7 false,.row sF x 70 true]
noncomputable def ZY (p:aE) (f:List Int):Nat→bz
 |12=> .inv Int (fun i=>⟨[(1,.ow 0 f.length 1),(2,.ptr 1 0 20),(4,.ptr 2 0 6),(8,.row (.i .i64) (aI f 0)),(10,.ptr 4 0 7),(11,.ow 5 f.length 3),(45,.ow 0 f.length 1),(46,.si .i64 f.length),(47,.si .i64 i)],MS p f (de (fL (fD p f 0)) i.toNat (false,([],[])))⟩)
   (fun s=>iS s 47) (fun i=>0≤i∧i≤f.length) (fun i=>(f.length - i).toNat) fun _ _=> .look
 |19=> .inv Int (fun k=>⟨[(1,.ow 0 f.length 1),(2,.ptr 1 0 20),(4,.ptr 2 0 6),(10,.ptr 4 0 7),(11,.ow 5 f.length 3),(63,.row (.i .i64) (aI f 0)),(64,.si .i64 (aI f 0).length),(65,.si .i64 k)],MS p f (fL (fD p f k.toNat))⟩)
   (fun s=>iS s 65) (fun k=>0≤k∧k≤(aI f 0).length) (fun k=>((aI f 0).length - k).toNat) fun _ _=> .look
 |_=> .look
theorem h390w:eh Tryz.prog Az:=by
 refine Aw (L:=[Fo,Fh,lW,uF]) (W:=[FB,FA]) Az wZ (fun a=>ZY a.1 a.2.2) (by simpa using⟨h394w,h396w⟩) (by simpa using⟨h393,h395,h94,h129⟩) (by kernel_rfl) (fun _=>rfl) (by kernel_rfl) ?_
 rintro⟨p,n,f⟩ ⟨hn,hl:f.length≤1000000000000⟩
 simp only at hn
 subst hn
 refine bh (let z0:=decide (fB p f≠(0:Int));let z1:=SV.bl false;let z2:=ai.i .u32;let z3:=ai.b.pair (z2.aY.pair z2.aY);let z4:=SV.agg [z1,z1,SV.row z2 [],SV.row z2 [],SV.row z3 [],SV.row z3 []];let z5:=[SV.si .i64 (fB p f)];let z6:=SV.aD (SV.agg [SV.sb (fb p f),SV.sb (fc p f).fst,SV.row z2 (fc p f).snd.fst,SV.row z2 (fc p f).snd.snd,SV.row sF (u7 p f),SV.row sF (u9 p f)]::z5);let z7:=ai.i .i64;let z8:=af.row z7 f 3 true;let z9:=decide ((if kG p f=true then(0:Int) else(14:Int))≠(0:Int));let ak:=SV.il .i64 0;let al:=(iJ p f).fst;let z12:=(iJ p f).snd.fst;let au:=SV.si .i64 0;let ar:=(↑f.length:Int);let ax:=SV.ow 0 f.length 1;let ay:=SV.ptr 1 0 20;let z17:=SV.ptr 2 0 6;let aG:=aI f (0:Int);let aH:=SV.row z7 aG;let z20:=SV.ptr 4 0 7;let z21:=SV.ow 5 f.length 3;let z22:=SV.si .i64 ar;let z23:=af.cells [SV.si .i64 p.supply.a0,SV.si .i64 p.supply.a1,SV.si .i64 p.supply.a2,SV.si .i64 p.supply.a3,SV.si .i64 p.supply.a4,SV.si .i64 p.supply.a5,SV.si .i64 p.opn.a0,SV.si .i64 p.opn.a1,SV.si .i64 p.opn.a2,SV.si .i64 p.opn.a3,SV.si .i64 p.opn.a4,SV.si .i64 p.opn.a5,SV.si .i64 p.cls.a0,SV.si .i64 p.cls.a1,SV.si .i64 p.cls.a2,SV.si .i64 p.cls.a3,SV.si .i64 p.cls.a4,SV.si .i64 p.cls.a5,SV.row z7 p.classes,SV.row ai.off p.offers] 27 20 false;let z24:=SV.sc (Value.slice none 0 0);let z25:=af.cells [z1,z1,z24,z24,z24,z24] 74 6 false;let z26:=af.cells [SV.row sF al,SV.row sR z12] 110 2 false;let z27:=SV.si .i64 1;let z28:=List.map (fun r ↦(vL r.fst,aO r.snd)) z12;let z29:=jh (vL al,z28);let z30:=(vL al).length;let z31:=ah (e9 p f).value;let z32:=fL (ew (e9 p f) (nF f) (mF p));let z33:=SV.row sF (fL (Ft p f));let z34:=af.cells [z27,SV.sb z31.fst,SV.row z2 z31.snd.fst,SV.row z2 z31.snd.snd,SV.row sF z32,z33,SV.row sF []] 114 7 false;let z35:=(false,[],[]);let z36:=fL (fD p f 0);let z37:=ah (IntCast.intCast (0:Int));let z38:=ah (IntCast.intCast (1:Int));let z39:=(↑aG.length:Int);let z40:=SV.si .i64 z39;let z41:=ah (IntCast.intCast (gR p f));let z42:=(z41.fst,z41.snd.fst,z41.snd.snd);let z43:=(z31.fst,z31.snd.fst,z31.snd.snd);let z44:=ah (aO z42+aO z43);f.length=f.length∧f.length≤1000000000000∧(z0=true→0=0∧0=0∧0=0∧0=0∧(SV.aD (z4::z5)).same z6∧z8.same z8∧True)∧(z0=false→(f.length=f.length∧(bw p=(0:Int)∧f.length=p.offers.length)∧j6 f=true)∧(z9=true→0=0∧0=0∧0=0∧0=0∧(SV.aD [z4,ak]).same z6∧z8.same z8∧True)∧(z9=false→(∃a,(al,z12)=ez a∧uZ a)∧(false=true→0=0∧0=0∧0=0∧0=0∧(SV.aD [z4,au]).same z6∧z8.same z8∧True)∧(false=false→(0:Int)≤ar∧ar≤ar∧ar*(56:Int)≤(140737488355328:Int)∧ar≤(1000000000000:Int)∧(((ax.same ax∧ay.same ay∧z17.same z17∧(SV.row z7 (iJ p f).snd.snd).same aH∧z20.same z20∧(SV.ow 5 ar.toNat 3).same z21∧ax.same ax∧z22.same z22∧ak.same au∧True)∧z8.same z8∧z23.same z23∧z25.same z25∧z26.same z26∧(af.cells [z27,SV.sb (ah z29.value).fst,SV.row z2 (ah z29.value).snd.fst,SV.row z2 (ah z29.value).snd.snd,SV.row sF (fL (ew z29 z30 z28.length)),SV.row sF (fL (fS z29 z30 z28.length z30)),SV.row sF []] 114 7 false).same z34∧(af.row z3 (List.replicate ar.toNat z35) 70 true).same (af.row sF (de z36 0 z35) 70 true)∧True)∧(0:Int)≤(0:Int)∧(0:Int)≤ar)∧∀(x:Int),let z45:=de z36 x.toNat z35;let z46:=decide (ae f x.toNat (0:Int)=(1:Int));let z47:=z45.set x.toNat (z37.fst,z37.snd.fst,z37.snd.snd);let z48:=x+(1:Int);let z49:=SV.si .i64 z48;let z50:=af.row sF (de z36 z48.toNat z35) 70 true;(0:Int)≤x∧x≤ar→(decide (x<ar)=true→f.length=f.length∧(0:Int)≤x∧x<(↑f.length:Int)∧f.length=f.length∧x.toNat<f.length∧((-9223372036854775808:Int)≤(0:Int)∧(0:Int)≤(9223372036854775807:Int))∧f.length=z45.length∧(0:Int)≤x∧x<(↑z45.length:Int)∧f.length=z45.length∧x.toNat<z45.length∧(z46=true→((-9223372036854775808:Int)≤(1:Int)∧(1:Int)≤(9223372036854775807:Int))∧f.length=z47.length∧(0:Int)≤x∧x<(↑z47.length:Int)∧f.length=z47.length∧x.toNat<z47.length∧aC .i64 z48∧((ax.same ax∧ay.same ay∧z17.same z17∧aH.same aH∧z20.same z20∧z21.same z21∧ax.same ax∧z22.same z22∧z49.same z49∧True)∧z8.same z8∧z23.same z23∧z25.same z25∧z26.same z26∧z34.same z34∧(af.row sF (z47.set x.toNat (z38.fst,z38.snd.fst,z38.snd.snd)) 70 true).same z50∧True)∧((0:Int)≤z48∧z48≤ar)∧(ar - z48).toNat<(ar - x).toNat)∧(z46=false→aC .i64 z48∧((ax.same ax∧ay.same ay∧z17.same z17∧aH.same aH∧z20.same z20∧z21.same z21∧ax.same ax∧z22.same z22∧z49.same z49∧True)∧z8.same z8∧z23.same z23∧z25.same z25∧z26.same z26∧z34.same z34∧(af.row sF z47 70 true).same z50∧True)∧((0:Int)≤z48∧z48≤ar)∧(ar - z48).toNat<(ar - x).toNat))∧(decide (x<ar)=false→(((ax.same ax∧ay.same ay∧z17.same z17∧z20.same z20∧z21.same z21∧aH.same aH∧(SV.si .i64 (↑aG.length:Int)).same z40∧ak.same au∧True)∧z8.same z8∧z23.same z23∧z25.same z25∧z26.same z26∧z34.same z34∧(af.row sF z45 70 true).same (af.row sF z36 70 true)∧True)∧(0:Int)≤(0:Int)∧(0:Int)≤z39)∧∀(x:Int),let z51:=fL (fD p f x.toNat);let z52:=ae aG x.toNat (0:Int);let z53:=x+(1:Int);let z54:=SV.si .i64 z53;let z55:=ae z32 x.toNat sF.dflt;(0:Int)≤x∧x≤z39→(decide (x<z39)=true→(0:Int)≤x∧x<(↑aG.length:Int)∧x.toNat<aG.length∧(0:Int)≤x∧x<(↑z32.length:Int)∧x.toNat<z32.length∧f.length=z51.length∧(0:Int)≤z52∧z52<(↑z51.length:Int)∧f.length=z51.length∧z52.toNat<z51.length∧aC .i64 z53∧((ax.same ax∧ay.same ay∧z17.same z17∧z20.same z20∧z21.same z21∧aH.same aH∧z40.same z40∧z54.same z54∧True)∧z8.same z8∧z23.same z23∧z25.same z25∧z26.same z26∧z34.same z34∧(af.row sF (z51.set z52.toNat (z55.fst,z55.snd.fst,z55.snd.snd)) 70 true).same (af.row sF (fL (fD p f z53.toNat)) 70 true)∧True)∧((0:Int)≤z53∧z53≤z39)∧(z39 - z53).toNat<(z39 - x).toNat)∧(decide (x<z39)=false→(f.length=f.length∧bw p=(0:Int)∧f.length=p.offers.length)∧(bM z42∧bM z43)∧f.length=z51.length∧f.length=z51.length∧(SV.aD [SV.agg [SV.bl true,SV.sb z44.fst,SV.row z2 z44.snd.fst,SV.row z2 z44.snd.snd,z33,SV.row sF z51],ak]).same z6∧z8.same z8∧True)))))) (by kernel_rfl) ?_
 simp only[vcs]
 have hz:fb p f=false→(SV.agg [SV.bl false,SV.bl false,SV.row (ai.i IntKind.i64) [],SV.row (ai.i IntKind.i64) [],SV.row (ai.i IntKind.i64) [],SV.row (ai.i IntKind.i64) []]).same
   (SV.agg [SV.sb (fb p f),SV.sb (fc p f).fst,SV.row (ai.i IntKind.u32) (fc p f).snd.fst,SV.row (ai.i IntKind.u32) (fc p f).snd.snd,SV.row sF (u7 p f),SV.row sF (u9 p f)]):=fun h=>by
  unfold fc u7 u9
  simp only[h]
  rfl
 refine⟨hl,fun h=>hz (by unfold fb;rw[decide_eq_false h];rfl),fun h=>?_⟩
 have hx0:fB p f=0:=Classical.not_not.1 h
 have hcl:bw p=0∧f.length=p.offers.length∧j6 f=true:=by
  unfold fB at hx0
  split at hx0
  ·rename_i h1;exact absurd hx0 h1
  ·rename_i h1
   split at hx0
   ·cases hx0
   ·rename_i h2
    split at hx0
    ·rename_i h3;exact⟨Classical.not_not.1 h1,Classical.not_not.1 h2,h3⟩
    ·cases hx0
 obtain⟨hc,hln,hr⟩:=hcl
 refine⟨⟨⟨hc,hln⟩,hr⟩,fun h1=>⟨hz ?_,hx0.symm⟩,fun h1=>?_⟩
 ·have hb:kG p f=false:=by
   cases hb:kG p f with
   |false=>rfl
   |true=>rw[hb] at h1;exact absurd rfl h1
  unfold fb
  rw[hb,Bool.and_false]
 ·have hb:kG p f=true:=by
   cases hb:kG p f with
   |true=>rfl
   |false=>rw[hb] at h1;exact absurd (by simp) h1
  have hfx:kF p f:=⟨hc,hln,hb⟩
  have hG:iJ p f=((ez (eT p f)).1,((ez (eT p f)).2,aI f 0)):=by unfold iJ;rw[if_pos hb]
  have hok:fb p f=true:=by unfold fb;rw[hb,decide_eq_true hx0];rfl
  have h0:(IntCast.intCast 0:Rat)=0:=rfl
  have h1':(IntCast.intCast 1:Rat)=1:=rfl
  simp only[hG,MI,MJ,h0,h1',gP]
  have e1:(eT p f).1.length=nF f:=by
   show((aI f 0).map _).length=_
   rw[List.length_map]
  have e2:(eT p f).2.length=mF p:=by
   show((bW (mF p)).map _).length=_
   rw[List.length_map,e8]
  have Fj:((eT p f).1,(eT p f).2)=eT p f:=rfl
  simp only[Fj,ZK,e1,e2]
  have oC:∀{x y:List aW},x=y→(af.row sF x 70 true).same (af.row sF y 70 true):=by rintro _ _ rfl;rfl
  have hs0:=@sL p f 0
  have hf0:=@ed (fD p f 0)
  have hpt:=@Fa (e9 p f) (nF f) (mF p)
  have hfp:=@ed (ew (e9 p f) (nF f) (mF p))
  have hcast:∀k:Nat,((k:Nat):Int).toNat=k:=fun k=>Int.toNat_natCast k
  have hnf:nF f=(aI f 0).length:=rfl
  have hdl0:=@oz f 0
  refine⟨⟨eT p f,rfl,ZJ hfx⟩,fun h=>(by cases h),fun _=>⟨by omega,by omega,by omega,by omega,⟨⟨⟨trivial,by rw[hcast];rfl⟩,rfl,oC (by rw[uV,hf0,hs0,hcast])⟩,by omega,by omega⟩,?_⟩⟩
  rintro i ⟨i0,i1⟩
  have eW:=@uU (fL (fD p f 0)) i.toNat (false,([],[])) (by omega)
  refine⟨fun hi=>?_,fun hi=>?_⟩
  ·have hv:ae (fL (fD p f 0)) i.toNat (false,([],[]))=ah (if ae f i.toNat 0=1 then 1 else 0):=by rw[gl (by omega),ZN (by omega)]
   have hset:∀x:aW,x=ah (if ae f i.toNat 0=1 then 1 else 0)→(de (fL (fD p f 0)) i.toNat (false,([],[]))).set i.toNat x=de (fL (fD p f 0)) (i+1).toNat (false,([],[])):=fun x hx=>by
    have:=uX (d:=fL (fD p f 0)) (j:=i.toNat) (z:=(false,([],[]))) (x:=x) (by omega) (hx.trans hv.symm)
    rw[show(i+1).toNat=i.toNat+1 by omega]
    exact this
   rw[List.length_set]
   refine⟨i0,hi,by omega,by omega,by omega,i0,by omega,by omega,by omega,fun h1=>⟨by omega,by omega,i0,by omega,by omega,by omega,by omega,oC ?_,by omega,by omega⟩,fun h1=>⟨by omega,oC ?_,by omega,by omega⟩⟩
   ·rw[List.set_set]
    exact hset _ (by rw[if_pos h1])
   ·exact hset _ (by rw[if_neg h1])
  ·have hi2:i.toNat=(fL (fD p f 0)).length:=by omega
   rw[hi2,uW]
   refine⟨⟨oC rfl,by omega,by omega⟩,?_⟩
   rintro k ⟨k0,k1⟩
   have hsk:=@sL p f k.toNat
   have ZZ:=@ed (fD p f k.toNat)
   refine⟨fun hk=>?_,fun hk=>?_⟩
   ·have hm:=(mZ.1 (dQ (d:=0) (show k.toNat<(aI f 0).length by omega))).1
    have hv:ae (fL (ew (e9 p f) (nF f) (mF p))) k.toNat sF.dflt=ah (ae (ew (e9 p f) (nF f) (mF p)) k.toNat 0):=gl (by omega)
    have hst:=@ZM p f k.toNat (by omega)
    rw[hv]
    refine⟨k0,hk,by omega,k0,by omega,by omega,by omega,hm.1,by omega,by omega,by omega,by omega,oC ?_,by omega,by omega⟩
    rw[sJ,show(k+1).toNat=k.toNat+1 by omega,hst]
   ·have hk2:k.toNat=nF f:=by omega
    rw[hk2] at hsk ZZ ⊢
    have hab:=@Fp p hc f f.length hln
    rw[List.take_length] at hab
    have hsa:Sz 1 ((gR p f:Int):Rat):=by
     unfold Sz
     rw[Rat.num_intCast,Rat.den_intCast]
     omega
    have hsv:Sz 1000000 (e9 p f).value:=by
     have:=(E6 hfx).qm (LZ hfx).1
     exact this.2.2.2
    refine⟨⟨hc,hln⟩,⟨dm hsa (by omega),dm hsv (by omega)⟩,by omega,by omega,?_,hx0.symm⟩
    unfold fc u7 u9
    simp only[hok,if_true,cb]
    rfl
def oD (p:aE) (i k:Int):Bool:=decide (i≠k)&&(decide ((oI p i).bD=(oI p k).bD)&&((oI p i).want.le (oI p k).want&&(decide ((oI p k).value<(oI p i).value)||(decide ((oI p i).value=(oI p k).value)&&decide (i<k)))))
def kH (p:aE) (k:Int) (n:Nat):Bool:=(bW n).any fun i=>oD p i k
def jk (p:aE) (n:Nat):List Int:=(bW n).filter fun k=>kH p k p.offers.length
def eD (p:aE):List Int:=jk p p.offers.length
theorem MU {p:aE} {n:Nat}:(jk p n).length≤n:=by
 have:=List.length_filter_le (fun k=>kH p k p.offers.length) (bW n)
 rw[e8] at this
 exact this
theorem Z1 {p:aE} {k:Int} (h:0≤k):jk p (k+1).toNat=jk p k.toNat++if kH p k p.offers.length=true then[k] else[]:=by
 unfold jk
 rw[show(k+1).toNat=k.toNat+1 by omega,qi,List.filter_append,show((k.toNat:Nat):Int)=k by omega]
 congr 1
 simp only[List.filter_cons,List.filter_nil]
theorem Z2 {p:aE} {k i:Int} (h:0≤i):kH p k (i+1).toNat=(kH p k i.toNat||oD p i k):=by
 unfold kH
 rw[show(i+1).toNat=i.toNat+1 by omega,qi,List.any_append,show((i.toNat:Nat):Int)=i by omega]
 simp
theorem Z3 {p:aE} {k i:Int} (h0:0≤i) (h1:i<p.offers.length) (h:oD p i k=true):kH p k p.offers.length=true:=by
 unfold kH
 rw[List.any_eq_true]
 exact⟨i,lX.2 ⟨h0,h1⟩,h⟩
def FD:bf:=⟨90,aE×Int×Int,.cons ef (.cons (cT .i64) (.one (cT .i64))),fun a=>(0≤a.2.1∧a.2.1<a.1.offers.length)∧(0≤a.2.2∧a.2.2<a.1.offers.length),fun a=> .sb (oD a.1 a.2.1 a.2.2)⟩
theorem h391:Holds Tryz.prog FD:=by
 refine con (L:=[Dh]) FD w8 (fun _ _=> .look) (bu.none _) (by simpa using h144) (by kernel_rfl) (by kernel_rfl) (fun _=>rfl) ?_
 rintro⟨p,i,k⟩ ⟨⟨i0,i1⟩,k0,k1⟩
 simp only at i0 i1 k0 k1
 refine bh (let z0:=p.offers.length;let z1:=SV.sb (oD p i k);let z2:=ae p.offers i.toNat ai.off.dflt;let z3:=ae p.offers k.toNat ai.off.dflt;let z4:=decide (z2.bD≠z3.bD);let z5:=decide (z3.value<z2.value);let z6:=decide (z2.value=z3.value);(0:Int)≤i∧i<(↑z0:Int)∧i.toNat<z0∧(0:Int)≤k∧k<(↑z0:Int)∧k.toNat<z0∧(decide (i=k)=true→(SV.bl false).same z1)∧(decide (i=k)=false→(z4=true→(SV.bl false).same z1)∧(z4=false→True∧((!z2.want.le z3.want)=true→(SV.bl false).same z1)∧((!z2.want.le z3.want)=false→(z5=true→(SV.bl true).same z1)∧(z5=false→(z6=true→(SV.sb (decide (i<k))).same z1)∧(z6=false→(SV.bl false).same z1)))))) (by kernel_rfl) ?_
 simp only[vcs]
 have hi:ae p.offers i.toNat ai.off.dflt=oI p i:=rfl
 have hk:ae p.offers k.toNat ai.off.dflt=oI p k:=rfl
 simp only[hi,hk]
 refine⟨i0,i1,by omega,k0,k1,by omega,fun h=>?_,fun h=>⟨fun h2=>?_,fun h2=>⟨fun h3=>?_,fun h3=>⟨fun h4=>?_,fun h4=>⟨fun h5=>?_,fun h5=>?_⟩⟩⟩⟩⟩
 all_goals
  unfold oD
  simp_all
def AA:bf:=⟨56,aE,.one ef,fun p=>p.offers.length≤1000,fun p=> .row (.i .i64) (eD p)⟩
def Z4 (p:aE):Nat→bz
 |3=> .inv Int (fun k=>⟨[(1,.ptr 0 0 20),(3,.ow 1 (jk p k.toNat).length 1),(8,.si .i64 p.offers.length),(9,.si .i64 k)],[.cells p.ss 27 20 false,.row (.i .i64) (jk p k.toNat) 3 true]⟩)
   (fun s=>iS s 9) (fun k=>0≤k∧k≤p.offers.length) (fun k=>(p.offers.length - k).toNat) fun k j=>match j with
   |6=> .inv Int (fun i=>⟨[(1,.ptr 0 0 20),(3,.ow 1 (jk p k.toNat).length 1),(4,.si .i64 k),(8,.si .i64 p.offers.length),(9,.si .i64 k),(14,.si .i64 p.offers.length),(15,.si .i64 i)],[.cells p.ss 27 20 false,.row (.i .i64) (jk p k.toNat) 3 true]⟩)
     (fun s=>iS s 15) (fun i=>(0≤i∧i≤p.offers.length)∧kH p k i.toNat=false) (fun i=>(p.offers.length - i).toNat) fun _ _=> .look
   |_=> .look
 |_=> .look
theorem h386:Holds Tryz.prog AA:=by
 refine con (L:=[FD]) AA wW Z4 (bu.none _) (by simpa using h391) (by kernel_rfl) (by kernel_rfl) (fun _=>rfl) ?_
 intro(p:aE) (hp:p.offers.length≤1000)
 refine bh (let z0:=SV.ptr 0 0 20;let z1:=(↑p.offers.length:Int);let z2:=SV.si .i64 z1;let z3:=ai.i .i64;let z4:=af.cells [SV.si .i64 p.supply.a0,SV.si .i64 p.supply.a1,SV.si .i64 p.supply.a2,SV.si .i64 p.supply.a3,SV.si .i64 p.supply.a4,SV.si .i64 p.supply.a5,SV.si .i64 p.opn.a0,SV.si .i64 p.opn.a1,SV.si .i64 p.opn.a2,SV.si .i64 p.opn.a3,SV.si .i64 p.opn.a4,SV.si .i64 p.opn.a5,SV.si .i64 p.cls.a0,SV.si .i64 p.cls.a1,SV.si .i64 p.cls.a2,SV.si .i64 p.cls.a3,SV.si .i64 p.cls.a4,SV.si .i64 p.cls.a5,SV.row z3 p.classes,SV.row ai.off p.offers] 27 20 false;(((z0.same z0∧(SV.ow 1 0 1).same (SV.ow 1 (jk p 0).length 1)∧(SV.si .i64 (↑p.offers.length:Int)).same z2∧(SV.il .i64 0).same (SV.si .i64 0)∧True)∧z4.same z4∧(af.row z3 [] 3 true).same (af.row z3 (jk p 0) 3 true)∧True)∧(0:Int)≤(0:Int)∧(0:Int)≤z1)∧∀(x:Int),let z5:=jk p x.toNat;let z6:=SV.ow 1 z5.length 1;let z7:=af.row z3 z5 3 true;let z8:=z5.length+1;let z9:=x+(1:Int);let ak:=SV.ow 1 (jk p z9.toNat).length 1;let al:=SV.si .i64 z9;let z12:=af.row z3 (jk p z9.toNat) 3 true;(0:Int)≤x∧x≤z1→(decide (x<z1)=true→(((z0.same z0∧z6.same z6∧(SV.si .i64 x).same (SV.si .i64 x)∧z2.same z2∧(SV.si .i64 x).same (SV.si .i64 x)∧(SV.si .i64 (↑p.offers.length:Int)).same z2∧(SV.il .i64 0).same (SV.si .i64 0)∧True)∧z4.same z4∧z7.same z7∧True)∧((0:Int)≤(0:Int)∧(0:Int)≤z1)∧kH p x 0=false)∧∀(x_1:Int),let au:=x_1+(1:Int);let ar:=SV.si .i64 x;let ax:=SV.si .i64 au;((0:Int)≤x_1∧x_1≤z1)∧kH p x x_1.toNat=false→(decide (x_1<z1)=true→(((0:Int)≤x_1∧x_1<z1)∧(0:Int)≤x∧x<z1)∧(oD p x_1 x=true→z5.length=z5.length∧z8*8≤140737488355328∧z8≤1000000000000∧aC .i64 z9∧((z0.same z0∧(SV.ow 1 (z5++[x]).length 1).same ak∧z2.same z2∧al.same al∧True)∧z4.same z4∧(af.row z3 (z5++[x]) 3 true).same z12∧True)∧((0:Int)≤z9∧z9≤z1)∧(z1 - z9).toNat<(z1 - x).toNat)∧(oD p x_1 x=false→aC .i64 au∧((z0.same z0∧z6.same z6∧ar.same ar∧z2.same z2∧ar.same ar∧z2.same z2∧ax.same ax∧True)∧z4.same z4∧z7.same z7∧True)∧(((0:Int)≤au∧au≤z1)∧kH p x au.toNat=false)∧(z1 - au).toNat<(z1 - x_1).toNat))∧(decide (x_1<z1)=false→aC .i64 z9∧((z0.same z0∧z6.same ak∧z2.same z2∧al.same al∧True)∧z4.same z4∧z7.same z12∧True)∧((0:Int)≤z9∧z9≤z1)∧(z1 - z9).toNat<(z1 - x).toNat))∧(decide (x<z1)=false→z5.length=z5.length∧(SV.row z3 z5).same (SV.row z3 (eD p)))) (by kernel_rfl) ?_
 simp only[vcs]
 have hw:∀{a b:Nat},a=b→(SV.ow 1 a 1).same (SV.ow 1 b 1):=by rintro _ _ rfl;rfl
 have fa:∀{x y:List Int},x=y→(af.row (.i .i64) x 3 true).same (af.row (.i .i64) y 3 true):=by rintro _ _ rfl;rfl
 refine⟨⟨⟨hw rfl,fa rfl⟩,by omega,by omega⟩,?_⟩
 rintro k ⟨k0,k1⟩
 have hdl:=@MU p k.toNat
 have hds:=@Z1 p k k0
 refine⟨fun hk=>⟨⟨⟨by omega,by omega⟩,rfl⟩,?_⟩,fun hk=>?_⟩
 ·rintro i ⟨⟨i0,i1⟩,hn⟩
  have hks:=@Z2 p k i i0
  refine⟨fun hi=>⟨⟨⟨i0,hi⟩,k0,hk⟩,fun hd=>?_,fun hd=>?_⟩,fun hi=>?_⟩
  ·rw[if_pos (Z3 i0 hi hd)] at hds
   rw[hds]
   exact⟨by omega,by omega,by omega,⟨hw rfl,fa rfl⟩,by omega,by omega⟩
  ·rw[hn,hd] at hks
   exact⟨by omega,⟨⟨by omega,by omega⟩,hks⟩,by omega⟩
  ·rw[show i.toNat=p.offers.length by omega] at hn
   rw[hn,if_neg (by simp),List.append_nil] at hds
   rw[hds]
   exact⟨by omega,⟨hw rfl,fa rfl⟩,by omega,by omega⟩
 ·rw[show k.toNat=p.offers.length by omega]
  rfl
def FH:bf:=⟨30,aE,.one ef,fun _=>True,fun p=> .aD [.row (.i .i64) (if bw p=0 then eD p else[]),.si .i64 (bw p)]⟩
theorem h377:Holds Tryz.prog FH:=by
 refine con (L:=[nT,AA]) FH wR (fun _ _=> .look) (bu.none _) (by simpa using⟨h79,h386⟩) (by kernel_rfl) (by kernel_rfl) (fun _=>rfl) ?_
 rintro(p:aE) -
 refine bh (let z0:=decide (bw p≠(0:Int));let z1:=ai.i .i64;let z2:=[SV.si .i64 (bw p)];let z3:=SV.aD (SV.row z1 (if bw p=(0:Int) then eD p else[])::z2);True∧(z0=true→(SV.aD (SV.row z1 []::z2)).same z3)∧(z0=false→p.offers.length≤1000∧(SV.aD [SV.row z1 (eD p),SV.il .i64 0]).same z3)) (by kernel_rfl) ?_
 simp only[vcs]
 refine⟨fun h=>by rw[if_neg h],fun h=>?_⟩
 have hc:bw p=0:=Classical.not_not.1 h
 have:=(i6 hc).2.1
 rw[if_pos hc]
 exact⟨by omega,rfl,hc.symm⟩
def FI:bf:=⟨164,Int,.one (cT .i64),fun _=>True,fun _=> .sb false⟩
theorem h369:Holds Tryz.prog FI:=by
 refine con (L:=[]) FI wP (fun _ _=> .look) (bu.none _) (by simp) (by kernel_rfl) (by kernel_rfl) (fun _=>rfl) ?_
 rintro(x:Int) -
 refine bh ((SV.sb (decide (x≠x))).same (SV.sb false)) (by kernel_rfl) ?_
 simp[y8]
def FK:bf:=⟨137,Int,.one (cT .i64),fun _=>True,fun _=> .sb false⟩
theorem h397:Holds Tryz.prog FK:=by
 refine con (L:=[]) FK xg (fun _ _=> .look) (bu.none _) (by simp) (by kernel_rfl) (by kernel_rfl) (fun _=>rfl) ?_
 rintro(x:Int) -
 refine bh ((SV.sb (decide (x≠x))).same (SV.sb false)) (by kernel_rfl) ?_
 simp[y8]
def FM:bf:=⟨136,Int×Int,.cons (cT .i64) (.one (cT .i64)),fun _=>True,fun a=> .sb (decide (a.1<a.2))⟩
theorem h358:Holds Tryz.prog FM:=by
 refine con (L:=[FI]) FM wO (fun _ _=> .look) (bu.none _) (by simpa using h369) (by kernel_rfl) (by kernel_rfl) (fun _=>rfl) ?_
 rintro⟨x,y⟩ -
 refine bh (let z0:=SV.sb (decide (x<y));True∧(false=true→True∧(true=true→(SV.bl true).same z0)∧(true=false→(SV.sb (decide (x<y))).same z0))∧(false=false→(SV.sb (decide (x<y))).same z0)) (by kernel_rfl) ?_
 conv=>zeta
 simp[y8,y9]
def AB (l:List Int) (x:Int):Nat:=(l.filter fun y=>decide (y<x)).length
theorem Z5 {l:List Int} {x:Int} {i:Nat} (hs:l.Pairwise (·<·)) (hi:i≤l.length) (h1:∀k:Nat,k<i→ae l k 0<x) (h2:∀k:Nat,i≤k→k<l.length→x≤ae l k 0):AB l x=i∧(x∈l↔i<l.length∧ae l i 0=x):=by
 refine⟨?_,fun h=>?_,fun h=>?_⟩
 ·unfold AB
  have e:l.filter (fun y=>decide (y<x))=(l.take i).filter (fun y=>decide (y<x))++(l.drop i).filter (fun y=>decide (y<x)):=by rw[←List.filter_append,List.take_append_drop]
  rw[e,List.length_append,List.filter_eq_self.2,List.filter_eq_nil_iff.2,List.length_take]
  ·simp;omega
  ·intro y hy
   obtain⟨k,hk,rfl⟩:=List.getElem_of_mem hy
   rw[List.length_drop] at hk
   rw[List.getElem_drop]
   have:=h2 (i+k) (by omega) (by omega)
   rw[bF (by omega)] at this
   simp;omega
  ·intro y hy
   obtain⟨k,hk,rfl⟩:=List.getElem_of_mem hy
   rw[List.length_take] at hk
   rw[List.getElem_take]
   have:=h1 k (by omega)
   rw[bF (by omega)] at this
   simp;omega
 ·obtain⟨k,hk,rfl⟩:=List.getElem_of_mem h
  have hik:i≤k:=by
   rcases Nat.lt_or_ge k i with h3|h3
   ·have:=h1 k h3
    rw[bF hk] at this
    omega
   ·exact h3
  rcases Nat.eq_or_lt_of_le hik with h3|h3
  ·subst h3;exact⟨hk,bF hk⟩
  ·have h4:=h2 i (Nat.le_refl _) (by omega)
   rw[bF (show i<l.length by omega)] at h4
   have:=List.pairwise_iff_getElem.1 hs i k (by omega) hk h3
   omega
 ·rw[←h.2]
  exact dQ h.1
def FN:bf:=⟨89,List Int×Int,.cons (bR (.i .i64)) (.one (cT .i64)),fun a=>a.1.length≤1000000000000∧a.1.Pairwise (·<·),fun a=> .aD [.si .i64 (AB a.1 a.2),.sb (decide (a.2∈a.1))]⟩
def Z6 (l:List Int) (x:Int):Nat→bz
 |3=> .inv (Int×Int) (fun y=>⟨[(0,.row (.i .i64) l),(1,.si .i64 x),(6,.si .i64 l.length),(7,.si .i64 y.1),(8,.si .i64 y.2)],[]⟩)
   (fun s=>(iS s 7,iS s 8)) (fun y=>(0≤y.1∧y.1≤y.2∧y.2≤l.length)∧(∀k:Nat,k<y.1→ae l k 0<x)∧∀k:Nat,y.2≤k→k<l.length→x≤ae l k 0) (fun y=>(y.2 - y.1).toNat) fun _ _=> .look
 |_=> .look
theorem h392:Holds Tryz.prog FN:=by
 refine con (L:=[FM,FK]) FN w9 (fun a=>Z6 a.1 a.2) (bu.none _) (by simpa using⟨h358,h397⟩) (by kernel_rfl) (by kernel_rfl) (fun _=>rfl) ?_
 rintro⟨l,x⟩ ⟨hl,hs⟩
 simp only at hl hs
 refine bh (let z0:=SV.row (ai.i .i64) l;let z1:=(↑l.length:Int);let z2:=SV.si .i64 z1;let z3:=(↑l.length:Int);let z4:=SV.si .i64 z3;let z5:=SV.aD [SV.si .i64 (↑(AB l x):Int),SV.sb (decide (x∈l))];(((z0.same z0∧(SV.si .i64 x).same (SV.si .i64 x)∧z2.same z4∧(SV.il .i64 0).same (SV.si .i64 0)∧z2.same z2∧True)∧True)∧((0:Int)≤(0:Int)∧(0:Int)≤z1∧z1≤z3)∧(∀(k:Nat),(↑k:Int)<(0:Int)→ae l k (0:Int)<x)∧∀(k:Nat),z1≤(↑k:Int)→k<l.length→x≤ae l k (0:Int))∧∀(x_1:Int×Int),let z6:=decide (x_1.fst<x_1.snd);let z7:=x_1.fst+x_1.snd;let z8:=z7 / (2:Int);let z9:=decide (ae l z8.toNat (0:Int)<x);let ak:=z8+(1:Int);let al:=SV.si .i64 x;let z12:=SV.si .i64 ak;let au:=SV.si .i64 x_1.snd;let ar:=(x_1.snd - x_1.fst).toNat;let ax:=SV.si .i64 x_1.fst;let ay:=SV.si .i64 z8;let z17:=decide (ae l x_1.fst.toNat (0:Int)=x);(((0:Int)≤x_1.fst∧x_1.fst≤x_1.snd∧x_1.snd≤z3)∧(∀(k:Nat),(↑k:Int)<x_1.fst→ae l k (0:Int)<x)∧∀(k:Nat),x_1.snd≤(↑k:Int)→k<l.length→x≤ae l k (0:Int))→(z6=true→aC .i64 z7∧aC .u64 z7∧(0:Int)≤(1:Int)∧(1:Int)≤(64:Int)∧aC .i64 z8∧(0:Int)≤z8∧z8<z1∧z8.toNat<l.length∧True∧(z9=true→aC .i64 ak∧((z0.same z0∧al.same al∧z4.same z4∧z12.same z12∧au.same au∧True)∧True)∧(((0:Int)≤ak∧ak≤x_1.snd∧x_1.snd≤z3)∧(∀(k:Nat),(↑k:Int)<ak→ae l k (0:Int)<x)∧∀(k:Nat),x_1.snd≤(↑k:Int)→k<l.length→x≤ae l k (0:Int))∧(x_1.snd - ak).toNat<ar)∧(z9=false→((z0.same z0∧al.same al∧z4.same z4∧ax.same ax∧ay.same ay∧True)∧True)∧(((0:Int)≤x_1.fst∧x_1.fst≤z8∧z8≤z3)∧(∀(k:Nat),(↑k:Int)<x_1.fst→ae l k (0:Int)<x)∧∀(k:Nat),z8≤(↑k:Int)→k<l.length→x≤ae l k (0:Int))∧(z8 - x_1.fst).toNat<ar))∧(z6=false→(decide (x_1.fst<z3)=true→(0:Int)≤x_1.fst∧x_1.fst<z1∧x_1.fst.toNat<l.length∧(z17=true→(SV.aD [ax,SV.bl true]).same z5)∧(z17=false→(0:Int)≤x_1.fst∧x_1.fst<z1∧x_1.fst.toNat<l.length∧True∧(false=true→True∧(SV.aD [ax,SV.sb false]).same z5)∧(false=false→(SV.aD [ax,SV.bl false]).same z5)))∧(decide (x_1.fst<z3)=false→(SV.aD [ax,SV.bl false]).same z5))) (by kernel_rfl) ?_
 simp only[vcs]
 refine⟨⟨⟨by omega,by omega,by omega⟩,fun k hk=>by omega,fun k h1 h2=>by omega⟩,?_⟩
 rintro⟨i,j⟩ ⟨⟨a0,a1,a2⟩,b1,b2⟩
 simp only at a0 a1 a2 b1 b2 ⊢
 have hmono:∀a b:Nat,a≤b→b<l.length→ae l a 0≤ae l b 0:=fun a b h1 h2=>by
  rw[bF (by omega),bF h2]
  rcases Nat.eq_or_lt_of_le h1 with h|h
  ·subst h;exact Int.le_refl _
  ·exact Int.le_of_lt (List.pairwise_iff_getElem.1 hs a b (by omega) h2 h)
 refine⟨fun hlt=>?_,fun hge=>?_⟩
 ·refine⟨by omega,u64_in (by omega) (by omega),by omega,by omega,by omega,by omega,by omega,by omega,fun h1=>⟨by omega,⟨⟨by omega,by omega,a2⟩,fun k hk=>?_,b2⟩,by omega⟩,fun h1=>⟨⟨⟨a0,by omega,by omega⟩,b1,fun k hk hk2=>?_⟩,by omega⟩⟩
  ·have:=hmono k ((i+j) / 2).toNat (by omega) (by omega)
   omega
  ·have:=hmono ((i+j) / 2).toNat k (by omega) hk2
   omega
 ·have hij:i=j:=by omega
  subst hij
  obtain⟨q1,q2⟩:=@Z5 l x i.toNat hs (by omega) (fun k hk=>b1 k (by omega)) (fun k hk=>b2 k (by omega))
  refine⟨fun h1=>⟨a0,h1,by omega,fun h2=>⟨by omega,(decide_eq_true (q2.2 ⟨by omega,h2⟩)).symm⟩,fun h2=>⟨a0,h1,by omega,fun h=>(by cases h),fun _=>⟨by omega,(decide_eq_false fun h3=>h2 (q2.1 h3).2).symm⟩⟩⟩,fun h1=>⟨by omega,(decide_eq_false fun h3=>h1 (by have:=(q2.1 h3).1;omega)).symm⟩⟩
def gU (p:aE) (l:List Int) (n:Nat):List Int:=(bW n).filter fun i=>decide (i∉l)
def cH (p:aE) (l:List Int):List Int:=gU p l p.offers.length
def eE (p:aE) (l:List Int):aE:={p with offers:=(cH p l).map (oI p)}
theorem MV {p:aE} {l:List Int} {n:Nat}:(gU p l n).length≤n:=by
 have:=List.length_filter_le (fun i=>decide (i∉l)) (bW n)
 rw[e8] at this
 exact this
theorem Z7 {p:aE} {l:List Int} {i:Int} (h:0≤i):gU p l (i+1).toNat=gU p l i.toNat++if i∈l then[] else[i]:=by
 unfold gU
 rw[show(i+1).toNat=i.toNat+1 by omega,qi,List.filter_append,show((i.toNat:Nat):Int)=i by omega]
 congr 1
 simp only[List.filter_cons,List.filter_nil]
 by_cases hi:i∈l<;>simp[hi]
def AC:bf:=⟨55,aE×List Int,.cons ef (.one (bR (.i .i64))),fun a=>(a.1.offers.length≤1000∧a.1.classes.length≤1000)∧a.2.length≤1000000000000∧a.2.Pairwise (·<·),fun a=> .aD [.agg (eE a.1 a.2).ss,.row (.i .i64) (cH a.1 a.2)]⟩
def Z8 (p:aE) (k:List Int):a8:=[.cells p.ss 27 20 false,.cells [.il .i64 0,.il .i64 0,.il .i64 0,.il .i64 0,.il .i64 0,.il .i64 0,.il .i64 0,.il .i64 0,.il .i64 0,.il .i64 0,.il .i64 0,.il .i64 0,.il .i64 0,.il .i64 0,.il .i64 0,.il .i64 0,.il .i64 0,.il .i64 0,.sc (.slice none 0 0),.sc (.slice none 0 0)] 27 20 false,
 .cells [.si .i64 p.supply.a0,.si .i64 p.supply.a1,.si .i64 p.supply.a2,.si .i64 p.supply.a3,.si .i64 p.supply.a4,.si .i64 p.supply.a5,
  .si .i64 p.opn.a0,.si .i64 p.opn.a1,.si .i64 p.opn.a2,.si .i64 p.opn.a3,.si .i64 p.opn.a4,.si .i64 p.opn.a5,
  .si .i64 p.cls.a0,.si .i64 p.cls.a1,.si .i64 p.cls.a2,.si .i64 p.cls.a3,.si .i64 p.cls.a4,.si .i64 p.cls.a5,
  .row (.i .i64) p.classes,.ow 3 k.length 8] 27 20 false,.row .off (k.map (oI p)) 58 true,.row (.i .i64) k 3 true]
def Z9 (p:aE) (l:List Int):Nat→bz
 |6=> .inv Int (fun i=>⟨[(1,.row (.i .i64) l),(4,.ptr 1 0 20),(6,.ptr 2 0 20),(7,.ow 4 (gU p l i.toNat).length 1),(19,.row .off p.offers),(20,.si .i64 p.offers.length),(21,.si .i64 i)],Z8 p (gU p l i.toNat)⟩)
   (fun s=>iS s 21) (fun i=>0≤i∧i≤p.offers.length) (fun i=>(p.offers.length - i).toNat) fun _ _=> .look
 |_=> .look
theorem h388:Holds Tryz.prog AC:=by
 refine con (L:=[zQ,FN]) AC wX (fun a=>Z9 a.1 a.2) (bu.none _) (by simpa using⟨h330,h392⟩) (by kernel_rfl) (by kernel_rfl) (fun _=>rfl) ?_
 rintro⟨p,l⟩ ⟨⟨hp,hcl⟩,hl,hs⟩
 simp only at hp hcl hl hs
 refine bh (let z0:=ai.i .i64;let z1:=SV.ptr 1 0 20;let z2:=SV.ptr 2 0 20;let z3:=(gU p l 0).length;let z4:=SV.row ai.off p.offers;let z5:=(↑p.offers.length:Int);let z6:=(↑p.offers.length:Int);let z7:=SV.si .i64 z6;let z8:=SV.il .i64 0;let z9:=SV.si .i64 p.supply.a0;let ak:=SV.si .i64 p.supply.a1;let al:=SV.si .i64 p.supply.a2;let z12:=SV.si .i64 p.supply.a3;let au:=SV.si .i64 p.supply.a4;let ar:=SV.si .i64 p.supply.a5;let ax:=SV.si .i64 p.opn.a0;let ay:=SV.si .i64 p.opn.a1;let z17:=SV.si .i64 p.opn.a2;let aG:=SV.si .i64 p.opn.a3;let aH:=SV.si .i64 p.opn.a4;let z20:=SV.si .i64 p.opn.a5;let z21:=SV.si .i64 p.cls.a0;let z22:=SV.si .i64 p.cls.a1;let z23:=SV.si .i64 p.cls.a2;let z24:=SV.si .i64 p.cls.a3;let z25:=SV.si .i64 p.cls.a4;let z26:=SV.si .i64 p.cls.a5;let z27:=SV.row z0 p.classes;let z28:=af.cells [z9,ak,al,z12,au,ar,ax,ay,z17,aG,aH,z20,z21,z22,z23,z24,z25,z26,z27,z4] 27 20 false;let z29:=SV.sc (Value.slice none 0 0);let z30:=af.cells [z8,z8,z8,z8,z8,z8,z8,z8,z8,z8,z8,z8,z8,z8,z8,z8,z8,z8,z29,z29] 27 20 false;let z31:=af.row ai.off [] 58 true;let z32:=(eE p l).supply;let z33:=(eE p l).opn;let z34:=(eE p l).cls;p.classes.length≤1000000∧((((SV.row z0 l).same (SV.row z0 l)∧z1.same z1∧z2.same z2∧(SV.ow 4 0 1).same (SV.ow 4 z3 1)∧z4.same z4∧(SV.si .i64 z5).same z7∧z8.same (SV.si .i64 0)∧True)∧z28.same z28∧z30.same z30∧(af.cells [z9,ak,al,z12,au,ar,ax,ay,z17,aG,aH,z20,z21,z22,z23,z24,z25,z26,z27,SV.ow 3 0 8] 27 20 false).same (af.cells [z9,ak,al,z12,au,ar,ax,ay,z17,aG,aH,z20,z21,z22,z23,z24,z25,z26,z27,SV.ow 3 z3 8] 27 20 false)∧z31.same z31∧(af.row z0 [] 3 true).same (af.row z0 (gU p l 0) 3 true)∧True)∧(0:Int)≤(0:Int)∧(0:Int)≤z6)∧∀(x:Int),let z35:=gU p l x.toNat;let z36:=z35.length;let z37:=List.map (oI p) z35;let z38:=z37.length+1;let z39:=z35.length+1;let z40:=x+(1:Int);let z41:=gU p l z40.toNat;let z42:=SV.ow 4 z41.length 1;let z43:=SV.si .i64 z40;let z44:=z37++[ae p.offers x.toNat ai.off.dflt];let z45:=af.cells [z9,ak,al,z12,au,ar,ax,ay,z17,aG,aH,z20,z21,z22,z23,z24,z25,z26,z27,SV.ow 3 z41.length 8] 27 20 false;let z46:=af.row ai.off (List.map (oI p) z41) 58 true;let z47:=af.row z0 z41 3 true;(0:Int)≤x∧x≤z6→(decide (x<z6)=true→(0:Int)≤x∧x<z5∧x.toNat<p.offers.length∧(l.length≤1000000000000∧List.Pairwise (fun x1 x2 ↦x1<x2) l)∧((!decide (x∈l))=true→1=1∧z36=z37.length∧z38*64≤140737488355328∧z38≤1000000000000∧z36=z35.length∧z39*8≤140737488355328∧z39≤1000000000000∧aC .i64 z40∧(((SV.row z0 l).same (SV.row z0 l)∧z1.same z1∧z2.same z2∧(SV.ow 4 (z35++[x]).length 1).same z42∧z4.same z4∧z7.same z7∧z43.same z43∧True)∧z28.same z28∧z30.same z30∧(af.cells [z9,ak,al,z12,au,ar,ax,ay,z17,aG,aH,z20,z21,z22,z23,z24,z25,z26,z27,SV.ow 3 z44.length 8] 27 20 false).same z45∧(af.row ai.off z44 58 true).same z46∧(af.row z0 (z35++[x]) 3 true).same z47∧True)∧((0:Int)≤z40∧z40≤z6)∧(z6 - z40).toNat<(z6 - x).toNat)∧((!decide (x∈l))=false→aC .i64 z40∧(((SV.row z0 l).same (SV.row z0 l)∧z1.same z1∧z2.same z2∧(SV.ow 4 z36 1).same z42∧z4.same z4∧z7.same z7∧z43.same z43∧True)∧z28.same z28∧z30.same z30∧(af.cells [z9,ak,al,z12,au,ar,ax,ay,z17,aG,aH,z20,z21,z22,z23,z24,z25,z26,z27,SV.ow 3 z36 8] 27 20 false).same z45∧(af.row ai.off z37 58 true).same z46∧(af.row z0 z35 3 true).same z47∧True)∧((0:Int)≤z40∧z40≤z6)∧(z6 - z40).toNat<(z6 - x).toNat))∧(decide (x<z6)=false→z36=z37.length∧z36=z35.length∧(SV.aD [SV.agg [z9,ak,al,z12,au,ar,ax,ay,z17,aG,aH,z20,z21,z22,z23,z24,z25,z26,z27,SV.row ai.off z37],SV.row z0 z35]).same (SV.aD [SV.agg [SV.si .i64 z32.a0,SV.si .i64 z32.a1,SV.si .i64 z32.a2,SV.si .i64 z32.a3,SV.si .i64 z32.a4,SV.si .i64 z32.a5,SV.si .i64 z33.a0,SV.si .i64 z33.a1,SV.si .i64 z33.a2,SV.si .i64 z33.a3,SV.si .i64 z33.a4,SV.si .i64 z33.a5,SV.si .i64 z34.a0,SV.si .i64 z34.a1,SV.si .i64 z34.a2,SV.si .i64 z34.a3,SV.si .i64 z34.a4,SV.si .i64 z34.a5,SV.row z0 (eE p l).classes,SV.row ai.off (eE p l).offers],SV.row z0 (cH p l)]))) (by kernel_rfl) ?_
 simp only[vcs]
 have hw4:∀{a b:Nat},a=b→(SV.ow 4 a 1).same (SV.ow 4 b 1):=by rintro _ _ rfl;rfl
 have fa:∀{x y:List Int},x=y→(af.row (.i .i64) x 3 true).same (af.row (.i .i64) y 3 true):=by rintro _ _ rfl;rfl
 have qq:∀{x y:List Off},x=y→(af.row .off x 58 true).same (af.row .off y 58 true):=by rintro _ _ rfl;rfl
 have hcell:∀{a b:Nat},a=b→(af.cells [.si .i64 p.supply.a0,.si .i64 p.supply.a1,.si .i64 p.supply.a2,.si .i64 p.supply.a3,.si .i64 p.supply.a4,.si .i64 p.supply.a5,
  .si .i64 p.opn.a0,.si .i64 p.opn.a1,.si .i64 p.opn.a2,.si .i64 p.opn.a3,.si .i64 p.opn.a4,.si .i64 p.opn.a5,
  .si .i64 p.cls.a0,.si .i64 p.cls.a1,.si .i64 p.cls.a2,.si .i64 p.cls.a3,.si .i64 p.cls.a4,.si .i64 p.cls.a5,
  .row (.i .i64) p.classes,.ow 3 a 8] 27 20 false).same (af.cells [.si .i64 p.supply.a0,.si .i64 p.supply.a1,.si .i64 p.supply.a2,.si .i64 p.supply.a3,.si .i64 p.supply.a4,.si .i64 p.supply.a5,
  .si .i64 p.opn.a0,.si .i64 p.opn.a1,.si .i64 p.opn.a2,.si .i64 p.opn.a3,.si .i64 p.opn.a4,.si .i64 p.opn.a5,
  .si .i64 p.cls.a0,.si .i64 p.cls.a1,.si .i64 p.cls.a2,.si .i64 p.cls.a3,.si .i64 p.cls.a4,.si .i64 p.cls.a5,
  .row (.i .i64) p.classes,.ow 3 b 8] 27 20 false):=by rintro _ _ rfl;rfl
 refine⟨by omega,⟨⟨hw4 rfl,hcell rfl,fa rfl⟩,by omega,by omega⟩,?_⟩
 rintro i ⟨i0,i1⟩
 have hk:=@MV p l i.toNat
 have hsu:=@Z7 p l i i0
 have hml:(List.map (oI p) (gU p l i.toNat)).length=(gU p l i.toNat).length:=List.length_map _
 refine⟨fun hi=>⟨i0,hi,by omega,⟨hl,hs⟩,fun hm=>?_,fun hm=>?_⟩,fun hi=>?_⟩
 ·rw[if_neg hm] at hsu
  have e:List.map (oI p) (gU p l i.toNat)++[ae p.offers i.toNat ai.off.dflt]=List.map (oI p) (gU p l (i+1).toNat):=by rw[hsu,List.map_append];rfl
  rw[e,←hsu,hml,List.length_map]
  exact⟨rfl,by omega,by omega,by omega,by omega,by omega,⟨hw4 rfl,hcell rfl,qq rfl,fa rfl⟩,by omega,by omega⟩
 ·rw[if_pos hm,List.append_nil] at hsu
  rw[hsu]
  exact⟨by omega,⟨hw4 rfl,hcell rfl,qq rfl,fa rfl⟩,by omega,by omega⟩
 ·rw[show i.toNat=p.offers.length by omega] at hml ⊢
  exact⟨hml.symm,rfl,rfl⟩
def ve:aE:=⟨.zero,.zero,.zero,[],[]⟩
def j7 (p:aE) (l:List Int):Int:=if bw p≠0 then bw p else if zh p l=true then 0 else 4
def lu (p:aE) (l:List Int):aE:=if j7 p l=0 then eE p l else ve
def FO:bf:=⟨31,aE×List Int,.cons ef (.one (bR (.i .i64))),fun a=>a.2.length≤1000000000000,fun a=> .aD [.agg (lu a.1 a.2).ss,.row (.i .i64) (if j7 a.1 a.2=0 then cH a.1 a.2 else[]),.si .i64 (j7 a.1 a.2)]⟩
def aac (p:aE) (l:List Int):Nat→bz
 |6=> .inv (Int×Int) (fun x=>⟨[(1,.row (.i .i64) l),(2,.ptr 0 0 20),(4,.ptr 1 0 20),(8,.si .i64 x.2),(19,.row (.i .i64) l),(20,.si .i64 l.length),(21,.si .i64 x.1)],[.cells p.ss 27 20 false,.cells [.il .i64 0,.il .i64 0,.il .i64 0,.il .i64 0,.il .i64 0,.il .i64 0,.il .i64 0,.il .i64 0,.il .i64 0,.il .i64 0,.il .i64 0,.il .i64 0,.il .i64 0,.il .i64 0,.il .i64 0,.il .i64 0,.il .i64 0,.il .i64 0,.sc (.slice none 0 0),.sc (.slice none 0 0)] 27 20 false]⟩)
   (fun s=>(iS s 21,iS s 8)) (fun x=>(0≤x.1∧x.1≤l.length)∧(-1≤x.2∧x.2<1000)∧(lO p.offers (-1) l).isSome=(lO p.offers x.2 (l.drop x.1.toNat)).isSome) (fun x=>(l.length - x.1).toNat) fun _ _=> .look
 |_=> .look
theorem h379:Holds Tryz.prog FO:=by
 refine con (L:=[nT,AC]) FO wS (fun a=>aac a.1 a.2) (bu.none _) (by simpa using⟨h79,h388⟩) (by kernel_rfl) (by kernel_rfl) (fun _=>rfl) ?_
 rintro⟨p,l⟩ (hl:l.length≤1000000000000)
 refine bh (let z0:=decide (bw p≠(0:Int));let z1:=SV.il .i64 0;let z2:=ai.i .i64;let z3:=SV.row z2 [];let z4:=SV.agg [z1,z1,z1,z1,z1,z1,z1,z1,z1,z1,z1,z1,z1,z1,z1,z1,z1,z1,z3,z3];let z5:=(lu p l).supply;let z6:=(lu p l).opn;let z7:=(lu p l).cls;let z8:=SV.aD [SV.agg [SV.si .i64 z5.a0,SV.si .i64 z5.a1,SV.si .i64 z5.a2,SV.si .i64 z5.a3,SV.si .i64 z5.a4,SV.si .i64 z5.a5,SV.si .i64 z6.a0,SV.si .i64 z6.a1,SV.si .i64 z6.a2,SV.si .i64 z6.a3,SV.si .i64 z6.a4,SV.si .i64 z6.a5,SV.si .i64 z7.a0,SV.si .i64 z7.a1,SV.si .i64 z7.a2,SV.si .i64 z7.a3,SV.si .i64 z7.a4,SV.si .i64 z7.a5,SV.row z2 (lu p l).classes,SV.row ai.off (lu p l).offers],SV.row z2 (if j7 p l=(0:Int) then cH p l else[]),SV.si .i64 (j7 p l)];let z9:=SV.ptr 0 0 20;let ak:=SV.ptr 1 0 20;let al:=(↑l.length:Int);let z12:=SV.si .i64 al;let au:=af.cells [SV.si .i64 p.supply.a0,SV.si .i64 p.supply.a1,SV.si .i64 p.supply.a2,SV.si .i64 p.supply.a3,SV.si .i64 p.supply.a4,SV.si .i64 p.supply.a5,SV.si .i64 p.opn.a0,SV.si .i64 p.opn.a1,SV.si .i64 p.opn.a2,SV.si .i64 p.opn.a3,SV.si .i64 p.opn.a4,SV.si .i64 p.opn.a5,SV.si .i64 p.cls.a0,SV.si .i64 p.cls.a1,SV.si .i64 p.cls.a2,SV.si .i64 p.cls.a3,SV.si .i64 p.cls.a4,SV.si .i64 p.cls.a5,SV.row z2 p.classes,SV.row ai.off p.offers] 27 20 false;let ar:=SV.sc (Value.slice none 0 0);let ax:=af.cells [z1,z1,z1,z1,z1,z1,z1,z1,z1,z1,z1,z1,z1,z1,z1,z1,z1,z1,ar,ar] 27 20 false;let ay:=(lO p.offers (-1:Int) l).isSome;let z17:=(eE p l).supply;let aG:=(eE p l).opn;let aH:=(eE p l).cls;True∧(z0=true→(SV.aD [z4,z3,SV.si .i64 (bw p)]).same z8)∧(z0=false→((((SV.row z2 l).same (SV.row z2 l)∧z9.same z9∧ak.same ak∧(SV.il .i64 (-1:Int)).same (SV.si .i64 (-1:Int))∧(SV.row z2 l).same (SV.row z2 l)∧(SV.si .i64 (↑l.length:Int)).same z12∧z1.same (SV.si .i64 0)∧True)∧au.same au∧ax.same ax∧True)∧((0:Int)≤(0:Int)∧(0:Int)≤al)∧((-1:Int)≤(-1:Int)∧(-1:Int)<(1000:Int))∧ay=ay)∧∀(x:Int×Int),let z20:=decide (x.fst<al);let z21:=ae l x.fst.toNat (0:Int);let z22:=decide (z21≤x.snd);let z23:=decide ((↑p.offers.length:Int)≤z21);let z24:=x.fst+(1:Int);let z25:=SV.si .i64 z21;let z26:=SV.si .i64 z24;((0:Int)≤x.fst∧x.fst≤al)∧((-1:Int)≤x.snd∧x.snd<(1000:Int))∧ay=(lO p.offers x.snd (List.drop x.fst.toNat l)).isSome→(z20=true→(0:Int)≤x.fst∧x.fst<(↑l.length:Int)∧x.fst.toNat<l.length∧(z22=true→(SV.aD [z4,z3,SV.il .i64 4]).same z8)∧(z22=false→(z23=true→(SV.aD [z4,z3,SV.il .i64 4]).same z8)∧(z23=false→aC .i64 z24∧(((SV.row z2 l).same (SV.row z2 l)∧z9.same z9∧ak.same ak∧z25.same z25∧(SV.row z2 l).same (SV.row z2 l)∧z12.same z12∧z26.same z26∧True)∧au.same au∧ax.same ax∧True)∧(((0:Int)≤z24∧z24≤al)∧((-1:Int)≤z21∧z21<(1000:Int))∧ay=(lO p.offers z21 (List.drop z24.toNat l)).isSome)∧(al - z24).toNat<(al - x.fst).toNat)))∧(z20=false→((p.offers.length≤1000∧p.classes.length≤1000)∧l.length≤1000000000000∧List.Pairwise (fun x1 x2 ↦x1<x2) l)∧(SV.aD [SV.agg [SV.si .i64 z17.a0,SV.si .i64 z17.a1,SV.si .i64 z17.a2,SV.si .i64 z17.a3,SV.si .i64 z17.a4,SV.si .i64 z17.a5,SV.si .i64 aG.a0,SV.si .i64 aG.a1,SV.si .i64 aG.a2,SV.si .i64 aG.a3,SV.si .i64 aG.a4,SV.si .i64 aG.a5,SV.si .i64 aH.a0,SV.si .i64 aH.a1,SV.si .i64 aH.a2,SV.si .i64 aH.a3,SV.si .i64 aH.a4,SV.si .i64 aH.a5,SV.row z2 (eE p l).classes,SV.row ai.off (eE p l).offers],SV.row z2 (cH p l),z1]).same z8))) (by kernel_rfl) ?_
 simp only[vcs]
 have hz:j7 p l≠0→lu p l=ve:=fun h=>by unfold lu;rw[if_neg h]
 refine⟨fun h=>?_,fun h=>?_⟩
 ·have e:j7 p l=bw p:=by unfold j7;rw[if_pos h]
  rw[hz (by rw[e];exact h),e,if_neg h]
  exact⟨rfl,rfl,rfl⟩
 ·have hc:bw p=0:=Classical.not_not.1 h
  have hg:=i6 hc
  have e:j7 p l=if zh p l=true then 0 else 4:=by unfold j7;rw[if_neg h]
  refine⟨⟨by omega,by omega,by simp⟩,?_⟩
  rintro⟨i,last⟩ ⟨⟨i0,i1⟩,⟨q1,q2⟩,hi⟩
  simp only at i0 i1 q1 q2 hi ⊢
  have bad:zh p l=false→j7 p l=4∧lu p l=ve:=fun hb=>by
   rw[hb] at e
   exact⟨e,hz (by rw[e];decide)⟩
  refine⟨fun hlt=>?_,fun hge=>?_⟩
  ·rw[pT (d:=0) i0 hlt] at hi
   generalize hx:ae l i.toNat 0=x at hi ⊢
   simp only[lO] at hi
   refine⟨i0,hlt,by omega,fun h1=>?_,fun h1=>⟨fun h2=>?_,fun h2=>?_⟩⟩
   ·rw[if_pos (.inl h1)] at hi
    obtain⟨e1,e2⟩:=bad hi
    rw[e2,e1,if_neg (by decide)]
    exact⟨rfl,rfl,rfl⟩
   ·rw[if_pos (.inr (by omega))] at hi
    obtain⟨e1,e2⟩:=bad hi
    rw[e2,e1,if_neg (by decide)]
    exact⟨rfl,rfl,rfl⟩
   ·rw[if_neg (by omega),Option.isSome_map] at hi
    have:=hg.2.1
    exact⟨by omega,⟨⟨by omega,by omega⟩,⟨by omega,by omega⟩,hi⟩,by omega⟩
  ·rw[show i.toNat=l.length from by omega,List.drop_length] at hi
   have hok:zh p l=true:=hi
   rw[hok] at e
   have e0:j7 p l=0:=e
   have eq:lu p l=eE p l:=by unfold lu;rw[if_pos e0]
   obtain⟨r,hr⟩:=Option.isSome_iff_exists.1 hok
   rw[eq,e0,if_pos rfl]
   exact⟨⟨⟨by have:=hg.2.1;omega,by have:=hg.1;omega⟩,hl,(JK (by omega) hr).1⟩,rfl,rfl,rfl⟩
end Go.Vi
