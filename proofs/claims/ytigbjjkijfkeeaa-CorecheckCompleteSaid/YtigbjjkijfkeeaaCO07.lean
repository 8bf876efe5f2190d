/-
  Contracts: a new solver; the worth of a coalition.
  Conditions: none.
-/
import Derived.Test.YtigbjjkijfkeeaaCO06
import Derived.KernelRfl
set_option maxRecDepth 100000
set_option maxHeartbeats 4000000
set_option linter.unusedSimpArgs false
set_option linter.unusedVariables false
namespace Go.Vi
open Go.Proofs.Ytigbjjkijfkeeaa.Ir
open Go.Proofs
def r113:OCtr where
 f:=113
 α:=Prob
 put p:=[codP.put p]
 st _:=[]
 dec v o:=match v,o with
  |[v],[]=>codP.dec v
  |_,_=>none
 ok v o a h:=by
  split at h
  ·exact⟨by simp only[gL,codP.ok _ _ h],rfl⟩
  ·cases h
 inj a b h _:=by
  simp only[gL,List.cons.injEq,and_true] at h
  exact codP.inj _ _ h
 dom p:=Good p
 res _:=.ptr 0 0 29
 out p:=Sol.o ⟨p,L8.of p,[]⟩
def sp113:Nat→Option (Nat×Nat×Nat)
 |5=>some (11,0,8)
 |_=>none
def byT (p:Prob) (i:Int) (j:Int):List Off:=(p.offers.take i.toNat).filter fun x=>decide (x.bidder=j)
def Λ113 (p:Prob):Nat→LoopAnn
 |3=> .inv Int (fun i=>⟨[(3,.ptr 2 0 29),(11,.row .off p.offers),(12,.si .i64 p.offers.length),(13,.si .i64 i)],
  [.cells p.ss 27 20 false,.map .sit (.i .i64) true [] ([0,0,0,0,0,0,0,0,0,0,0,0,0],true) true,
   .cells [.si .i64 p.supply.a0,.si .i64 p.supply.a1,.si .i64 p.supply.a2,.si .i64 p.supply.a3,.si .i64 p.supply.a4,.si .i64 p.supply.a5,
    .si .i64 p.opn.a0,.si .i64 p.opn.a1,.si .i64 p.opn.a2,.si .i64 p.opn.a3,.si .i64 p.opn.a4,.si .i64 p.opn.a5,
    .si .i64 p.cls.a0,.si .i64 p.cls.a1,.si .i64 p.cls.a2,.si .i64 p.cls.a3,.si .i64 p.cls.a4,.si .i64 p.cls.a5,
    .row (.i .i64) p.classes,.row .off p.offers,.ow 3 (byT p i 0).length 8,.ow 4 (byT p i 1).length 8,.ow 5 (byT p i 2).length 8,.ow 6 (byT p i 3).length 8,.ow 7 (byT p i 4).length 8,.ow 8 (byT p i 5).length 8,.ow 9 (byT p i 6).length 8,.ow 10 (byT p i 7).length 8,.mp 1] 174 29 false,
   .row .off (byT p i 0) 43 true,.row .off (byT p i 1) 43 true,.row .off (byT p i 2) 43 true,.row .off (byT p i 3) 43 true,.row .off (byT p i 4) 43 true,.row .off (byT p i 5) 43 true,.row .off (byT p i 6) 43 true,.row .off (byT p i 7) 43 true]⟩)
  (fun s=>iS s 13) (fun i=>0≤i∧i≤p.offers.length) (fun i=>(p.offers.length - i).toNat) fun _ _=> .look
 |_=> .look
theorem byT_hit {p:Prob} {i:Int} {j:Int} (h0:0≤i) (h1:i<p.offers.length) (h:(nthD p.offers i.toNat SId.off.dflt).bidder=j):byT p (i+1) j=byT p i j++[nthD p.offers i.toNat SId.off.dflt]:=by
 unfold byT
 rw[take_nth (d:=SId.off.dflt) h0 h1,List.filter_append]
 simp[h]
theorem byT_miss {p:Prob} {i:Int} {j:Int} (h0:0≤i) (h1:i<p.offers.length) (h:(nthD p.offers i.toNat SId.off.dflt).bidder≠j):byT p (i+1) j=byT p i j:=by
 unfold byT
 rw[take_nth (d:=SId.off.dflt) h0 h1,List.filter_append]
 simp[h]
theorem h113:HoldsO Try.prog r113:=by
 refine conN (L:=[]) (W:=[]) r113 F113 sp113 Λ113 (by simp) (by simp) (by kernel_rfl) (fun _=>rfl) (fun _=>rfl) (by kernel_rfl) ?_
 intro(p:Prob) (hp:Good p)
 refine vcOf (let z0:=SV.ptr 2 0 29;let z1:=SV.row SId.off p.offers;let z2:=(↑p.offers.length:Int);let z3:=(↑p.offers.length:Int);let z4:=SV.si .i64 z3;let z5:=SV.si .i64 p.supply.a0;let z6:=SV.si .i64 p.supply.a1;let z7:=SV.si .i64 p.supply.a2;let z8:=SV.si .i64 p.supply.a3;let z9:=SV.si .i64 p.supply.a4;let z10:=SV.si .i64 p.supply.a5;let z11:=SV.si .i64 p.opn.a0;let z12:=SV.si .i64 p.opn.a1;let z13:=SV.si .i64 p.opn.a2;let z14:=SV.si .i64 p.opn.a3;let z15:=SV.si .i64 p.opn.a4;let z16:=SV.si .i64 p.opn.a5;let z17:=SV.si .i64 p.cls.a0;let z18:=SV.si .i64 p.cls.a1;let z19:=SV.si .i64 p.cls.a2;let z20:=SV.si .i64 p.cls.a3;let z21:=SV.si .i64 p.cls.a4;let z22:=SV.si .i64 p.cls.a5;let z23:=SV.row (SId.i .i64) p.classes;let z24:=SObj.cells [z5,z6,z7,z8,z9,z10,z11,z12,z13,z14,z15,z16,z17,z18,z19,z20,z21,z22,z23,z1] 27 20 false;let z25:=SObj.map SId.sit (SId.i .i64) true [] ([0,0,0,0,0,0,0,0,0,0,0,0,0],true) true;let z26:=[SV.mp 1];let z27:=byT p (0:Int) (0:Int);let z28:=byT p (0:Int) (1:Int);let z29:=byT p (0:Int) (2:Int);let z30:=byT p (0:Int) (3:Int);let z31:=byT p (0:Int) (4:Int);let z32:=byT p (0:Int) (5:Int);let z33:=byT p (0:Int) (6:Int);let z34:=byT p (0:Int) (7:Int);let z35:=SObj.row SId.off [] 43 true;let z36:=SV.ptr 0 0 29;(((z0.same z0∧z1.same z1∧(SV.si .i64 z2).same z4∧(SV.il .i64 0).same (SV.si .i64 0)∧True)∧z24.same z24∧z25.same z25∧(SObj.cells (z5::z6::z7::z8::z9::z10::z11::z12::z13::z14::z15::z16::z17::z18::z19::z20::z21::z22::z23::z1::SV.ow 3 0 8::SV.ow 4 0 8::SV.ow 5 0 8::SV.ow 6 0 8::SV.ow 7 0 8::SV.ow 8 0 8::SV.ow 9 0 8::SV.ow 10 0 8::z26) 174 29 false).same (SObj.cells (z5::z6::z7::z8::z9::z10::z11::z12::z13::z14::z15::z16::z17::z18::z19::z20::z21::z22::z23::z1::SV.ow 3 z27.length 8::SV.ow 4 z28.length 8::SV.ow 5 z29.length 8::SV.ow 6 z30.length 8::SV.ow 7 z31.length 8::SV.ow 8 z32.length 8::SV.ow 9 z33.length 8::SV.ow 10 z34.length 8::z26) 174 29 false)∧z35.same (SObj.row SId.off z27 43 true)∧z35.same (SObj.row SId.off z28 43 true)∧z35.same (SObj.row SId.off z29 43 true)∧z35.same (SObj.row SId.off z30 43 true)∧z35.same (SObj.row SId.off z31 43 true)∧z35.same (SObj.row SId.off z32 43 true)∧z35.same (SObj.row SId.off z33 43 true)∧z35.same (SObj.row SId.off z34 43 true)∧True)∧(0:Int)≤(0:Int)∧(0:Int)≤z3)∧∀(x:Int),let z37:=nthD p.offers x.toNat SId.off.dflt;let z38:=z37.bidder;let z39:=byT p x (0:Int);let z40:=z39.length+1;let z41:=x+(1:Int);let z42:=SV.si .i64 z41;let z43:=z37.want;let z44:=z37.value;let z45:=z39++[Off.mk (0:Int) z43 z44];let z46:=byT p x (1:Int);let z47:=SV.ow 4 z46.length 8;let z48:=byT p x (2:Int);let z49:=SV.ow 5 z48.length 8;let z50:=byT p x (3:Int);let z51:=SV.ow 6 z50.length 8;let z52:=byT p x (4:Int);let z53:=SV.ow 7 z52.length 8;let z54:=byT p x (5:Int);let z55:=SV.ow 8 z54.length 8;let z56:=byT p x (6:Int);let z57:=SV.ow 9 z56.length 8;let z58:=byT p x (7:Int);let z59:=SV.ow 10 z58.length 8::z26;let z60:=z53::z55::z57::z59;let z61:=SObj.cells (z5::z6::z7::z8::z9::z10::z11::z12::z13::z14::z15::z16::z17::z18::z19::z20::z21::z22::z23::z1::SV.ow 3 (byT p z41 (0:Int)).length 8::SV.ow 4 (byT p z41 (1:Int)).length 8::SV.ow 5 (byT p z41 (2:Int)).length 8::SV.ow 6 (byT p z41 (3:Int)).length 8::SV.ow 7 (byT p z41 (4:Int)).length 8::SV.ow 8 (byT p z41 (5:Int)).length 8::SV.ow 9 (byT p z41 (6:Int)).length 8::SV.ow 10 (byT p z41 (7:Int)).length 8::z26) 174 29 false;let z62:=SObj.row SId.off (byT p z41 (0:Int)) 43 true;let z63:=SObj.row SId.off (byT p z41 (1:Int)) 43 true;let z64:=SObj.row SId.off (byT p z41 (2:Int)) 43 true;let z65:=SObj.row SId.off (byT p z41 (3:Int)) 43 true;let z66:=SObj.row SId.off (byT p z41 (4:Int)) 43 true;let z67:=SObj.row SId.off (byT p z41 (5:Int)) 43 true;let z68:=SObj.row SId.off (byT p z41 (6:Int)) 43 true;let z69:=SObj.row SId.off (byT p z41 (7:Int)) 43 true;let z70:=z46.length+1;let z71:=SV.ow 3 z39.length 8;let z72:=z46++[Off.mk (1:Int) z43 z44];let z73:=z48.length+1;let z74:=z48++[Off.mk (2:Int) z43 z44];let z75:=z50.length+1;let z76:=z50++[Off.mk (3:Int) z43 z44];let z77:=z52.length+1;let z78:=z52++[Off.mk (4:Int) z43 z44];let z79:=z54.length+1;let z80:=z54++[Off.mk (5:Int) z43 z44];let z81:=z56.length+1;let z82:=z56++[Off.mk (6:Int) z43 z44];let z83:=z58.length+1;let z84:=z58++[Off.mk (7:Int) z43 z44];(0:Int)≤x∧x≤z3→(decide (x<z3)=true→(0:Int)≤x∧x<z2∧x.toNat<p.offers.length∧(z38=(0:Int)→1=1∧z39.length=z39.length∧z40*64≤140737488355328∧z40≤1000000000000∧inR .i64 z41∧((z0.same z0∧z1.same z1∧z4.same z4∧z42.same z42∧True)∧z24.same z24∧z25.same z25∧(SObj.cells (z5::z6::z7::z8::z9::z10::z11::z12::z13::z14::z15::z16::z17::z18::z19::z20::z21::z22::z23::z1::SV.ow 3 z45.length 8::z47::z49::z51::z60) 174 29 false).same z61∧(SObj.row SId.off z45 43 true).same z62∧(SObj.row SId.off z46 43 true).same z63∧(SObj.row SId.off z48 43 true).same z64∧(SObj.row SId.off z50 43 true).same z65∧(SObj.row SId.off z52 43 true).same z66∧(SObj.row SId.off z54 43 true).same z67∧(SObj.row SId.off z56 43 true).same z68∧(SObj.row SId.off z58 43 true).same z69∧True)∧((0:Int)≤z41∧z41≤z3)∧(z3 - z41).toNat<(z3 - x).toNat)∧(z38=(1:Int)→1=1∧z46.length=z46.length∧z70*64≤140737488355328∧z70≤1000000000000∧inR .i64 z41∧((z0.same z0∧z1.same z1∧z4.same z4∧z42.same z42∧True)∧z24.same z24∧z25.same z25∧(SObj.cells (z5::z6::z7::z8::z9::z10::z11::z12::z13::z14::z15::z16::z17::z18::z19::z20::z21::z22::z23::z1::z71::SV.ow 4 z72.length 8::z49::z51::z60) 174 29 false).same z61∧(SObj.row SId.off z39 43 true).same z62∧(SObj.row SId.off z72 43 true).same z63∧(SObj.row SId.off z48 43 true).same z64∧(SObj.row SId.off z50 43 true).same z65∧(SObj.row SId.off z52 43 true).same z66∧(SObj.row SId.off z54 43 true).same z67∧(SObj.row SId.off z56 43 true).same z68∧(SObj.row SId.off z58 43 true).same z69∧True)∧((0:Int)≤z41∧z41≤z3)∧(z3 - z41).toNat<(z3 - x).toNat)∧(z38=(2:Int)→1=1∧z48.length=z48.length∧z73*64≤140737488355328∧z73≤1000000000000∧inR .i64 z41∧((z0.same z0∧z1.same z1∧z4.same z4∧z42.same z42∧True)∧z24.same z24∧z25.same z25∧(SObj.cells (z5::z6::z7::z8::z9::z10::z11::z12::z13::z14::z15::z16::z17::z18::z19::z20::z21::z22::z23::z1::z71::z47::SV.ow 5 z74.length 8::z51::z60) 174 29 false).same z61∧(SObj.row SId.off z39 43 true).same z62∧(SObj.row SId.off z46 43 true).same z63∧(SObj.row SId.off z74 43 true).same z64∧(SObj.row SId.off z50 43 true).same z65∧(SObj.row SId.off z52 43 true).same z66∧(SObj.row SId.off z54 43 true).same z67∧(SObj.row SId.off z56 43 true).same z68∧(SObj.row SId.off z58 43 true).same z69∧True)∧((0:Int)≤z41∧z41≤z3)∧(z3 - z41).toNat<(z3 - x).toNat)∧(z38=(3:Int)→1=1∧z50.length=z50.length∧z75*64≤140737488355328∧z75≤1000000000000∧inR .i64 z41∧((z0.same z0∧z1.same z1∧z4.same z4∧z42.same z42∧True)∧z24.same z24∧z25.same z25∧(SObj.cells (z5::z6::z7::z8::z9::z10::z11::z12::z13::z14::z15::z16::z17::z18::z19::z20::z21::z22::z23::z1::z71::z47::z49::SV.ow 6 z76.length 8::z60) 174 29 false).same z61∧(SObj.row SId.off z39 43 true).same z62∧(SObj.row SId.off z46 43 true).same z63∧(SObj.row SId.off z48 43 true).same z64∧(SObj.row SId.off z76 43 true).same z65∧(SObj.row SId.off z52 43 true).same z66∧(SObj.row SId.off z54 43 true).same z67∧(SObj.row SId.off z56 43 true).same z68∧(SObj.row SId.off z58 43 true).same z69∧True)∧((0:Int)≤z41∧z41≤z3)∧(z3 - z41).toNat<(z3 - x).toNat)∧(z38=(4:Int)→1=1∧z52.length=z52.length∧z77*64≤140737488355328∧z77≤1000000000000∧inR .i64 z41∧((z0.same z0∧z1.same z1∧z4.same z4∧z42.same z42∧True)∧z24.same z24∧z25.same z25∧(SObj.cells (z5::z6::z7::z8::z9::z10::z11::z12::z13::z14::z15::z16::z17::z18::z19::z20::z21::z22::z23::z1::z71::z47::z49::z51::SV.ow 7 z78.length 8::z55::z57::z59) 174 29 false).same z61∧(SObj.row SId.off z39 43 true).same z62∧(SObj.row SId.off z46 43 true).same z63∧(SObj.row SId.off z48 43 true).same z64∧(SObj.row SId.off z50 43 true).same z65∧(SObj.row SId.off z78 43 true).same z66∧(SObj.row SId.off z54 43 true).same z67∧(SObj.row SId.off z56 43 true).same z68∧(SObj.row SId.off z58 43 true).same z69∧True)∧((0:Int)≤z41∧z41≤z3)∧(z3 - z41).toNat<(z3 - x).toNat)∧(z38=(5:Int)→1=1∧z54.length=z54.length∧z79*64≤140737488355328∧z79≤1000000000000∧inR .i64 z41∧((z0.same z0∧z1.same z1∧z4.same z4∧z42.same z42∧True)∧z24.same z24∧z25.same z25∧(SObj.cells (z5::z6::z7::z8::z9::z10::z11::z12::z13::z14::z15::z16::z17::z18::z19::z20::z21::z22::z23::z1::z71::z47::z49::z51::z53::SV.ow 8 z80.length 8::z57::z59) 174 29 false).same z61∧(SObj.row SId.off z39 43 true).same z62∧(SObj.row SId.off z46 43 true).same z63∧(SObj.row SId.off z48 43 true).same z64∧(SObj.row SId.off z50 43 true).same z65∧(SObj.row SId.off z52 43 true).same z66∧(SObj.row SId.off z80 43 true).same z67∧(SObj.row SId.off z56 43 true).same z68∧(SObj.row SId.off z58 43 true).same z69∧True)∧((0:Int)≤z41∧z41≤z3)∧(z3 - z41).toNat<(z3 - x).toNat)∧(z38=(6:Int)→1=1∧z56.length=z56.length∧z81*64≤140737488355328∧z81≤1000000000000∧inR .i64 z41∧((z0.same z0∧z1.same z1∧z4.same z4∧z42.same z42∧True)∧z24.same z24∧z25.same z25∧(SObj.cells (z5::z6::z7::z8::z9::z10::z11::z12::z13::z14::z15::z16::z17::z18::z19::z20::z21::z22::z23::z1::z71::z47::z49::z51::z53::z55::SV.ow 9 z82.length 8::z59) 174 29 false).same z61∧(SObj.row SId.off z39 43 true).same z62∧(SObj.row SId.off z46 43 true).same z63∧(SObj.row SId.off z48 43 true).same z64∧(SObj.row SId.off z50 43 true).same z65∧(SObj.row SId.off z52 43 true).same z66∧(SObj.row SId.off z54 43 true).same z67∧(SObj.row SId.off z82 43 true).same z68∧(SObj.row SId.off z58 43 true).same z69∧True)∧((0:Int)≤z41∧z41≤z3)∧(z3 - z41).toNat<(z3 - x).toNat)∧(z38=(7:Int)→1=1∧z58.length=z58.length∧z83*64≤140737488355328∧z83≤1000000000000∧inR .i64 z41∧((z0.same z0∧z1.same z1∧z4.same z4∧z42.same z42∧True)∧z24.same z24∧z25.same z25∧(SObj.cells (z5::z6::z7::z8::z9::z10::z11::z12::z13::z14::z15::z16::z17::z18::z19::z20::z21::z22::z23::z1::z71::z47::z49::z51::z53::z55::z57::SV.ow 10 z84.length 8::z26) 174 29 false).same z61∧(SObj.row SId.off z39 43 true).same z62∧(SObj.row SId.off z46 43 true).same z63∧(SObj.row SId.off z48 43 true).same z64∧(SObj.row SId.off z50 43 true).same z65∧(SObj.row SId.off z52 43 true).same z66∧(SObj.row SId.off z54 43 true).same z67∧(SObj.row SId.off z56 43 true).same z68∧(SObj.row SId.off z84 43 true).same z69∧True)∧((0:Int)≤z41∧z41≤z3)∧(z3 - z41).toNat<(z3 - x).toNat)∧(0:Int)≤z38∧z38<(8:Int))∧(decide (x<z3)=false→z39.length=z39.length∧z46.length=z46.length∧z48.length=z48.length∧z50.length=z50.length∧z52.length=z52.length∧z54.length=z54.length∧z56.length=z56.length∧z58.length=z58.length∧z36.same z36∧(SObj.cells (z5::z6::z7::z8::z9::z10::z11::z12::z13::z14::z15::z16::z17::z18::z19::z20::z21::z22::z23::z1::SV.row SId.off z39::SV.row SId.off z46::SV.row SId.off z48::SV.row SId.off z50::SV.row SId.off z52::SV.row SId.off z54::SV.row SId.off z56::SV.row SId.off z58::z26) 174 29 false).same (SObj.cells (z5::z6::z7::z8::z9::z10::z11::z12::z13::z14::z15::z16::z17::z18::z19::z20::z21::z22::z23::z1::SV.row SId.off (L8.of p).l0::SV.row SId.off (L8.of p).l1::SV.row SId.off (L8.of p).l2::SV.row SId.off (L8.of p).l3::SV.row SId.off (L8.of p).l4::SV.row SId.off (L8.of p).l5::SV.row SId.off (L8.of p).l6::SV.row SId.off (L8.of p).l7::z26) 174 29 false)∧z25.same z25∧True)) (by kernel_rfl) ?_
 conv=>zeta
 try simp only[vcs]
 have hz:∀j,byT p 0 j=[]:=fun j=>rfl
 have hlen:∀i j,(byT p i j).length≤160:=fun i j=>by
  have h1:=List.length_filter_le (fun x:Off=>decide (x.bidder=j)) (p.offers.take i.toNat)
  have h2:=hp.2.1
  simp only[List.length_take] at h1
  unfold byT
  omega
 have h160:=hp.2.1
 refine⟨⟨by simp only[hz];exact⟨rfl,rfl,rfl,rfl,rfl,rfl,rfl,rfl,rfl⟩,by omega,by omega⟩,?_⟩
 rintro i ⟨hi0,hi1⟩
 refine⟨fun hlt=>⟨hi0,hlt,by omega,?c0,?c1,?c2,?c3,?c4,?c5,?c6,?c7,?cb⟩,fun hge=>?ce⟩
 case c0=>
  intro hb
  have hx:(⟨0,(nthD p.offers i.toNat SId.off.dflt).want,(nthD p.offers i.toNat SId.off.dflt).value⟩:Off)=nthD p.offers i.toNat SId.off.dflt:=by rw[←hb]
  simp only[hx]
  rw[byT_hit (j:=0) hi0 hlt hb]
  rw[byT_miss (j:=1) hi0 hlt (by rw[hb];decide)]
  rw[byT_miss (j:=2) hi0 hlt (by rw[hb];decide)]
  rw[byT_miss (j:=3) hi0 hlt (by rw[hb];decide)]
  rw[byT_miss (j:=4) hi0 hlt (by rw[hb];decide)]
  rw[byT_miss (j:=5) hi0 hlt (by rw[hb];decide)]
  rw[byT_miss (j:=6) hi0 hlt (by rw[hb];decide)]
  rw[byT_miss (j:=7) hi0 hlt (by rw[hb];decide)]
  have hl:=hlen i 0
  exact⟨by omega,by omega,by omega,⟨rfl,rfl,rfl,rfl,rfl,rfl,rfl,rfl,rfl⟩,by omega,by omega⟩
 case c1=>
  intro hb
  have hx:(⟨1,(nthD p.offers i.toNat SId.off.dflt).want,(nthD p.offers i.toNat SId.off.dflt).value⟩:Off)=nthD p.offers i.toNat SId.off.dflt:=by rw[←hb]
  simp only[hx]
  rw[byT_miss (j:=0) hi0 hlt (by rw[hb];decide)]
  rw[byT_hit (j:=1) hi0 hlt hb]
  rw[byT_miss (j:=2) hi0 hlt (by rw[hb];decide)]
  rw[byT_miss (j:=3) hi0 hlt (by rw[hb];decide)]
  rw[byT_miss (j:=4) hi0 hlt (by rw[hb];decide)]
  rw[byT_miss (j:=5) hi0 hlt (by rw[hb];decide)]
  rw[byT_miss (j:=6) hi0 hlt (by rw[hb];decide)]
  rw[byT_miss (j:=7) hi0 hlt (by rw[hb];decide)]
  have hl:=hlen i 1
  exact⟨by omega,by omega,by omega,⟨rfl,rfl,rfl,rfl,rfl,rfl,rfl,rfl,rfl⟩,by omega,by omega⟩
 case c2=>
  intro hb
  have hx:(⟨2,(nthD p.offers i.toNat SId.off.dflt).want,(nthD p.offers i.toNat SId.off.dflt).value⟩:Off)=nthD p.offers i.toNat SId.off.dflt:=by rw[←hb]
  simp only[hx]
  rw[byT_miss (j:=0) hi0 hlt (by rw[hb];decide)]
  rw[byT_miss (j:=1) hi0 hlt (by rw[hb];decide)]
  rw[byT_hit (j:=2) hi0 hlt hb]
  rw[byT_miss (j:=3) hi0 hlt (by rw[hb];decide)]
  rw[byT_miss (j:=4) hi0 hlt (by rw[hb];decide)]
  rw[byT_miss (j:=5) hi0 hlt (by rw[hb];decide)]
  rw[byT_miss (j:=6) hi0 hlt (by rw[hb];decide)]
  rw[byT_miss (j:=7) hi0 hlt (by rw[hb];decide)]
  have hl:=hlen i 2
  exact⟨by omega,by omega,by omega,⟨rfl,rfl,rfl,rfl,rfl,rfl,rfl,rfl,rfl⟩,by omega,by omega⟩
 case c3=>
  intro hb
  have hx:(⟨3,(nthD p.offers i.toNat SId.off.dflt).want,(nthD p.offers i.toNat SId.off.dflt).value⟩:Off)=nthD p.offers i.toNat SId.off.dflt:=by rw[←hb]
  simp only[hx]
  rw[byT_miss (j:=0) hi0 hlt (by rw[hb];decide)]
  rw[byT_miss (j:=1) hi0 hlt (by rw[hb];decide)]
  rw[byT_miss (j:=2) hi0 hlt (by rw[hb];decide)]
  rw[byT_hit (j:=3) hi0 hlt hb]
  rw[byT_miss (j:=4) hi0 hlt (by rw[hb];decide)]
  rw[byT_miss (j:=5) hi0 hlt (by rw[hb];decide)]
  rw[byT_miss (j:=6) hi0 hlt (by rw[hb];decide)]
  rw[byT_miss (j:=7) hi0 hlt (by rw[hb];decide)]
  have hl:=hlen i 3
  exact⟨by omega,by omega,by omega,⟨rfl,rfl,rfl,rfl,rfl,rfl,rfl,rfl,rfl⟩,by omega,by omega⟩
 case c4=>
  intro hb
  have hx:(⟨4,(nthD p.offers i.toNat SId.off.dflt).want,(nthD p.offers i.toNat SId.off.dflt).value⟩:Off)=nthD p.offers i.toNat SId.off.dflt:=by rw[←hb]
  simp only[hx]
  rw[byT_miss (j:=0) hi0 hlt (by rw[hb];decide)]
  rw[byT_miss (j:=1) hi0 hlt (by rw[hb];decide)]
  rw[byT_miss (j:=2) hi0 hlt (by rw[hb];decide)]
  rw[byT_miss (j:=3) hi0 hlt (by rw[hb];decide)]
  rw[byT_hit (j:=4) hi0 hlt hb]
  rw[byT_miss (j:=5) hi0 hlt (by rw[hb];decide)]
  rw[byT_miss (j:=6) hi0 hlt (by rw[hb];decide)]
  rw[byT_miss (j:=7) hi0 hlt (by rw[hb];decide)]
  have hl:=hlen i 4
  exact⟨by omega,by omega,by omega,⟨rfl,rfl,rfl,rfl,rfl,rfl,rfl,rfl,rfl⟩,by omega,by omega⟩
 case c5=>
  intro hb
  have hx:(⟨5,(nthD p.offers i.toNat SId.off.dflt).want,(nthD p.offers i.toNat SId.off.dflt).value⟩:Off)=nthD p.offers i.toNat SId.off.dflt:=by rw[←hb]
  simp only[hx]
  rw[byT_miss (j:=0) hi0 hlt (by rw[hb];decide)]
  rw[byT_miss (j:=1) hi0 hlt (by rw[hb];decide)]
  rw[byT_miss (j:=2) hi0 hlt (by rw[hb];decide)]
  rw[byT_miss (j:=3) hi0 hlt (by rw[hb];decide)]
  rw[byT_miss (j:=4) hi0 hlt (by rw[hb];decide)]
  rw[byT_hit (j:=5) hi0 hlt hb]
  rw[byT_miss (j:=6) hi0 hlt (by rw[hb];decide)]
  rw[byT_miss (j:=7) hi0 hlt (by rw[hb];decide)]
  have hl:=hlen i 5
  exact⟨by omega,by omega,by omega,⟨rfl,rfl,rfl,rfl,rfl,rfl,rfl,rfl,rfl⟩,by omega,by omega⟩
 case c6=>
  intro hb
  have hx:(⟨6,(nthD p.offers i.toNat SId.off.dflt).want,(nthD p.offers i.toNat SId.off.dflt).value⟩:Off)=nthD p.offers i.toNat SId.off.dflt:=by rw[←hb]
  simp only[hx]
  rw[byT_miss (j:=0) hi0 hlt (by rw[hb];decide)]
  rw[byT_miss (j:=1) hi0 hlt (by rw[hb];decide)]
  rw[byT_miss (j:=2) hi0 hlt (by rw[hb];decide)]
  rw[byT_miss (j:=3) hi0 hlt (by rw[hb];decide)]
  rw[byT_miss (j:=4) hi0 hlt (by rw[hb];decide)]
  rw[byT_miss (j:=5) hi0 hlt (by rw[hb];decide)]
  rw[byT_hit (j:=6) hi0 hlt hb]
  rw[byT_miss (j:=7) hi0 hlt (by rw[hb];decide)]
  have hl:=hlen i 6
  exact⟨by omega,by omega,by omega,⟨rfl,rfl,rfl,rfl,rfl,rfl,rfl,rfl,rfl⟩,by omega,by omega⟩
 case c7=>
  intro hb
  have hx:(⟨7,(nthD p.offers i.toNat SId.off.dflt).want,(nthD p.offers i.toNat SId.off.dflt).value⟩:Off)=nthD p.offers i.toNat SId.off.dflt:=by rw[←hb]
  simp only[hx]
  rw[byT_miss (j:=0) hi0 hlt (by rw[hb];decide)]
  rw[byT_miss (j:=1) hi0 hlt (by rw[hb];decide)]
  rw[byT_miss (j:=2) hi0 hlt (by rw[hb];decide)]
  rw[byT_miss (j:=3) hi0 hlt (by rw[hb];decide)]
  rw[byT_miss (j:=4) hi0 hlt (by rw[hb];decide)]
  rw[byT_miss (j:=5) hi0 hlt (by rw[hb];decide)]
  rw[byT_miss (j:=6) hi0 hlt (by rw[hb];decide)]
  rw[byT_hit (j:=7) hi0 hlt hb]
  have hl:=hlen i 7
  exact⟨by omega,by omega,by omega,⟨rfl,rfl,rfl,rfl,rfl,rfl,rfl,rfl,rfl⟩,by omega,by omega⟩
 case cb=>
  have hv:=hp.2.2.2.2 _ (nthD_mem (d:=SId.off.dflt) (show i.toNat<p.offers.length by omega))
  have:=hp.1
  exact⟨hv.1,by omega⟩
 case ce=>
  have hb:∀j,byT p i j=byB p j:=fun j=>by unfold byT byB;rw[show i.toNat=p.offers.length from by omega,List.take_length]
  simp only[hb]
  rfl
theorem good_of {p:Prob} (h:checkE p=0):Good p:=by
 obtain⟨hf,ho⟩:=check_zero h
 obtain⟨f1,f2,f3,f4,f5⟩:=frame_zero hf
 refine⟨f3,f4,f1,?_,fun x hx=>?_⟩
 ·have hs:=Bun.ok_iff.1 f1
  have g0:=prodOk_iff.1 (f2 0 (by omega))
  have g1:=prodOk_iff.1 (f2 1 (by omega))
  have g2:=prodOk_iff.1 (f2 2 (by omega))
  have g3:=prodOk_iff.1 (f2 3 (by omega))
  have g4:=prodOk_iff.1 (f2 4 (by omega))
  have g5:=prodOk_iff.1 (f2 5 (by omega))
  simp[nthD] at g0 g1 g2 g3 g4 g5
  exact Bun.ok_iff.2 (by omega)
 ·have hs:=simple_zero (offer_zero (ho x hx)).1
  exact⟨hs.1,hs.2.1,hs.2.2.2.2,hs.2.2.1,hs.2.2.2.1⟩
theorem pow_n {n:Nat} (h:n≤8):(2:Int)^n≤256∧0<(2:Int)^n:=by
 have:n=0∨n=1∨n=2∨n=3∨n=4∨n=5∨n=6∨n=7∨n=8:=by omega
 rcases this with h|h|h|h|h|h|h|h|h<;>rw[h]<;>decide
def worthS (p:Prob) (m:Int):Int:=if faultE p m=0 then bestS p ⟨m,p.supply,p.opn⟩ else 0
def r80:SCtr:=⟨80,Prob×Int,.cons codP (.one (codI .i64)),fun _=>True,fun a=> .tup [.si .i64 (worthS a.1 a.2),.si .i64 (faultE a.1 a.2)]⟩
def LB:List SCtr:=r80::L8l
structure Deal where
 p:Prob
 values:List Int
 all:Int
 worth:Int
def codD:Cod Deal where
 put d:=.agg [.si .i64 d.p.supply.a0,.si .i64 d.p.supply.a1,.si .i64 d.p.supply.a2,.si .i64 d.p.supply.a3,.si .i64 d.p.supply.a4,.si .i64 d.p.supply.a5,
  .si .i64 d.p.opn.a0,.si .i64 d.p.opn.a1,.si .i64 d.p.opn.a2,.si .i64 d.p.opn.a3,.si .i64 d.p.opn.a4,.si .i64 d.p.opn.a5,
  .si .i64 d.p.cls.a0,.si .i64 d.p.cls.a1,.si .i64 d.p.cls.a2,.si .i64 d.p.cls.a3,.si .i64 d.p.cls.a4,.si .i64 d.p.cls.a5,
  .row (.i .i64) d.p.classes,.row .off d.p.offers,.row (.i .i64) d.values,.si .i64 d.all,.si .i64 d.worth]
 dec
  | .agg [s0,s1,s2,s3,s4,s5,o0,o1,o2,o3,o4,o5,c0,c1,c2,c3,c4,c5,k,f,v,a,w]=>
   match decProb [s0,s1,s2,s3,s4,s5,o0,o1,o2,o3,o4,o5,c0,c1,c2,c3,c4,c5,k,f],decRow (.i .i64) v,a.int .i64,w.int .i64 with
   |some p,some v,some a,some w=>some ⟨p,v,a,w⟩
   |_,_,_,_=>none
  |_=>none
 ok v a h:=by
  split at h
  ·split at h
   ·rename_i h1 h2 h3 h4
    simp only[Option.some.injEq] at h;subst h
    have hp:=decProb_ok h1
    simp only[Prob.ss,gL,List.cons.injEq,and_true] at hp
    simp only[SV.g,gL]
    simp only[hp,decRow_ok h2,int_g h3,int_g h4]
    rfl
   ·cases h
  ·cases h
 inj a b h:=by
  obtain⟨p,v,al,w⟩:=a
  obtain⟨q,v',al',w'⟩:=b
  simp only[SV.g,gL,AV.agg.injEq,List.cons.injEq,and_true,AV.sc.injEq,Value.int.injEq,true_and] at h
  have hp:p=q:=by
   apply codP.inj
   show(SV.agg p.ss).g=(SV.agg q.ss).g
   simp only[SV.g,Prob.ss,gL,AV.agg.injEq,List.cons.injEq,and_true,AV.sc.injEq,Value.int.injEq,true_and]
   simp only[h,and_self]
  subst hp
  have hv:v=v':=(codR (.i .i64)).inj _ _ (by simp only[codR,SV.g];simp only[h])
  simp only[Deal.mk.injEq,true_and]
  exact⟨hv,by simp only[h],by simp only[h]⟩
def allM (p:Prob):Int:=2^p.classes.length - 1
def setV (p:Prob) (v:List Int) (i:Int):List Int:=v.set (nthD p.offers i.toNat SId.off.dflt).bidder.toNat (nthD p.offers i.toNat SId.off.dflt).value
def valsS (p:Prob) (c:List Int):List Int:=c.foldl (setV p) (List.replicate p.classes.length 0)
def addV (p:Prob) (s:Int) (i:Int):Int:=s+(nthD p.offers i.toNat SId.off.dflt).value
def sumC (p:Prob) (c:List Int):Int:=c.foldl (addV p) 0
def openE (p:Prob) (c:List Int):Int:=if feasE p c≠0 then feasE p c else if sumC p c<worthS p (allM p) then 13 else 0
def Prob.zero:Prob:=⟨Bun.zero,Bun.zero,Bun.zero,[],[]⟩
def openD (p:Prob) (c:List Int):Deal:=if openE p c=0 then⟨p,valsS p c,allM p,sumC p c⟩ else⟨Prob.zero,[],0,0⟩
def r61:SCtr:=⟨61,Prob×Alloc,.cons codP (.one codA),fun a=>a.2.chosen.length≤1000000000000,fun a=> .tup [codD.put (openD a.1 a.2.chosen),.si .i64 (openE a.1 a.2.chosen)]⟩
theorem pick_idx {l:List Off}:∀{c:List Int} {last:Int} {r:List Off}, -1≤last→pickGo l last c=some r→r.length=c.length∧∀i∈c,0≤i∧i<l.length
 |[],last,r,_,h=>by simp[pickGo] at h;subst h;simp
 |i::c,last,r,hl,h=>by
  simp only[pickGo] at h
  split at h
  ·cases h
  ·rename_i h1
   obtain⟨r',h2,rfl⟩:=Option.map_eq_some_iff.1 h
   obtain⟨h3,h4⟩:=pick_idx (by omega) h2
   refine⟨by simp[h3],fun j hj=>?_⟩
   rcases List.mem_cons.1 hj with rfl|hj
   ·omega
   ·exact h4 j hj
def DealOk (d:Deal):Prop:=checkE d.p=0∧d.values.length=d.p.classes.length∧d.all=allM d.p∧(∀v∈d.values,0≤v∧v≤1000000)∧0≤d.worth∧d.worth≤200000000
def payS (d:Deal) (b:Int):Int:=if nthD d.values b.toNat 0=0 then 0 else worthS d.p (delI d.all b) - (d.worth - nthD d.values b.toNat 0)
def discS (d:Deal) (b:Int):Int:=nthD d.values b.toNat 0 - payS d b
def r63:SCtr:=⟨63,Deal×Int,.cons codD (.one (codI .i64)),fun a=>DealOk a.1∧0≤a.2∧a.2<a.1.values.length,fun a=> .si .i64 (payS a.1 a.2)⟩
def LC:List SCtr:=r63::r61::LB
def r66:SCtr:=⟨66,Deal×Int,.cons codD (.one (codI .i64)),fun a=>DealOk a.1∧0≤a.2∧a.2<a.1.values.length,fun a=> .si .i64 (discS a.1 a.2)⟩
def codF:Cod (Bool×Deal) where
 put a:=match a.1 with
  |true=> .fn (.func 66) [codD.put a.2] []
  |false=> .fn (.func 63) [codD.put a.2] []
 dec
  | .fn (.func f) [d] []=>if f=66 then(codD.dec d).map fun d=>(true,d) else if f=63 then(codD.dec d).map fun d=>(false,d) else none
  |_=>none
 ok v a h:=by
  split at h
  ·split at h
   ·rename_i hf
    obtain⟨d,h1,rfl⟩:=Option.map_eq_some_iff.1 h
    simp only[SV.g,gL,codD.ok _ _ h1,hf]
   ·split at h
    ·rename_i hf
     obtain⟨d,h1,rfl⟩:=Option.map_eq_some_iff.1 h
     simp only[SV.g,gL,codD.ok _ _ h1,hf]
    ·cases h
  ·cases h
 inj a b h:=by
  obtain⟨k,d⟩:=a
  obtain⟨k',d'⟩:=b
  cases k<;>cases k'<;>simp only[SV.g,gL,AV.fn.injEq,Fn.func.injEq,List.cons.injEq,and_true,true_and,reduceCtorEq,Nat.reduceEqDiff,false_and] at h
  ·rw[codD.inj _ _ h]
  ·rw[codD.inj _ _ h]
def eachF (a:Bool×Deal) (i:Int):Int:=match a.1 with
 |true=>discS a.2 i
 |false=>payS a.2 i
def eachL (a:Bool×Deal) (n:Nat):List Int:=(List.range n).map fun i:Nat=>eachF a i
def r62:SCtr:=⟨62,Deal×(Bool×Deal),.cons codD (.one codF),fun a=>DealOk a.2.2∧a.1.values.length=a.2.2.values.length,fun a=> .row (.i .i64) (eachL a.2 a.1.values.length)⟩
def LD:List SCtr:=r66::LC
def LE:List SCtr:=r62::LD
def paysS (p:Prob) (c:List Int):List Int:=if openE p c=0 then eachL (false,openD p c) p.classes.length else[]
def discsS (p:Prob) (c:List Int):List Int:=if openE p c=0 then eachL (true,openD p c) p.classes.length else[]
def r17:SCtr:=⟨17,Prob×Alloc,.cons codP (.one codA),fun a=>a.2.chosen.length≤1000000000000,fun a=> .tup [.row (.i .i64) (paysS a.1 a.2.chosen),.si .i64 (openE a.1 a.2.chosen)]⟩
def r19:SCtr:=⟨19,Prob×Alloc,.cons codP (.one codA),fun a=>a.2.chosen.length≤1000000000000,fun a=> .tup [.row (.i .i64) (discsS a.1 a.2.chosen),.si .i64 (openE a.1 a.2.chosen)]⟩
def extE (p:Prob) (c:List Int) (b:Int):Int:=if openE p c≠0 then openE p c else if b<0∨p.classes.length≤b then 6 else 0
def extS (p:Prob) (c:List Int) (b:Int):Int:=if extE p c b=0 then payS (openD p c) b else 0
def r21:SCtr:=⟨21,Prob×Alloc×Int,.cons codP (.cons codA (.one (codI .i64))),fun a=>a.2.1.chosen.length≤1000000000000,fun a=> .tup [.si .i64 (extS a.1 a.2.1.chosen a.2.2),.si .i64 (extE a.1 a.2.1.chosen a.2.2)]⟩
def sameB (a b:List Int):Bool:=decide (a=b)
def r23:SCtr:=⟨23,List Int×List Int,.cons (codR (.i .i64)) (.one (codR (.i .i64))),fun a=>a.1.length≤1000000000000,fun a=> .sb (sameB a.1 a.2)⟩
def fewB (p:Prob) (n:Int):Bool:=decide ((p.offers.length:Int)≤n)&&decide ((p.classes.length:Int)≤8)
def r59:SCtr:=⟨59,Prob×Int,.cons codP (.one (codI .i64)),fun _=>True,fun a=> .sb (fewB a.1 a.2)⟩
def r15:SCtr:=⟨15,Prob,.one codP,fun _=>True,fun a=> .sb (fewB a 10)⟩
def three:Prob:=⟨⟨1,1,0,0,0,0⟩,⟨1,1,0,0,0,0⟩,Bun.zero,[0,0,0],[⟨0,⟨1,1,0,0,0,0⟩,10⟩,⟨1,⟨1,0,0,0,0,0⟩,6⟩,⟨2,⟨0,1,0,0,0,0⟩,6⟩]⟩
def r60:SCtr:=⟨60,Unit,.nil,fun _=>True,fun _=>codP.put three⟩
def LF:List SCtr:=[r59,r15,r60,r17,r19,r21,r23]
def r16:SCtr:=⟨16,Unit,.nil,fun _=>True,fun _=> .sb true⟩
def LG:List SCtr:=r16::LF
def r68:SCtr:=⟨68,Bun,.one (codE .bun),fun _=>True,fun b=> .sb b.ok⟩
def coefR (p:Prob) (r:Int) (o:Off):Int:=
 if r - p.classes.length<0 then(if o.bidder=r then 1 else 0)
 else if r - p.classes.length<6 then nthD [o.want.a0,o.want.a1,o.want.a2,o.want.a3,o.want.a4,o.want.a5] (r - p.classes.length).toNat 0
 else if nthD [p.cls.a0,p.cls.a1,p.cls.a2,p.cls.a3,p.cls.a4,p.cls.a5] (r - p.classes.length - 6).toNat 0=0∨p.classes.length≤o.bidder∨nthD [p.cls.a0,p.cls.a1,p.cls.a2,p.cls.a3,p.cls.a4,p.cls.a5] (r - p.classes.length - 6).toNat 0=nthD p.classes o.bidder.toNat 0 then 0
 else nthD [o.want.a0,o.want.a1,o.want.a2,o.want.a3,o.want.a4,o.want.a5] (r - p.classes.length - 6).toNat 0
def r110:SCtr:=⟨110,Prob×Int×Off,.cons codP (.cons (codI .i64) (.one (codE .off))),fun a=>a.1.classes.length≤8∧0≤a.2.1∧a.2.1<nrows a.1∧0≤a.2.2.bidder,
 fun a=> .tup [.si .i64 (coefR a.1 a.2.1 a.2.2),.si .i64 (boundS a.1 a.2.1)]⟩
def M1:List SCtr:=[r110,r68]
def r69:SCtr:=⟨69,Prob×List Off,.cons codP (.one (codR .off)),fun a=>a.1.classes.length≤8∧a.2.length≤1000∧(∀x∈a.2,0≤x.bidder∧x.bidder<a.1.classes.length∧x.want.ok=true),fun a=> .sb (fitsB a.1 a.2)⟩
def r24:SCtr:=⟨24,Prob,.one codP,fun p=>True,fun p=> .si .i64 (checkE p)⟩
def M2:List SCtr:=r24::r69::M1
def r109:SCtr:=⟨109,Prob×List Int,.cons codP (.one (codR (.i .i64))),fun a=>a.2.length≤9223372036854775807∧a.1.offers.length≤1000,fun a=> .tup [.row .off (pickL a.1 a.2),.sb (pickOk a.1 a.2)]⟩
def M3:List SCtr:=r109::M2
def r55:SCtr:=⟨55,Prob×List Int,.cons codP (.one (codR (.i .i64))),fun a=>a.2.length≤9223372036854775807,fun a=> .si .i64 (feasE a.1 a.2)⟩
def sumV:List Off→Int
 |[]=>0
 |x::l=>x.value+sumV l
def valueS (p:Prob) (c:List Int):Int:=if checkE p=0 then sumV (pickL p c) else 0
def r58:SCtr:=⟨58,Prob×List Int,.cons codP (.one (codR (.i .i64))),fun a=>a.2.length≤9223372036854775807,fun a=> .si .i64 (valueS a.1 a.2)⟩
def cmpL:List Int→List Int→Int
 |[],[]=>0
 |[],_::_=> -1
 |_::_,[]=>1
 |a::l,b::m=>if a<b then -1 else if b<a then 1 else cmpL l m
def sumB (l:List Bun):Bun:=⟨(l.map Bun.a0).sum,(l.map Bun.a1).sum,(l.map Bun.a2).sum,(l.map Bun.a3).sum,(l.map Bun.a4).sum,(l.map Bun.a5).sum⟩
def offsI (p:Prob) (l:List Int):List Off:=l.map fun i=>nthD p.offers i.toNat SId.off.dflt
def FeasL (p:Prob) (L:List Off):Prop:=(L.map Off.bidder).Nodup∧(sumB (L.map Off.want)).le p.supply=true∧(sumB (L.map (outS p))).le p.opn=true
instance (p:Prob) (L:List Off):Decidable (FeasL p L):=by unfold FeasL;infer_instance
def ref23 (p:Prob) (l:List Int):Bool:=decide (FeasL p (offsI p l))
def Bun.bd (b:Bun) (n:Int):Prop:=(0≤b.a0∧b.a0≤n)∧(0≤b.a1∧b.a1≤n)∧(0≤b.a2∧b.a2≤n)∧(0≤b.a3∧b.a3≤n)∧(0≤b.a4∧b.a4≤n)∧(0≤b.a5∧b.a5≤n)
def valI (p:Prob) (i:Int):Int:=(nthD p.offers i.toNat SId.off.dflt).value
def better (a b:Alloc):Alloc:=if b.value<a.value∨a.value=b.value∧cmpL a.chosen b.chosen<0 then a else b
def extL (p:Prob):Nat→Int→Alloc→Alloc→Alloc
 |0,_,_,b=>b
 |k+1,i,a,b=>extL p k (i+1) a (if ref23 p (a.chosen++[i]) then extL p k (i+1) ⟨a.chosen++[i],a.value+valI p i⟩ (better ⟨a.chosen++[i],a.value+valI p i⟩ b) else b)
def leftN (p:Prob) (i:Int):Nat:=(p.offers.length - i).toNat
def extS2 (p:Prob) (a:Alloc) (f:Int) (b:Alloc):Alloc:=extL p (leftN p f) f a (better a b)
def bestA (p:Prob):Alloc:=extS2 p ⟨[],0⟩ 0 ⟨[],0⟩
def hasB (m b:Int):Bool:=decide (binK.andI .i64 (m / 2^b.toNat) 1=1)
def r71:SCtr:=⟨71,Int×Int,.cons (codI .i64) (.one (codI .i64)),fun a=>0≤a.1∧a.1<256∧0≤a.2∧a.2≤8,fun a=> .sb (hasB a.1 a.2)⟩
def allR (p:Prob) (w:Int) (n:Nat):Int:=((List.range n).map fun i:Nat=>if(i:Int)≠w then(2:Int)^i else 0).sum
def r27:SCtr:=⟨27,Prob×Int,.cons codP (.one (codI .i64)),fun a=>a.1.classes.length≤8,fun a=> .si .i64 (allR a.1 a.2 a.1.classes.length)⟩
def subP (p:Prob) (m:Int):Prob:={p with offers:=p.offers.filter fun x=>hasB m x.bidder}
def worthR (p:Prob) (m:Int):Int:=(bestA (subP p m)).value
def r26:SCtr:=⟨26,Prob×Int,.cons codP (.one (codI .i64)),fun a=>Good a.1∧0≤a.2∧a.2<256,fun a=> .si .i64 (worthR a.1 a.2)⟩
def N1:List SCtr:=r26::r27::r71::r55::r58::M3
theorem feas_ok {p:Prob} {c:List Int} (hz:feasE p c=0):checkE p=0∧pickOk p c=true∧Good p∧c.length≤160∧∀i∈c,0≤i∧i<p.offers.length:=by
 have hck:checkE p=0:=by
  unfold feasE at hz
  split at hz
  ·rename_i h1;exact absurd hz h1
  ·rename_i h1;exact Classical.not_not.1 h1
 have hpk:pickOk p c=true:=by
  unfold feasE at hz
  rw[if_neg (by simp[hck])] at hz
  split at hz
  ·cases hz
  ·rename_i h1;simpa using h1
 have hg:=good_of hck
 obtain⟨r,hr⟩:=Option.isSome_iff_exists.1 hpk
 obtain⟨hr1,hidx⟩:=pick_idx (by omega) hr
 refine⟨hck,hpk,hg,?_,hidx⟩
 have h1:=pick_len (by omega) hr
 have h2:=hg.2.1
 rcases h1 with h1|rfl
 ·omega
 ·simp at hr1;omega
def wonF (p:Prob) (b:Int) (s:Int×Int) (i:Int):Int×Int:=if(nthD p.offers i.toNat SId.off.dflt).bidder=b then((nthD p.offers i.toNat SId.off.dflt).value,s.2) else(s.1,s.2+(nthD p.offers i.toNat SId.off.dflt).value)
def wonS (p:Prob) (c:List Int) (b:Int):Int×Int:=c.foldl (wonF p b) (0,0)
def allN (p:Prob):Int:=allR p (-1) p.classes.length
def faultR (p:Prob) (c:List Int):Int:=if feasE p c≠0 then feasE p c else if valueS p c<worthR p (allN p) then 13 else 0
def r64:SCtr:=⟨64,Prob×Alloc,.cons codP (.one codA),fun a=>a.2.chosen.length≤1000000000000,fun a=> .si .i64 (faultR a.1 a.2.chosen)⟩
def r67:SCtr:=⟨67,Prob×Alloc×Int,.cons codP (.cons codA (.one (codI .i64))),fun a=>Good a.1∧a.2.1.chosen.length≤160∧∀i∈a.2.1.chosen,0≤i∧i<a.1.offers.length,
 fun a=> .tup [.si .i64 (wonS a.1 a.2.1.chosen a.2.2).1,.si .i64 (wonS a.1 a.2.1.chosen a.2.2).2]⟩
def payR (p:Prob) (c:List Int) (b:Int):Int:=if(wonS p c b).1=0 then 0 else worthR p (allR p b p.classes.length) - (wonS p c b).2
def N2:List SCtr:=r64::r67::N1
def r65:SCtr:=⟨65,Prob×Alloc×Int,.cons codP (.cons codA (.one (codI .i64))),fun a=>Good a.1∧a.2.1.chosen.length≤160∧∀i∈a.2.1.chosen,0≤i∧i<a.1.offers.length,
 fun a=> .si .i64 (payR a.1 a.2.1.chosen a.2.2)⟩
def N3:List SCtr:=r65::N2
def payRL (p:Prob) (c:List Int) (n:Nat):List Int:=(List.range n).map fun i:Nat=>payR p c i
def paysR (p:Prob) (c:List Int):List Int:=if faultR p c=0 then payRL p c p.classes.length else[]
def r18:SCtr:=⟨18,Prob×Alloc,.cons codP (.one codA),fun a=>a.2.chosen.length≤1000000000000,fun a=> .tup [.row (.i .i64) (paysR a.1 a.2.chosen),.si .i64 (faultR a.1 a.2.chosen)]⟩
def N4:List SCtr:=r18::N3
def Bun.at (b:Bun) (k:Nat):Int:=nthD [b.a0,b.a1,b.a2,b.a3,b.a4,b.a5] k 0
def outB (p:Prob) (b k:Int):Bool:=decide (p.cls.at k.toNat≠0∧p.cls.at k.toNat≠nthD p.classes b.toNat 0)
def aloneP (p:Prob) (x:Off) (k:Nat):Prop:=x.want.at k≤p.supply.at k∧(outB p x.bidder k=true→x.want.at k≤p.opn.at k)
instance (p:Prob) (x:Off) (k:Nat):Decidable (aloneP p x k):=by unfold aloneP;infer_instance
def WK:List OCtr:=[r113,r114,r116,bestC 9]
theorem hWK:∀c∈WK,HoldsO Try.prog c:=by
 simp only[WK,List.forall_mem_cons,List.not_mem_nil,false_implies,implies_true,and_true]
 exact⟨h113,h114,h116,hBest 9⟩
def lenT (a:List Int):Nat→Nat
 |0=>0
 |n+1=>if nthD a n 0=0 then lenT a n else n+1
def trimN (a:List Int):List Int:=a.take (lenT a a.length)
def r152:SCtr:=⟨152,List Int,.one (codR (.i .u32)),fun a=>a.length≤1000000000000,fun a=> .row (.i .u32) (trimN a)⟩
def Λ152 (a:List Int):Nat→LoopAnn
 |2=> .inv Int (fun n=>⟨[(0,.row (.i .u32) a),(3,.si .i64 n)],[]⟩) (fun s=>iS s 3) (fun n=>0≤n∧n≤a.length∧lenT a n.toNat=lenT a a.length) (fun n=>n.toNat) fun _ _=> .look
 |_=> .look
theorem h152:Holds Try.prog r152:=by
 refine con (L:=[]) r152 F152 Λ152 (OwnOK.none _) (by simp) (by kernel_rfl) (by kernel_rfl) (fun _=>rfl) ?_
 intro(a:List Int) (h:a.length≤1000000000000)
 refine vcOf (let z0:=SId.i .u32;let z1:=(↑a.length:Int);let z2:=SV.si .i64 z1;let z3:=(↑a.length:Int);let z4:=lenT a a.length;((((SV.row z0 a).same (SV.row z0 a)∧z2.same z2∧True)∧True)∧(0:Int)≤z1∧z1≤z3∧lenT a z1.toNat=z4)∧∀(x:Int),let z5:=decide ((0:Int)<x);let z6:=x - (1:Int);let z7:=decide (nthD a z6.toNat (0:Int)=(0:Int));let z8:=SV.si .i64 z6;(0:Int)≤x∧x≤z3∧lenT a x.toNat=z4→(z5=true→inR .i64 z6∧(0:Int)≤z6∧z6<z1∧z6.toNat<a.length∧(z7=true→inR .i64 z6∧(((SV.row z0 a).same (SV.row z0 a)∧z8.same z8∧True)∧True)∧((0:Int)≤z6∧z6≤z3∧lenT a z6.toNat=z4)∧z6.toNat<x.toNat)∧(z7=false→(0:Int)≤x∧(0:Int)≤x∧0≤x.toNat∧x.toNat≤x.toNat∧x.toNat≤a.length∧(SV.row z0 (List.take (x.toNat - 0) a)).same (SV.row z0 (trimN a))))∧(z5=false→(0:Int)≤x∧(0:Int)≤x∧0≤x.toNat∧x.toNat≤x.toNat∧x.toNat≤a.length∧(SV.row z0 (List.take (x.toNat - 0) a)).same (SV.row z0 (trimN a)))) (by kernel_rfl) ?_
 simp only[vcs]
 refine⟨⟨by omega,by omega,by simp⟩,?_⟩
 rintro n ⟨n0,n1,hn⟩
 have stop:(n.toNat=0∨0<n.toNat∧¬nthD a (n.toNat - 1) 0=0)→List.take (n.toNat - 0) a=trimN a:=fun h=>by
  unfold trimN
  rw[←hn]
  congr 1
  rcases h with h|h
  ·rw[h];rfl
  ·obtain⟨h1,h⟩:=h
   obtain⟨m,hm⟩:∃m,n.toNat=m+1:=⟨n.toNat - 1,by omega⟩
   rw[hm] at h ⊢
   simp only[Nat.add_sub_cancel] at h
   unfold lenT
   rw[if_neg h]
   rfl
 refine⟨fun h0=>⟨by omega,by omega,by omega,by omega,fun hz=>⟨by omega,⟨by omega,by omega,?_⟩,by omega⟩,fun hz=>⟨n0,n0,by omega,by omega,by omega,?_⟩⟩,fun h0=>⟨n0,n0,by omega,by omega,by omega,stop (.inl (by omega))⟩⟩
 ·rw[←hn,show n.toNat=(n - 1).toNat+1 by omega]
  rw[lenT,if_pos hz]
 ·exact stop (.inr ⟨by omega,by rw[show n.toNat - 1=(n - 1).toNat by omega];exact hz⟩)
def valN:List Int→Int
 |[]=>0
 |d::l=>d+4294967296*valN l
def Dig (a:List Int):Prop:=∀d∈a,0≤d∧d<4294967296
def Nrm:List Int→Prop
 |[]=>True
 |d::l=>(l=[]→d≠0)∧Nrm l
theorem dig_cons {d:Int} {l:List Int}:Dig (d::l)↔(0≤d∧d<4294967296)∧Dig l:=by simp[Dig]
theorem dig_take {a:List Int} (h:Dig a) (n:Nat):Dig (a.take n):=fun d hd=>h d (List.mem_of_mem_take hd)
theorem val_nonneg:∀{a:List Int},Dig a→0≤valN a
 |[],_=>Int.le_refl _
 |d::l,h=>by
  obtain⟨h1,h2⟩:=dig_cons.1 h
  have:=val_nonneg h2
  simp only[valN]
  omega
theorem val_zero:∀{a:List Int},Dig a→Nrm a→valN a=0→a=[]
 |[],_,_,_=>rfl
 |d::l,h,hn,hz=>by
  obtain⟨h1,h2⟩:=dig_cons.1 h
  have:=val_nonneg h2
  simp only[valN] at hz
  have hl:=val_zero h2 hn.2 (by omega)
  have:=hn.1 hl
  omega
theorem val_inj:∀{a b:List Int},Dig a→Dig b→Nrm a→Nrm b→valN a=valN b→a=b
 |[],b,_,hb,_,nb,h=>(val_zero hb nb h.symm).symm
 |d::l,[],ha,_,na,_,h=>val_zero ha na h
 |d::l,e::m,ha,hb,na,nb,h=>by
  obtain⟨h1,h2⟩:=dig_cons.1 ha
  obtain⟨h3,h4⟩:=dig_cons.1 hb
  have p1:=val_nonneg h2
  have p2:=val_nonneg h4
  simp only[valN] at h
  have hd:d=e:=by omega
  have hv:valN l=valN m:=by omega
  rw[hd,val_inj h2 h4 na.2 nb.2 hv]
theorem val_snoc:∀{a:List Int} {x:Int},valN (a++[x])=valN a+4294967296^a.length*x
 |[],x=>by simp[valN]
 |d::l,x=>by
  simp only[List.cons_append,valN,val_snoc,List.length_cons,Int.pow_succ,Int.mul_add]
  rw[←Int.mul_assoc,Int.mul_comm 4294967296 (4294967296^l.length)]
  omega
theorem nrm_snoc:∀{a:List Int} {x:Int},x≠0→Nrm (a++[x])
 |[],x,h=>⟨fun _=>h,trivial⟩
 |d::l,x,h=>⟨fun he=>by simp at he,nrm_snoc h⟩
theorem take_snoc {a:List Int} {n:Nat} (h:n<a.length):a.take (n+1)=a.take n++[nthD a n 0]:=by
 rw[List.take_succ_eq_append_getElem h,nthD_eq h]
theorem lenT_val {a:List Int}:∀{n:Nat},n≤a.length→valN (a.take (lenT a n))=valN (a.take n)∧Nrm (a.take (lenT a n))
 |0,_=>by simp[lenT,Nrm]
 |n+1,h=>by
  obtain⟨k1,k2⟩:=@lenT_val a n (by omega)
  have ht:=take_snoc (show n<a.length by omega)
  unfold lenT
  split
  ·rename_i hz
   rw[ht,val_snoc,hz]
   exact⟨by simp[k1],k2⟩
  ·rename_i hz
   rw[ht]
   exact⟨rfl,nrm_snoc hz⟩
theorem trim_val {a:List Int}:valN (trimN a)=valN a∧Nrm (trimN a):=by
 have:=@lenT_val a a.length (Nat.le_refl _)
 rw[List.take_length] at this
 exact this
theorem trim_dig {a:List Int} (h:Dig a):Dig (trimN a):=dig_take h _
theorem trim_len {a:List Int}:(trimN a).length≤a.length:=by unfold trimN;simp;omega
def natF:Nat→Int→List Int
 |0,_=>[]
 |k+1,n=>if n≤0 then[] else(n % 4294967296)::natF k (n / 4294967296)
def natL (n:Int):List Int:=natF n.toNat n
theorem natF_ok:∀{k:Nat} {n:Int},0≤n→n.toNat≤k→valN (natF k n)=n∧Dig (natF k n)∧Nrm (natF k n)
 |0,n,h0,h=>by
  have:n=0:=by omega
  subst this
  exact⟨rfl,by simp[natF,Dig],trivial⟩
 |k+1,n,h0,h=>by
  unfold natF
  split
  ·have:n=0:=by omega
   subst this
   exact⟨rfl,by simp[Dig],trivial⟩
  ·obtain⟨k1,k2,k3⟩:=@natF_ok k (n / 4294967296) (by omega) (by omega)
   refine⟨by simp only[valN,k1];omega,dig_cons.2 ⟨by omega,k2⟩,fun he hz=>?_,k3⟩
   rw[he] at k1
   simp only[valN] at k1
   omega
theorem natL_ok {n:Int} (h:0≤n):valN (natL n)=n∧Dig (natL n)∧Nrm (natL n):=natF_ok h (Nat.le_refl _)
theorem natL_val {a:List Int} (h:Dig a) (hn:Nrm a):natL (valN a)=a:=by
 obtain⟨h1,h2,h3⟩:=natL_ok (val_nonneg h)
 exact val_inj h2 h h3 hn h1
theorem trim_eq {a:List Int} (h:Dig a):trimN a=natL (valN a):=by
 obtain⟨h1,h2⟩:=@trim_val a
 rw[←natL_val (trim_dig h) h2,h1]
theorem val_bdN:∀{a:List Int},Dig a→valN a<4294967296^a.length
 |[],_=>by simp[valN]
 |d::l,h=>by
  obtain⟨h1,h2⟩:=dig_cons.1 h
  have:=val_bdN h2
  simp only[valN,List.length_cons,Int.pow_succ]
  omega
theorem len_lt:∀{a b:List Int},Dig a→Dig b→Nrm b→a.length<b.length→valN a<valN b
 |[],b,_,hb,nb,h=>by
  have h0:=val_nonneg hb
  have hz:valN b≠0:=fun hz=>by rw[val_zero hb nb hz] at h;simp at h
  simp only[valN]
  omega
 |d::l,[],_,_,_,h=>by simp at h
 |d::l,e::m,ha,hb,nb,h=>by
  obtain⟨h1,h2⟩:=dig_cons.1 ha
  obtain⟨h3,h4⟩:=dig_cons.1 hb
  simp only[List.length_cons] at h
  have:=len_lt h2 h4 nb.2 (by omega)
  simp only[valN]
  omega
theorem dig_lt:∀{k:Nat} {a b:List Int},Dig a→Dig b→k<a.length→k<b.length→a.drop (k+1)=b.drop (k+1)→nthD a k 0<nthD b k 0→valN a<valN b
 |_,[],_,_,_,h,_,_,_=>by simp at h
 |_,_::_,[],_,_,_,h,_,_=>by simp at h
 |0,d::l,e::m,ha,hb,_,_,h,hk=>by
  simp only[List.drop_succ_cons,List.drop_zero] at h
  subst h
  simp only[nthD,List.getElem?_cons_zero,Option.getD_some] at hk
  simp only[valN]
  omega
 |k+1,d::l,e::m,ha,hb,h1,h2,h,hk=>by
  obtain⟨a1,a2⟩:=dig_cons.1 ha
  obtain⟨b1,b2⟩:=dig_cons.1 hb
  simp only[List.drop_succ_cons] at h
  simp only[nthD,List.getElem?_cons_succ] at hk
  have:=dig_lt (k:=k) a2 b2 (by simpa using h1) (by simpa using h2) h hk
  simp only[valN]
  omega
theorem drop_nthN {a:List Int} {k:Nat} (h:k<a.length):a.drop k=nthD a k 0::a.drop (k+1):=by rw[nthD_eq h];exact List.drop_eq_getElem_cons h
def cmpN (x y:Int):Int:=if x<y then -1 else if y<x then 1 else 0
def r132:SCtr:=⟨132,List Int×List Int,.cons (codR (.i .u32)) (.one (codR (.i .u32))),fun a=>(Dig a.1∧Dig a.2)∧a.1.length≤1000000000000∧a.2.length≤1000000000000,fun a=> .si .i64 (cmpN (valN a.1) (valN a.2))⟩
def Λ132 (a:List Int×List Int):Nat→LoopAnn
 |7=> .inv Int (fun i=>⟨[(0,.row (.i .u32) (trimN a.1)),(1,.row (.i .u32) (trimN a.2)),(22,.si .i64 (trimN a.1).length),(23,.si .i64 i)],[]⟩) (fun s=>iS s 23)
  (fun i=>0≤i∧i≤(trimN a.1).length∧(trimN a.1).drop ((trimN a.1).length - i.toNat)=(trimN a.2).drop ((trimN a.1).length - i.toNat)) (fun i=>((trimN a.1).length - i).toNat) fun _ _=> .look
 |_=> .look
theorem h132:Holds Try.prog r132:=by
 refine con (L:=[r152]) r132 F132 Λ132 (OwnOK.none _) (by simpa using h152) (by kernel_rfl) (by kernel_rfl) (fun _=>rfl) ?_
 rintro⟨a,b⟩ ⟨⟨ha,hb⟩,hla,hlb⟩
 simp only at ha hb hla hlb
 refine vcOf (let z0:=(trimN a).length;let z1:=(↑z0:Int);let z2:=(trimN b).length;let z3:=(↑z2:Int);let z4:=SV.si .i64 (cmpN (valN a) (valN b));let z5:=SV.row (SId.i .u32) (trimN a);let z6:=SV.row (SId.i .u32) (trimN b);let z7:=(trimN a).length;let z8:=(↑z7:Int);let z9:=SV.si .i64 z8;let z10:=SV.il .i64 0;let z11:=z1 - (1:Int);a.length≤1000000000000∧b.length≤1000000000000∧(decide (z1≠z3)=true→(decide (z1<z3)=true→(SV.il .i64 (-1:Int)).same z4)∧(decide (z1<z3)=false→(SV.il .i64 1).same z4))∧(decide (z1≠z3)=false→(((z5.same z5∧z6.same z6∧(SV.si .i64 z1).same z9∧z10.same (SV.si .i64 0)∧True)∧True)∧(0:Int)≤(0:Int)∧(0:Int)≤z8∧List.drop (z7 - 0) (trimN a)=List.drop (z7 - 0) (trimN b))∧∀(x:Int),let z12:=(z11 - x).toNat;let z13:=nthD (trimN a) z12 (0:Int);let z14:=nthD (trimN b) z12 (0:Int);let z15:=x+(1:Int);let z16:=SV.si .i64 z15;(0:Int)≤x∧x≤z8∧List.drop (z7 - x.toNat) (trimN a)=List.drop (z7 - x.toNat) (trimN b)→(decide (x<z8)=true→inR .i64 z11∧inR .i64 (z11 - x)∧(0:Int)≤z11 - x∧z11 - x<z1∧z12<z0∧(0:Int)≤z11 - x∧z11 - x<z3∧z12<z2∧(decide (z13<z14)=true→(SV.il .i64 (-1:Int)).same z4)∧(decide (z13<z14)=false→(0:Int)≤z11 - x∧z11 - x<z1∧z12<z0∧(0:Int)≤z11 - x∧z11 - x<z3∧z12<z2∧(decide (z14<z13)=true→(SV.il .i64 1).same z4)∧(decide (z14<z13)=false→inR .i64 z15∧((z5.same z5∧z6.same z6∧z9.same z9∧z16.same z16∧True)∧True)∧((0:Int)≤z15∧z15≤z8∧List.drop (z7 - z15.toNat) (trimN a)=List.drop (z7 - z15.toNat) (trimN b))∧(z8 - z15).toNat<(z8 - x).toNat)))∧(decide (x<z8)=false→z10.same z4))) (by kernel_rfl) ?_
 simp only[vcs]
 obtain⟨va,na⟩:=@trim_val a
 obtain⟨vb,nb⟩:=@trim_val b
 have da:=trim_dig ha
 have db:=trim_dig hb
 have la:=@trim_len a
 rw[←va,←vb]
 generalize trimN a=s at*
 generalize trimN b=t at*
 have lt:valN s<valN t→ -1=cmpN (valN s) (valN t):=fun h=>by unfold cmpN;rw[if_pos h]
 have gt:valN t<valN s→1=cmpN (valN s) (valN t):=fun h=>by unfold cmpN;rw[if_neg (by omega),if_pos h]
 refine⟨hla,hlb,fun hne=>⟨fun h=>lt (len_lt da db nb (by omega)),fun h=>gt (len_lt db da na (by omega))⟩,fun he=>⟨⟨by omega,by omega,?_⟩,?_⟩⟩
 ·rw[List.drop_of_length_le (by omega),List.drop_of_length_le (by omega)]
 rintro i ⟨i0,i1,hd⟩
 refine⟨fun hlt=>?_,fun hge=>?_⟩
 ·have hk:((s.length:Int) - 1 - i).toNat=s.length - 1 - i.toNat:=by omega
  have hk2:s.length - i.toNat=s.length - 1 - i.toNat+1:=by omega
  rw[hk]
  rw[hk2] at hd
  generalize hm:s.length - 1 - i.toNat=m at*
  refine⟨by omega,by omega,by omega,by omega,by omega,by omega,by omega,by omega,fun h=>lt (dig_lt da db (by omega) (by omega) hd h),fun h=>⟨by omega,by omega,by omega,by omega,by omega,by omega,fun h2=>gt (dig_lt db da (by omega) (by omega) hd.symm h2),fun h2=>⟨by omega,⟨by omega,by omega,?_⟩,by omega⟩⟩⟩
  rw[show s.length - (i+1).toNat=m by omega,drop_nthN (show m<s.length by omega),drop_nthN (show m<t.length by omega),hd,show nthD s m 0=nthD t m 0 by omega]
 ·have hz:s.length - i.toNat=0:=by omega
  rw[hz,List.drop_zero,List.drop_zero] at hd
  subst hd
  unfold cmpN
  rw[if_neg (by omega),if_neg (by omega)]
def r128:SCtr:=⟨128,Int,.one (codI .u64),fun x=>0≤(show Int from x)∧(show Int from x)<18446744073709551616,fun x=> .row (.i .u32) (natL x)⟩
theorem h128:Holds Try.prog r128:=by
 refine con (L:=[r152]) r128 F128 (fun _ _=> .look) (OwnOK.none _) (by simpa using h152) (by kernel_rfl) (by kernel_rfl) (fun _=>rfl) ?_
 intro(x:Int) h
 obtain⟨h0,h1⟩:0≤x∧x<18446744073709551616:=h
 refine vcOf ((0:Int)≤(32:Int)∧(32:Int)≤(64:Int)∧2≤1000000000000∧(SV.row (SId.i .u32) (trimN [x % (4294967296:Int),x / (4294967296:Int) % (4294967296:Int)])).same (SV.row (SId.i .u32) (natL x))) (by kernel_rfl) ?_
 simp only[vcs]
 refine⟨by omega,by omega,by omega,?_⟩
 have hd:Dig [x % 4294967296,x / 4294967296 % 4294967296]:=by
  rw[dig_cons,dig_cons]
  exact⟨by omega,by omega,by simp[Dig]⟩
 rw[trim_eq hd]
 congr 1
 simp only[valN]
 omega
def adC (s t:List Int):Nat→Int
 |0=>0
 |i+1=>(nthD s i 0+adC s t i+nthD t i 0) / 4294967296
def adD (s t:List Int) (i:Nat):Int:=(nthD s i 0+adC s t i+nthD t i 0) % 4294967296
def adR (s t:List Int) (i:Nat):List Int:=(List.range i).map (adD s t)++List.replicate (s.length+1 - i) 0
def big (a:List Int×List Int):List Int:=if a.1.length<a.2.length then a.2 else a.1
def sml (a:List Int×List Int):List Int:=if a.1.length<a.2.length then a.1 else a.2
def r154:SCtr:=⟨154,List Int×List Int,.cons (codR (.i .u32)) (.one (codR (.i .u32))),fun a=>(Dig a.1∧Dig a.2)∧a.1.length≤100000000000∧a.2.length≤100000000000,fun a=> .row (.i .u32) (natL (valN a.1+valN a.2))⟩
def Λ154 (a:List Int×List Int):Nat→LoopAnn
 |6=> .inv Int (fun i=>⟨[(0,.row (.i .u32) (big a)),(1,.row (.i .u32) (sml a)),(5,.ow 0 (adR (big a) (sml a) i.toNat).length 1),(6,.si .u64 (adC (big a) (sml a) i.toNat)),(21,.si .i64 (big a).length),(22,.si .i64 i)],[.row (.i .u32) (adR (big a) (sml a) i.toNat) 126 true]⟩) (fun s=>iS s 22)
  (fun i=>0≤i∧i≤(big a).length) (fun i=>((big a).length - i).toNat) fun _ _=> .look
 |_=> .look
theorem dig_nth {a:List Int} (h:Dig a) (i:Nat):0≤nthD a i 0∧nthD a i 0<4294967296:=by
 by_cases hi:i<a.length
 ·rw[nthD_eq hi];exact h _ (List.getElem_mem hi)
 ·simp[nthD,List.getElem?_eq_none (by omega:a.length≤i)]
theorem nth_out {a:List Int} {i:Nat} (h:a.length≤i):nthD a i 0=0:=by simp[nthD,List.getElem?_eq_none h]
theorem adC_bd {s t:List Int} (hs:Dig s) (ht:Dig t):∀i,0≤adC s t i∧adC s t i≤1
 |0=>by simp[adC]
 |i+1=>by
  have h:=adC_bd hs ht i
  have h1:=dig_nth hs i
  have h2:=dig_nth ht i
  simp only[adC]
  omega
theorem adR_len {s t:List Int} {i:Nat} (h:i≤s.length):(adR s t i).length=s.length+1:=by simp[adR];omega
theorem adR_set {s t:List Int} {i:Nat} {v:Int} (h:i≤s.length):(adR s t i).set i v=(List.range i).map (adD s t)++v::List.replicate (s.length - i) 0:=by
 unfold adR
 have h2:s.length+1 - i=(s.length - i)+1:=by omega
 rw[h2,List.replicate_succ]
 have hl:((List.range i).map (adD s t)).length=i:=by simp
 rw[List.set_append_right _ _ (by omega),hl,Nat.sub_self,List.set_cons_zero]
theorem adR_step {s t:List Int} {i:Nat} (h:i<s.length):adR s t (i+1)=(adR s t i).set i (adD s t i):=by
 rw[adR_set (by omega)]
 unfold adR
 rw[List.range_succ,List.map_append,List.append_assoc]
 congr 1
 have h2:s.length+1 - (i+1)=s.length - i:=by omega
 rw[h2]
 rfl
theorem take_snoc0 {a:List Int} {i:Nat}:valN (a.take (i+1))=valN (a.take i)+4294967296^i*nthD a i 0:=by
 by_cases h:i<a.length
 ·rw[take_snoc h,val_snoc]
  simp[Nat.min_eq_left (Nat.le_of_lt h)]
 ·rw[nth_out (by omega),List.take_of_length_le (by omega),List.take_of_length_le (by omega)]
  simp
theorem ad_val {s t:List Int}:∀i,valN ((List.range i).map (adD s t))+4294967296^i*adC s t i=valN (s.take i)+valN (t.take i)
 |0=>by simp[adC,valN]
 |i+1=>by
  have ih:=@ad_val s t i
  rw[List.range_succ,List.map_append,List.map_cons,List.map_nil,val_snoc,take_snoc0,take_snoc0,Int.pow_succ]
  have hl:((List.range i).map (adD s t)).length=i:=by simp
  rw[hl]
  have hd:adD s t i+4294967296*adC s t (i+1)=nthD s i 0+adC s t i+nthD t i 0:=by
   simp only[adD,adC];omega
  have hm:(4294967296:Int)^i*(adD s t i+4294967296*adC s t (i+1))=4294967296^i*(nthD s i 0+adC s t i+nthD t i 0):=by rw[hd]
  simp only[Int.mul_add] at hm
  rw[←Int.mul_assoc] at hm
  omega
theorem h154:Holds Try.prog r154:=by
 refine con (L:=[r152]) r154 F154 Λ154 (OwnOK.none _) (by simpa using h152) (by kernel_rfl) (by kernel_rfl) (fun _=>rfl) ?_
 rintro⟨a,b⟩ ⟨⟨ha,hb⟩,hla,hlb⟩
 simp only at ha hb hla hlb
 refine vcOf (let z0:=(↑a.length:Int);let z1:=(↑b.length:Int);let z2:=z1+(1:Int);let z3:=SId.i .u32;let z4:=SV.row z3 (big (a,b));let z5:=SV.row z3 (sml (a,b));let z6:=adR (big (a,b)) (sml (a,b)) 0;let z7:=SV.ow 0 z6.length 1;let z8:=(↑(big (a,b)).length:Int);let z9:=SV.si .i64 z8;let z10:=SObj.row z3 z6 126 true;let z11:=(↑(big (a,b)).length:Int);let z12:=(↑(sml (a,b)).length:Int);let z13:=z0+(1:Int);(decide (z0<z1)=true→inR .i64 z2∧(0:Int)≤z2∧z2≤z2∧z2*(4:Int)≤(140737488355328:Int)∧z2≤(1000000000000:Int)∧((((SV.row z3 b).same z4∧(SV.row z3 a).same z5∧(SV.ow 0 z2.toNat 1).same z7∧(SV.il .u64 0).same (SV.si .u64 (adC (big (a,b)) (sml (a,b)) 0))∧(SV.si .i64 z1).same z9∧(SV.il .i64 0).same (SV.si .i64 0)∧True)∧(SObj.row z3 ((0:Int)::List.replicate b.length (0:Int)) 126 true).same z10∧True)∧(0:Int)≤(0:Int)∧(0:Int)≤z8)∧∀(x:Int),let z14:=adR (big (a,b)) (sml (a,b)) x.toNat;let z15:=z14.length;let z16:=x+(1:Int);let z17:=adR (big (a,b)) (sml (a,b)) z16.toNat;let z18:=adC (big (a,b)) (sml (a,b)) x.toNat;let z19:=(nthD (big (a,b)) x.toNat (0:Int) % (18446744073709551616:Int)+z18) % (18446744073709551616:Int);let z20:=(z19+nthD (sml (a,b)) x.toNat (0:Int) % (18446744073709551616:Int)) % (18446744073709551616:Int);let z21:=SV.si .u64 (adC (big (a,b)) (sml (a,b)) z16.toNat);let z22:=SV.si .i64 z16;let z23:=SObj.row z3 z17 126 true;let z24:=z14.set z11.toNat (z18 % (4294967296:Int));(0:Int)≤x∧x≤z8→(decide (x<z8)=true→(0:Int)≤x∧x<z11∧x.toNat<(big (a,b)).length∧(decide (x<z12)=true→(0:Int)≤x∧x<z12∧x.toNat<(sml (a,b)).length∧(0:Int)≤(32:Int)∧(32:Int)≤(64:Int)∧z14.length=z15∧(0:Int)≤x∧x<(↑z15:Int)∧z14.length=z15∧x.toNat<z15∧inR .i64 z16∧((z4.same z4∧z5.same z5∧(SV.ow 0 z14.length 1).same (SV.ow 0 z17.length 1)∧(SV.si .u64 (z20 / (4294967296:Int))).same z21∧z9.same z9∧z22.same z22∧True)∧(SObj.row z3 (z14.set x.toNat (z20 % (4294967296:Int))) 126 true).same z23∧True)∧((0:Int)≤z16∧z16≤z8)∧(z8 - z16).toNat<(z8 - x).toNat)∧(decide (x<z12)=false→(0:Int)≤(32:Int)∧(32:Int)≤(64:Int)∧z14.length=z15∧(0:Int)≤x∧x<(↑z15:Int)∧z14.length=z15∧x.toNat<z15∧inR .i64 z16∧((z4.same z4∧z5.same z5∧(SV.ow 0 z14.length 1).same (SV.ow 0 z17.length 1)∧(SV.si .u64 (z19 / (4294967296:Int))).same z21∧z9.same z9∧z22.same z22∧True)∧(SObj.row z3 (z14.set x.toNat (z19 % (4294967296:Int))) 126 true).same z23∧True)∧((0:Int)≤z16∧z16≤z8)∧(z8 - z16).toNat<(z8 - x).toNat))∧(decide (x<z8)=false→z14.length=z15∧(0:Int)≤z11∧z11<(↑z15:Int)∧z14.length=z15∧z11.toNat<z15∧z14.length=z24.length∧z24.length≤1000000000000∧(SV.row z3 (trimN z24)).same (SV.row z3 (natL (valN a+valN b)))))∧(decide (z0<z1)=false→inR .i64 z13∧(0:Int)≤z13∧z13≤z13∧z13*(4:Int)≤(140737488355328:Int)∧z13≤(1000000000000:Int)∧((((SV.row z3 a).same z4∧(SV.row z3 b).same z5∧(SV.ow 0 z13.toNat 1).same z7∧(SV.il .u64 0).same (SV.si .u64 (adC (big (a,b)) (sml (a,b)) 0))∧(SV.si .i64 z0).same z9∧(SV.il .i64 0).same (SV.si .i64 0)∧True)∧(SObj.row z3 ((0:Int)::List.replicate a.length (0:Int)) 126 true).same z10∧True)∧(0:Int)≤(0:Int)∧(0:Int)≤z8)∧∀(x:Int),let z25:=adR (big (a,b)) (sml (a,b)) x.toNat;let z26:=z25.length;let z27:=x+(1:Int);let z28:=adR (big (a,b)) (sml (a,b)) z27.toNat;let z29:=adC (big (a,b)) (sml (a,b)) x.toNat;let z30:=(nthD (big (a,b)) x.toNat (0:Int) % (18446744073709551616:Int)+z29) % (18446744073709551616:Int);let z31:=(z30+nthD (sml (a,b)) x.toNat (0:Int) % (18446744073709551616:Int)) % (18446744073709551616:Int);let z32:=SV.si .u64 (adC (big (a,b)) (sml (a,b)) z27.toNat);let z33:=SV.si .i64 z27;let z34:=SObj.row z3 z28 126 true;let z35:=z25.set z11.toNat (z29 % (4294967296:Int));(0:Int)≤x∧x≤z8→(decide (x<z8)=true→(0:Int)≤x∧x<z11∧x.toNat<(big (a,b)).length∧(decide (x<z12)=true→(0:Int)≤x∧x<z12∧x.toNat<(sml (a,b)).length∧(0:Int)≤(32:Int)∧(32:Int)≤(64:Int)∧z25.length=z26∧(0:Int)≤x∧x<(↑z26:Int)∧z25.length=z26∧x.toNat<z26∧inR .i64 z27∧((z4.same z4∧z5.same z5∧(SV.ow 0 z25.length 1).same (SV.ow 0 z28.length 1)∧(SV.si .u64 (z31 / (4294967296:Int))).same z32∧z9.same z9∧z33.same z33∧True)∧(SObj.row z3 (z25.set x.toNat (z31 % (4294967296:Int))) 126 true).same z34∧True)∧((0:Int)≤z27∧z27≤z8)∧(z8 - z27).toNat<(z8 - x).toNat)∧(decide (x<z12)=false→(0:Int)≤(32:Int)∧(32:Int)≤(64:Int)∧z25.length=z26∧(0:Int)≤x∧x<(↑z26:Int)∧z25.length=z26∧x.toNat<z26∧inR .i64 z27∧((z4.same z4∧z5.same z5∧(SV.ow 0 z25.length 1).same (SV.ow 0 z28.length 1)∧(SV.si .u64 (z30 / (4294967296:Int))).same z32∧z9.same z9∧z33.same z33∧True)∧(SObj.row z3 (z25.set x.toNat (z30 % (4294967296:Int))) 126 true).same z34∧True)∧((0:Int)≤z27∧z27≤z8)∧(z8 - z27).toNat<(z8 - x).toNat))∧(decide (x<z8)=false→z25.length=z26∧(0:Int)≤z11∧z11<(↑z26:Int)∧z25.length=z26∧z11.toNat<z26∧z25.length=z35.length∧z35.length≤1000000000000∧(SV.row z3 (trimN z35)).same (SV.row z3 (natL (valN a+valN b)))))) (by kernel_rfl) ?_
 simp only[vcs]
 have hbs:(a.length<b.length∧big (a,b)=b∧sml (a,b)=a)∨(¬a.length<b.length∧big (a,b)=a∧sml (a,b)=b):=by
  by_cases h:a.length<b.length
  ·exact .inl ⟨h,if_pos h,if_pos h⟩
  ·exact .inr ⟨h,if_neg h,if_neg h⟩
 generalize big (a,b)=s at*
 generalize sml (a,b)=t at*
 have hrow:∀{u v:List Int},u=v→(SObj.row (.i .u32) u 126 true).same (SObj.row (.i .u32) v 126 true):=by rintro _ _ rfl;rfl
 have how:∀{u v:Nat},u=v→(SV.ow 0 u 1).same (SV.ow 0 v 1):=by rintro _ _ rfl;rfl
 have r0:∀u v:List Int,adR u v 0=0::List.replicate u.length 0:=fun u v=>rfl
 refine⟨fun h=>?_,fun h=>?_⟩
 ·obtain⟨h1,e1,e2⟩:a.length<b.length∧s=b∧t=a:=by
   rcases hbs with h2|h2
   ·exact h2
   ·exact absurd (by omega) h2.1
  subst e1 e2
  have hS:Dig s:=by assumption
  have hT:Dig t:=by assumption
  have hts:t.length≤s.length:=by omega
  have bd:=adC_bd hS hT
  refine⟨⟨by omega,by omega⟩,by omega,by omega,by omega,by omega,⟨⟨⟨rfl,rfl,how (by rw[adR_len (by omega)];omega),rfl,rfl⟩,hrow (r0 s t).symm⟩,by omega,by omega⟩,?_⟩
  rintro i ⟨i0,i1⟩
  have l1:=@adR_len s t i.toNat (by omega)
  have b1:=bd i.toNat
  have d1:=dig_nth hS i.toNat
  have d2:=dig_nth hT i.toNat
  refine⟨fun ilt=>?_,fun ige=>?_⟩
  ·have l2:=@adR_len s t (i.toNat+1) (by omega)
   have e:(i+1).toNat=i.toNat+1:=by omega
   have hst:=adR_step (s:=s) (t:=t) (show i.toNat<s.length by omega)
   refine⟨i0,ilt,by omega,fun ht=>?_,fun ht=>?_⟩
   ·have hv:(((nthD s i.toNat 0 % 18446744073709551616+adC s t i.toNat) % 18446744073709551616+nthD t i.toNat 0 % 18446744073709551616) % 18446744073709551616)=nthD s i.toNat 0+adC s t i.toNat+nthD t i.toNat 0:=by omega
    rw[hv,e]
    exact⟨i0,ht,by omega,by omega,by omega,i0,by omega,by omega,by omega,⟨⟨how (by omega),rfl⟩,hrow hst.symm⟩,by omega,by omega⟩
   ·have hz:=nth_out (a:=t) (i:=i.toNat) (by omega)
    have hv:((nthD s i.toNat 0 % 18446744073709551616+adC s t i.toNat) % 18446744073709551616)=nthD s i.toNat 0+adC s t i.toNat+nthD t i.toNat 0:=by omega
    rw[hv,e]
    exact⟨by omega,by omega,i0,by omega,by omega,by omega,⟨⟨how (by omega),rfl⟩,hrow hst.symm⟩,by omega,by omega⟩
  ·have hi:i.toNat=s.length:=by omega
   have hc:adC s t i.toNat % 4294967296=adC s t i.toNat:=by omega
   rw[hc,Int.toNat_natCast,hi]
   rw[hi] at l1 b1
   refine⟨by omega,by omega,by omega,by simp,by simp;omega,?_⟩
   rw[adR_set (Nat.le_refl _),Nat.sub_self,List.replicate_zero,trim_eq ?_]
   ·rw[val_snoc]
    have hv:=@ad_val s t s.length
    rw[List.take_length,List.take_of_length_le hts] at hv
    have hl:((List.range s.length).map (adD s t)).length=s.length:=by simp
    rw[hl,hv]
    try rw[Int.add_comm]
   ·intro d hd
    rcases List.mem_append.1 hd with hd|hd
    ·obtain⟨j,_,rfl⟩:=List.mem_map.1 hd
     unfold adD
     omega
    ·rw[List.mem_singleton] at hd
     omega
 ·obtain⟨h1,e1,e2⟩:¬a.length<b.length∧s=a∧t=b:=by
   rcases hbs with h2|h2
   ·exact absurd h2.1 (by omega)
   ·exact h2
  subst e1 e2
  have hS:Dig s:=by assumption
  have hT:Dig t:=by assumption
  have hts:t.length≤s.length:=by omega
  have bd:=adC_bd hS hT
  refine⟨⟨by omega,by omega⟩,by omega,by omega,by omega,by omega,⟨⟨⟨rfl,rfl,how (by rw[adR_len (by omega)];omega),rfl,rfl⟩,hrow (r0 s t).symm⟩,by omega,by omega⟩,?_⟩
  rintro i ⟨i0,i1⟩
  have l1:=@adR_len s t i.toNat (by omega)
  have b1:=bd i.toNat
  have d1:=dig_nth hS i.toNat
  have d2:=dig_nth hT i.toNat
  refine⟨fun ilt=>?_,fun ige=>?_⟩
  ·have l2:=@adR_len s t (i.toNat+1) (by omega)
   have e:(i+1).toNat=i.toNat+1:=by omega
   have hst:=adR_step (s:=s) (t:=t) (show i.toNat<s.length by omega)
   refine⟨i0,ilt,by omega,fun ht=>?_,fun ht=>?_⟩
   ·have hv:(((nthD s i.toNat 0 % 18446744073709551616+adC s t i.toNat) % 18446744073709551616+nthD t i.toNat 0 % 18446744073709551616) % 18446744073709551616)=nthD s i.toNat 0+adC s t i.toNat+nthD t i.toNat 0:=by omega
    rw[hv,e]
    exact⟨i0,ht,by omega,by omega,by omega,i0,by omega,by omega,by omega,⟨⟨how (by omega),rfl⟩,hrow hst.symm⟩,by omega,by omega⟩
   ·have hz:=nth_out (a:=t) (i:=i.toNat) (by omega)
    have hv:((nthD s i.toNat 0 % 18446744073709551616+adC s t i.toNat) % 18446744073709551616)=nthD s i.toNat 0+adC s t i.toNat+nthD t i.toNat 0:=by omega
    rw[hv,e]
    exact⟨by omega,by omega,i0,by omega,by omega,by omega,⟨⟨how (by omega),rfl⟩,hrow hst.symm⟩,by omega,by omega⟩
  ·have hi:i.toNat=s.length:=by omega
   have hc:adC s t i.toNat % 4294967296=adC s t i.toNat:=by omega
   rw[hc,Int.toNat_natCast,hi]
   rw[hi] at l1 b1
   refine⟨by omega,by omega,by omega,by simp,by simp;omega,?_⟩
   rw[adR_set (Nat.le_refl _),Nat.sub_self,List.replicate_zero,trim_eq ?_]
   ·rw[val_snoc]
    have hv:=@ad_val s t s.length
    rw[List.take_length,List.take_of_length_le hts] at hv
    have hl:((List.range s.length).map (adD s t)).length=s.length:=by simp
    rw[hl,hv]
    try rw[Int.add_comm]
   ·intro d hd
    rcases List.mem_append.1 hd with hd|hd
    ·obtain⟨j,_,rfl⟩:=List.mem_map.1 hd
     unfold adD
     omega
    ·rw[List.mem_singleton] at hd
     omega
def smQ (d:Int):List Int→List Int×Int
 |[]=>([],0)
 |x::l=>(((smQ d l).2*4294967296+x) / d::(smQ d l).1,((smQ d l).2*4294967296+x) % d)
theorem smQ_len {d:Int}:∀{a:List Int},(smQ d a).1.length=a.length
 |[]=>rfl
 |x::l=>by simp[smQ,smQ_len]
theorem smQ_ok {d:Int} (h0:0<d) (h1:d<4294967296):∀{a:List Int},Dig a→Dig (smQ d a).1∧(0≤(smQ d a).2∧(smQ d a).2<d)∧valN (smQ d a).1*d+(smQ d a).2=valN a
 |[],_=>by simp[smQ,Dig,valN,h0]
 |x::l,h=>by
  obtain⟨h2,h3⟩:=dig_cons.1 h
  obtain⟨i1,⟨i2,i3⟩,i4⟩:=smQ_ok h0 h1 h3
  simp only[smQ]
  generalize (smQ d l).1=q at*
  generalize (smQ d l).2=r at*
  have hm:=Int.emod_nonneg (r*4294967296+x) (show d≠0 by omega)
  have hl:=Int.emod_lt_of_pos (r*4294967296+x) h0
  have hq0:0≤(r*4294967296+x) / d:=Int.ediv_nonneg (by omega) (by omega)
  have hq1:(r*4294967296+x) / d<4294967296:=by
   refine Int.ediv_lt_of_lt_mul h0 ?_
   have:(r+1)*4294967296≤d*4294967296:=by omega
   rw[Int.mul_comm]
   omega
  refine⟨dig_cons.2 ⟨⟨hq0,hq1⟩,i1⟩,⟨hm,hl⟩,?_⟩
  simp only[valN]
  have he:=Int.mul_ediv_add_emod (r*4294967296+x) d
  rw[Int.add_mul,Int.mul_assoc,Int.mul_comm ((r*4294967296+x) / d) d]
  rw[←i4]
  omega
theorem smQ_div {d:Int} (h0:0<d) (h1:d<4294967296) {a:List Int} (ha:Dig a):trimN (smQ d a).1=natL (valN a / d)∧(smQ d a).2=valN a % d:=by
 obtain⟨k1,⟨k2,k3⟩,k4⟩:=smQ_ok h0 h1 ha
 rw[trim_eq k1]
 have hv:=val_nonneg k1
 have e1:valN a / d=valN (smQ d a).1:=by
  rw[←k4,Int.add_comm,Int.add_mul_ediv_right _ _ (by omega),Int.ediv_eq_zero_of_lt k2 k3,Int.zero_add]
 have e2:valN a % d=(smQ d a).2:=by
  rw[←k4,Int.add_comm,Int.add_mul_emod_self_right,Int.emod_eq_of_lt k2 k3]
 rw[e1,e2]
 exact⟨rfl,rfl⟩
theorem or_add {r x:Int} (r0:0≤r) (r1:r<4294967296) (x0:0≤x) (x1:x<4294967296):binK.orI .u64 (r*4294967296) x=r*4294967296+x:=by
 obtain⟨m,rfl⟩:=Int.eq_ofNat_of_zero_le r0
 obtain⟨k,rfl⟩:=Int.eq_ofNat_of_zero_le x0
 have h1:(BitVec.ofInt 64 ((m:Int)*4294967296)).toNat=2^32*m:=by
  simp only[BitVec.toNat_ofInt]
  omega
 have h2:(BitVec.ofInt 64 (k:Int)).toNat=k:=by
  simp only[BitVec.toNat_ofInt]
  omega
 have h3:(BitVec.ofInt 64 ((m:Int)*4294967296) |||BitVec.ofInt 64 (k:Int)).toNat=2^32*m+k:=by
  rw[BitVec.toNat_or,h1,h2,Nat.two_pow_add_eq_or_of_lt (by omega)]
 show wrapI .u64 ((BitVec.ofInt 64 ((m:Int)*4294967296) |||BitVec.ofInt 64 (k:Int)).toNat:Nat)=_
 rw[h3,wrapI_eq]
 simp only[IntKind.wrap,IntKind.bits,IntKind.signed]
 simp
 omega
def r167:SCtr:=⟨167,List Int×Int,.cons (codR (.i .u32)) (.one (codI .u32)),fun a=>Dig a.1∧a.1.length≤100000000000∧0<a.2∧a.2<4294967296,fun a=> .tup [.row (.i .u32) (natL (valN a.1 / a.2)),.si .u32 (valN a.1 % a.2)]⟩
def smR (a:List Int) (d:Int) (i:Nat):List Int:=List.replicate (a.length - i) 0++(smQ d (a.drop (a.length - i))).1
def smC (a:List Int) (d:Int) (i:Nat):Int:=(smQ d (a.drop (a.length - i))).2
def Λ167 (a:List Int×Int):Nat→LoopAnn
 |4=> .inv Int (fun i=>⟨[(0,.row (.i .u32) a.1),(1,.si .u32 a.2),(6,.ow 0 (smR a.1 a.2 i.toNat).length 1),(7,.si .u64 (smC a.1 a.2 i.toNat)),(15,.si .i64 a.1.length),(16,.si .i64 i)],[.row (.i .u32) (smR a.1 a.2 i.toNat) 126 true]⟩) (fun s=>iS s 16)
  (fun i=>0≤i∧i≤a.1.length) (fun i=>(a.1.length - i).toNat) fun _ _=> .look
 |_=> .look
theorem smR_len {a:List Int} {d:Int} {i:Nat} (h:i≤a.length):(smR a d i).length=a.length:=by
 simp only[smR,smQ_len,List.length_append,List.length_replicate,List.length_drop]
 omega
theorem drop_cons {a:List Int} {k:Nat} (h:k<a.length):a.drop k=nthD a k 0::a.drop (k+1):=drop_nthN h
theorem rep_set {q:List Int} {y:Int}:∀k,(List.replicate (k+1) 0++q).set k y=List.replicate k 0++y::q
 |0=>by simp
 |k+1=>by
  have:=@rep_set q y k
  rw[List.replicate_succ,List.cons_append,List.set_cons_succ,this,List.replicate_succ,List.cons_append]
theorem u64_in {n:Int} (h0:0≤n) (h1:n<18446744073709551616):inR .u64 n:=by
 show IntKind.u64.wrap n=n
 simp only[IntKind.wrap,IntKind.bits,IntKind.signed]
 simp
 omega
theorem h167:Holds Try.prog r167:=by
 refine con (L:=[r152]) r167 F167 Λ167 (OwnOK.none _) (by simpa using h152) (by kernel_rfl) (by kernel_rfl) (fun _=>rfl) ?_
 rintro⟨a,d⟩ ⟨ha,hla,d0,d1⟩
 simp only at ha hla d0 d1
 refine vcOf (let z0:=(↑a.length:Int);let z1:=SId.i .u32;let z2:=(↑a.length:Int);let z3:=SV.si .i64 z2;let z4:=d % (18446744073709551616:Int);(0:Int)≤z0∧z0≤z0∧z0*(4:Int)≤(140737488355328:Int)∧z0≤(1000000000000:Int)∧((((SV.row z1 a).same (SV.row z1 a)∧(SV.si .u32 d).same (SV.si .u32 d)∧(SV.ow 0 z0.toNat 1).same (SV.ow 0 (smR a d 0).length 1)∧(SV.il .u64 0).same (SV.si .u64 (smC a d 0))∧(SV.si .i64 z0).same z3∧(SV.il .i64 0).same (SV.si .i64 0)∧True)∧(SObj.row z1 (List.replicate z0.toNat (0:Int)) 126 true).same (SObj.row z1 (smR a d 0) 126 true)∧True)∧(0:Int)≤(0:Int)∧(0:Int)≤z2)∧∀(x:Int),let z5:=z0 - (1:Int) - x;let z6:=binK.orI .u64 (smC a d x.toNat*(4294967296:Int) % (18446744073709551616:Int)) (nthD a z5.toNat (0:Int) % (18446744073709551616:Int));let z7:=smR a d x.toNat;let z8:=x+(1:Int);let z9:=SV.si .i64 z8;(0:Int)≤x∧x≤z2→(decide (x<z2)=true→inR .i64 (z0 - (1:Int))∧inR .i64 z5∧(0:Int)≤(32:Int)∧(32:Int)≤(64:Int)∧(0:Int)≤z5∧z5<z0∧z5.toNat<a.length∧z4≠(0:Int)∧inR .u64 (z6.tdiv z4)∧z4≠(0:Int)∧z7.length=z7.length∧(0:Int)≤z5∧z5<(↑z7.length:Int)∧z7.length=z7.length∧z5.toNat<z7.length∧inR .i64 z8∧(((SV.row z1 a).same (SV.row z1 a)∧(SV.si .u32 d).same (SV.si .u32 d)∧(SV.ow 0 z7.length 1).same (SV.ow 0 (smR a d z8.toNat).length 1)∧(SV.si .u64 (z6.tmod z4)).same (SV.si .u64 (smC a d z8.toNat))∧z3.same z3∧z9.same z9∧True)∧(SObj.row z1 (z7.set z5.toNat (z6.tdiv z4 % (4294967296:Int))) 126 true).same (SObj.row z1 (smR a d z8.toNat) 126 true)∧True)∧((0:Int)≤z8∧z8≤z2)∧(z2 - z8).toNat<(z2 - x).toNat)∧(decide (x<z2)=false→z7.length=z7.length∧z7.length≤1000000000000∧(SV.tup [SV.row z1 (trimN z7),SV.si .u32 (smC a d x.toNat % (4294967296:Int))]).same (SV.tup [SV.row z1 (natL (valN a / d)),SV.si .u32 (valN a % d)]))) (by kernel_rfl) ?_
 simp only[vcs]
 have hrow:∀{u v:List Int},u=v→(SObj.row (.i .u32) u 126 true).same (SObj.row (.i .u32) v 126 true):=by rintro _ _ rfl;rfl
 have how:∀{u v:Nat},u=v→(SV.ow 0 u 1).same (SV.ow 0 v 1):=by rintro _ _ rfl;rfl
 have z1:smR a d 0=List.replicate a.length 0:=by simp[smR,smQ]
 have z2:smC a d 0=0:=by simp[smC,smQ]
 refine⟨by omega,by omega,by omega,by omega,⟨⟨⟨how (by rw[smR_len (by omega)];omega),z2.symm⟩,hrow (by rw[z1,Int.toNat_natCast])⟩,by omega,by omega⟩,?_⟩
 rintro i ⟨i0,i1⟩
 have l1:=@smR_len a d i.toNat (by omega)
 have l2:=fun h=>@smR_len a d (i+1).toNat h
 have dd:d % 18446744073709551616=d:=by omega
 refine⟨fun ilt=>?_,fun ige=>?_⟩
 ·have hx:((a.length:Int) - 1 - i).toNat=a.length - 1 - i.toNat:=by omega
  have hk1:a.length - i.toNat=a.length - 1 - i.toNat+1:=by omega
  have hk2:a.length - (i+1).toNat=a.length - 1 - i.toNat:=by omega
  have hR:smR a d i.toNat=List.replicate (a.length - 1 - i.toNat+1) 0++(smQ d (a.drop (a.length - 1 - i.toNat+1))).1:=by unfold smR;rw[hk1]
  have hC:smC a d i.toNat=(smQ d (a.drop (a.length - 1 - i.toNat+1))).2:=by unfold smC;rw[hk1]
  have hR2:smR a d (i+1).toNat=List.replicate (a.length - 1 - i.toNat) 0++(smQ d (a.drop (a.length - 1 - i.toNat))).1:=by unfold smR;rw[hk2]
  have hC2:smC a d (i+1).toNat=(smQ d (a.drop (a.length - 1 - i.toNat))).2:=by unfold smC;rw[hk2]
  have hlt:a.length - 1 - i.toNat<a.length:=by omega
  rw[hx]
  have l3:=l2 (by omega)
  generalize a.length - 1 - i.toNat=k at*
  have hdr:=drop_cons hlt
  have hdig:Dig (a.drop k):=fun z hz=>ha z (List.mem_of_mem_drop hz)
  obtain⟨q1,q2,q3⟩:=smQ_ok d0 d1 (a:=a.drop (k+1)) (fun z hz=>ha z (List.mem_of_mem_drop hz))
  obtain⟨p1,p2,p3⟩:=smQ_ok d0 d1 hdig
  rw[hdr] at hR2 hC2 p1 p2
  simp only[smQ] at hR2 hC2 p1 p2
  have hxd:=dig_nth ha k
  rw[←hC] at hR2 hC2 p1 p2 q2
  have e1:smC a d i.toNat*4294967296 % 18446744073709551616=smC a d i.toNat*4294967296:=by omega
  have e2:nthD a k 0 % 18446744073709551616=nthD a k 0:=by omega
  rw[e1,e2,dd,or_add (by omega) (by omega) hxd.1 hxd.2]
  have hv0:0≤smC a d i.toNat*4294967296+nthD a k 0:=by omega
  rw[Int.tdiv_eq_ediv_of_nonneg hv0,Int.tmod_eq_emod_of_nonneg hv0]
  have hq:=(dig_cons.1 p1).1
  have hqm:(smC a d i.toNat*4294967296+nthD a k 0) / d % 4294967296=(smC a d i.toNat*4294967296+nthD a k 0) / d:=Int.emod_eq_of_lt hq.1 hq.2
  rw[hqm]
  refine⟨by omega,by omega,by omega,by omega,by omega,by omega,by omega,by omega,u64_in hq.1 (by omega),by omega,by omega,by omega,by omega,by omega,⟨⟨how (by omega),hC2.symm⟩,hrow ?_⟩,by omega,by omega⟩
  rw[hR2,hR,rep_set]
 ·have hi:a.length - i.toNat=0:=by omega
  have hR:smR a d i.toNat=(smQ d a).1:=by unfold smR;rw[hi];simp
  have hC:smC a d i.toNat=(smQ d a).2:=by unfold smC;rw[hi];simp
  obtain⟨k1,k2⟩:=smQ_div d0 d1 ha
  have hm:=Int.emod_nonneg (valN a) (show d≠0 by omega)
  have hl:=Int.emod_lt_of_pos (valN a) d0
  refine⟨by omega,by rw[hR,k1],?_⟩
  rw[hC,k2]
  omega
def gcdN (x y:Int):Int:=(Nat.gcd x.toNat y.toNat:Nat)
theorem gcdN_step {x y:Int} (h0:0≤x) (h1:0<y):gcdN y (x % y)=gcdN x y:=by
 unfold gcdN
 congr 1
 rw[Nat.gcd_comm x.toNat,Nat.gcd_rec y.toNat x.toNat,Nat.gcd_comm,Int.toNat_emod h0 (by omega)]
theorem gcdN_zero {x:Int} (h0:0≤x):gcdN x 0=x:=by unfold gcdN;simp;omega
def digK:Nat→Int→List Int
 |0,_=>[]
 |k+1,x=>x % 4294967296::digK k (x / 4294967296)
theorem digK_len:∀{k:Nat} {x:Int},(digK k x).length=k
 |0,_=>rfl
 |k+1,x=>by simp[digK,digK_len]
theorem digK_dig:∀{k:Nat} {x:Int},Dig (digK k x)
 |0,_=>by simp[digK,Dig]
 |k+1,x=>dig_cons.2 ⟨by omega,digK_dig⟩
theorem digK_eq:∀{l:List Int},Dig l→digK l.length (valN l)=l
 |[],_=>rfl
 |d::l,h=>by
  obtain⟨h1,h2⟩:=dig_cons.1 h
  simp only[List.length_cons,digK,valN]
  have e1:(d+4294967296*valN l) % 4294967296=d:=by omega
  have e2:(d+4294967296*valN l) / 4294967296=valN l:=by omega
  rw[e1,e2,digK_eq h2]
theorem digK_of {l:List Int} {k:Nat} {x:Int} (h:Dig l) (hk:l.length=k) (hx:valN l=x):l=digK k x:=by
 subst hk hx
 exact(digK_eq h).symm
theorem pow_pos (k:Nat):(0:Int)<4294967296^k:=Int.pow_pos (by decide)
theorem digK_val:∀{k:Nat} {x:Int},0≤x→x<4294967296^k→valN (digK k x)=x
 |0,x,h0,h1=>by simp only[Int.pow_zero] at h1;simp only[digK,valN];omega
 |k+1,x,h0,h1=>by
  rw[Int.pow_succ] at h1
  simp only[digK,valN]
  rw[digK_val (k:=k) (x:=x / 4294967296) (by omega) (by omega)]
  omega
theorem val_app:∀{a b:List Int},valN (a++b)=valN a+4294967296^a.length*valN b
 |[],b=>by simp[valN]
 |d::l,b=>by
  simp only[List.cons_append,valN,val_app,List.length_cons,Int.pow_succ,Int.mul_add]
  rw[←Int.mul_assoc,Int.mul_comm 4294967296 (4294967296^l.length)]
  omega
theorem val_set:∀{l:List Int} {j:Nat} {v:Int},j<l.length→valN (l.set j v)=valN l+4294967296^j*(v - nthD l j 0)
 |[],_,_,h=>by simp at h
 |d::l,0,v,_=>by simp[valN,nthD];omega
 |d::l,j+1,v,h=>by
  have ih:=@val_set l j v (by simpa using h)
  have hn:nthD (d::l) (j+1) 0=nthD l j 0:=by simp[nthD]
  simp only[List.set_cons_succ,valN,ih,hn,Int.pow_succ,Int.mul_add]
  rw[←Int.mul_assoc,Int.mul_comm 4294967296 (4294967296^j)]
  omega
theorem dig_set {l:List Int} {j:Nat} {v:Int} (h:Dig l) (h0:0≤v) (h1:v<4294967296):Dig (l.set j v):=by
 intro d hd
 rcases List.mem_or_eq_of_mem_set hd with hd|rfl
 ·exact h d hd
 ·exact⟨h0,h1⟩
theorem dig_drop {a:List Int} (h:Dig a) (n:Nat):Dig (a.drop n):=fun d hd=>h d (List.mem_of_mem_drop hd)
theorem dig_app {a b:List Int} (ha:Dig a) (hb:Dig b):Dig (a++b):=fun d hd=>by
 rcases List.mem_append.1 hd with h|h
 ·exact ha d h
 ·exact hb d h
theorem dig_one {x:Int} (h0:0≤x) (h1:x<4294967296):Dig [x]:=dig_cons.2 ⟨⟨h0,h1⟩,by simp[Dig]⟩
theorem nth_set_self {l:List Int} {j:Nat} {v:Int} (h:j<l.length):nthD (l.set j v) j 0=v:=by
 unfold nthD
 rw[List.getElem?_set_self h];rfl
theorem nth_set_ne {l:List Int} {i j:Nat} {v:Int} (h:i≠j):nthD (l.set i v) j 0=nthD l j 0:=by
 unfold nthD
 rw[List.getElem?_set_ne h]
theorem nth_small:∀{l:List Int} {i j:Nat},Dig l→valN l<4294967296^i→i≤j→nthD l j 0=0
 |[],_,_,_,_,_=>by simp[nthD]
 |d::l,0,j,h,hv,hj=>by
  obtain⟨h1,h2⟩:=dig_cons.1 h
  have:=val_nonneg h2
  simp only[valN,Int.pow_zero] at hv
  have hd:d=0:=by omega
  have hl:valN l=0:=by omega
  cases j with
  |zero=>simp[nthD,hd]
  |succ j=>
   have:=nth_small (l:=l) (i:=0) (j:=j) h2 (by simp;omega) (by omega)
   simpa[nthD] using this
 |d::l,i+1,j,h,hv,hj=>by
  obtain⟨h1,h2⟩:=dig_cons.1 h
  cases j with
  |zero=>omega
  |succ j=>
   rw[Int.pow_succ] at hv
   simp only[valN] at hv
   have:=nth_small (l:=l) (i:=i) (j:=j) h2 (by omega) (by omega)
   simpa[nthD] using this
def mulI (o b:List Int) (x:Int) (i:Nat):Nat→List Int×Int
 |0=>(o,0)
 |k+1=>((mulI o b x i k).1.set (i+k) ((x*nthD b k 0+nthD (mulI o b x i k).1 (i+k) 0+(mulI o b x i k).2) % 4294967296),(x*nthD b k 0+nthD (mulI o b x i k).1 (i+k) 0+(mulI o b x i k).2) / 4294967296)
theorem mulI_ok {o b:List Int} {x:Int} {i:Nat} (ho:Dig o) (hb:Dig b) (x0:0≤x) (x1:x<4294967296):∀{k:Nat},i+k≤o.length→
  Dig (mulI o b x i k).1∧(mulI o b x i k).1.length=o.length∧(0≤(mulI o b x i k).2∧(mulI o b x i k).2<4294967296)∧(∀j,i+k≤j→nthD (mulI o b x i k).1 j 0=nthD o j 0)∧
  valN (mulI o b x i k).1+4294967296^(i+k)*(mulI o b x i k).2=valN o+4294967296^i*(x*valN (b.take k))
 |0,h=>by simp[mulI,ho,valN]
 |k+1,h=>by
  obtain⟨h1,h2,⟨h3,h4⟩,h5,h6⟩:=@mulI_ok o b x i ho hb x0 x1 k (by omega)
  simp only[mulI]
  generalize (mulI o b x i k).1=p at*
  generalize (mulI o b x i k).2=c at*
  have b1:=dig_nth hb k
  have p1:=dig_nth h1 (i+k)
  have hxb:0≤x*nthD b k 0:=Int.mul_nonneg x0 b1.1
  have hxb2:x*nthD b k 0≤4294967295*4294967295:=Int.mul_le_mul (by omega) (by omega) b1.1 (by omega)
  have hlt:i+k<p.length:=by omega
  refine⟨dig_set h1 (by omega) (by omega),by simp[h2],⟨by omega,by omega⟩,fun j hj=>?_,?_⟩
  ·rw[nth_set_ne (by omega)];exact h5 j (by omega)
  ·rw[val_set hlt,take_snoc0,show i+(k+1)=i+k+1 by omega,Int.pow_succ]
   generalize ht:x*nthD b k 0+nthD p (i+k) 0+c=t at*
   have ht2:x*nthD b k 0=t - nthD p (i+k) 0 - c:=by omega
   have e1:4294967296^i*(x*(valN (b.take k)+4294967296^k*nthD b k 0))=4294967296^i*(x*valN (b.take k))+4294967296^(i+k)*(x*nthD b k 0):=by
    rw[Int.pow_add,Int.mul_add,Int.mul_add]
    congr 1
    rw[Int.mul_left_comm x,Int.mul_assoc]
   rw[e1,ht2]
   generalize (4294967296:Int)^(i+k)=B at*
   have e2:B*4294967296*(t / 4294967296)=B*(t - t % 4294967296):=by
    rw[Int.mul_assoc];congr 1;omega
   rw[e2]
   simp only[Int.mul_sub]
   omega
theorem howN {i u v:Nat} (h:u=v):(SV.ow i u 1).same (SV.ow i v 1):=by subst h;rfl
theorem rowN {u v:List Int} (h:u=v):(SV.row (.i .u32) u).same (SV.row (.i .u32) v):=by subst h;rfl
theorem nilN {l:List Int} (h:l=[]):(SV.row (.i .i64) []).same (SV.row (.i .u32) l):=by subst h;rfl
def sbO (x y:Int):SV:=.tup [.row (.i .u32) (natL (x - y)),.sb (decide (y≤x))]
theorem natL_neg {n:Int} (h:n≤0):natL n=[]:=by
 unfold natL
 rw[show n.toNat=0 by omega]
 rfl
def r155:SCtr:=⟨155,List Int×List Int,.cons (codR (.i .u32)) (.one (codR (.i .u32))),fun a=>(Dig a.1∧Dig a.2)∧a.1.length≤100000000000∧a.2.length≤100000000000,
 fun a=>sbO (valN a.1) (valN a.2)⟩
def Λ155 (a:List Int×List Int):Nat→LoopAnn
 |7=> .inv (Int×Int×List Int) (fun x=>⟨[(0,.row (.i .u32) (trimN a.1)),(1,.row (.i .u32) (trimN a.2)),(6,.ow 0 x.2.2.length 1),(7,.si .u64 x.2.1),(22,.si .i64 (trimN a.1).length),(23,.si .i64 x.1)],[.row (.i .u32) x.2.2 126 true]⟩)
  (fun s=>(iS s 23,iS s 7,oS (.i .u32) s 0))
  (fun x=>(0≤x.1∧x.1≤(trimN a.1).length)∧(0≤x.2.1∧x.2.1≤1)∧Dig x.2.2∧x.2.2.length=(trimN a.1).length∧(∀j,x.1.toNat≤j→nthD x.2.2 j 0=0)∧
   valN x.2.2 - 4294967296^x.1.toNat*x.2.1=valN ((trimN a.1).take x.1.toNat) - valN ((trimN a.2).take x.1.toNat)) (fun x=>((trimN a.1).length - x.1).toNat) fun _ _=> .look
 |_=> .look
theorem sb_step {s t row:List Int} {i:Nat} {br d v c:Int} (hs:Dig s) (ht:Dig t) (hr:Dig row) (hl:row.length=s.length) (hz:∀j,i≤j→nthD row j 0=0)
  (hv:valN row - 4294967296^i*br=valN (s.take i) - valN (t.take i)) (hi:i<s.length) (hd:d=nthD s i 0 - br - nthD t i 0) (h0:0≤v∧v<4294967296) (hc:v - 4294967296*c=d):
  Dig (row.set i v)∧(row.set i v).length=s.length∧(∀j,i+1≤j→nthD (row.set i v) j 0=0)∧valN (row.set i v) - 4294967296^(i+1)*c=valN (s.take (i+1)) - valN (t.take (i+1)):=by
 refine⟨dig_set hr h0.1 h0.2,by simp[hl],fun j hj=>by rw[nth_set_ne (by omega)];exact hz j (by omega),?_⟩
 rw[val_set (by omega),take_snoc0,take_snoc0,hz i (Nat.le_refl _),Int.pow_succ,Int.sub_zero]
 have h1:(4294967296:Int)^i*(v - 4294967296*c)=4294967296^i*(nthD s i 0 - br - nthD t i 0):=by rw[hc,hd]
 simp only[Int.mul_sub] at h1
 rw[←Int.mul_assoc] at h1
 omega
theorem h155:Holds Try.prog r155:=by
 refine con (L:=[r152,r132]) r155 F155 Λ155 (OwnOK.none _) (by simpa using⟨h152,h132⟩) (by kernel_rfl) (by kernel_rfl) (fun _=>rfl) ?_
 rintro⟨a,b⟩ ⟨⟨ha,hb⟩,hla,hlb⟩
 simp only at ha hb hla hlb
 refine vcOf (let z0:=(trimN a).length;let z1:=decide (cmpN (valN (trimN a)) (valN (trimN b))<(0:Int));let z2:=SId.i .u32;let z3:=SV.tup [SV.row z2 (natL (valN a - valN b)),SV.sb (decide (valN b≤valN a))];let z4:=(↑(trimN a).length:Int);let z5:=List.replicate z4.toNat (0:Int);let z6:=(↑z0:Int);let z7:=SV.si .i64 z6;let z8:=SObj.row z2 z5 126 true;let z9:=(↑(trimN b).length:Int);a.length≤1000000000000∧b.length≤1000000000000∧((Dig (trimN a)∧Dig (trimN b))∧z0≤1000000000000∧(trimN b).length≤1000000000000)∧(z1=true→(SV.tup [SV.row (SId.i .i64) [],SV.bl false]).same z3)∧(z1=false→(0:Int)≤z4∧z4≤z4∧z4*(4:Int)≤(140737488355328:Int)∧z4≤(1000000000000:Int)∧((((SV.row z2 (trimN a)).same (SV.row z2 (trimN a))∧(SV.row z2 (trimN b)).same (SV.row z2 (trimN b))∧(SV.ow 0 z4.toNat 1).same (SV.ow 0 z5.length 1)∧(SV.il .u64 0).same (SV.si .u64 0)∧(SV.si .i64 z4).same z7∧(SV.il .i64 0).same (SV.si .i64 0)∧True)∧z8.same z8∧True)∧((0:Int)≤(0:Int)∧(0:Int)≤z6)∧((0:Int)≤(0:Int)∧(0:Int)≤(1:Int))∧Dig z5∧z5.length=z0∧(∀(j:Nat),0≤j→nthD z5 j (0:Int)=(0:Int))∧valN z5 - (0:Int)=(0:Int))∧∀(x:Int×Int×List Int),let z10:=x.snd.snd.length;let z11:=x.fst.toNat;let z12:=x.snd.snd.length;let z13:=x.fst+(1:Int);let z14:=SV.ow 0 z10 1;let z15:=(nthD (trimN a) z11 (0:Int) % (18446744073709551616:Int) - x.snd.fst) % (18446744073709551616:Int);let z16:=(z15 - nthD (trimN b) z11 (0:Int) % (18446744073709551616:Int)) % (18446744073709551616:Int);let z17:=x.snd.snd.set z11 (z16 % (4294967296:Int));let z18:=z16 / (9223372036854775808:Int);let z19:=SV.si .u64 z18;let z20:=SV.si .i64 z13;let z21:=SObj.row z2 z17 126 true;let z22:=z13.toNat;let z23:=(4294967296:Int)^z22;let z24:=valN (List.take z22 (trimN a)) - valN (List.take z22 (trimN b));let z25:=x.snd.snd.set z11 (z15 % (4294967296:Int));let z26:=z15 / (9223372036854775808:Int);let z27:=SV.si .u64 z26;let z28:=SObj.row z2 z25 126 true;((0:Int)≤x.fst∧x.fst≤z6)∧((0:Int)≤x.snd.fst∧x.snd.fst≤(1:Int))∧Dig x.snd.snd∧z10=z0∧(∀(j:Nat),z11≤j→nthD x.snd.snd j (0:Int)=(0:Int))∧valN x.snd.snd - (4294967296:Int)^z11*x.snd.fst=valN (List.take z11 (trimN a)) - valN (List.take z11 (trimN b))→(decide (x.fst<z6)=true→(0:Int)≤x.fst∧x.fst<z4∧z11<(trimN a).length∧(decide (x.fst<z9)=true→(0:Int)≤x.fst∧x.fst<z9∧z11<(trimN b).length∧(0:Int)≤(63:Int)∧(63:Int)≤(64:Int)∧z10=z12∧(0:Int)≤x.fst∧x.fst<(↑z12:Int)∧z10=z12∧z11<z12∧inR .i64 z13∧(((SV.row z2 (trimN a)).same (SV.row z2 (trimN a))∧(SV.row z2 (trimN b)).same (SV.row z2 (trimN b))∧z14.same (SV.ow 0 z17.length 1)∧z19.same z19∧z7.same z7∧z20.same z20∧True)∧z21.same z21∧True)∧(((0:Int)≤z13∧z13≤z6)∧((0:Int)≤z18∧z18≤(1:Int))∧Dig z17∧z17.length=z0∧(∀(j:Nat),z22≤j→nthD z17 j (0:Int)=(0:Int))∧valN z17 - z23*z18=z24)∧(z6 - z13).toNat<(z6 - x.fst).toNat)∧(decide (x.fst<z9)=false→(0:Int)≤(63:Int)∧(63:Int)≤(64:Int)∧z10=z12∧(0:Int)≤x.fst∧x.fst<(↑z12:Int)∧z10=z12∧z11<z12∧inR .i64 z13∧(((SV.row z2 (trimN a)).same (SV.row z2 (trimN a))∧(SV.row z2 (trimN b)).same (SV.row z2 (trimN b))∧z14.same (SV.ow 0 z25.length 1)∧z27.same z27∧z7.same z7∧z20.same z20∧True)∧z28.same z28∧True)∧(((0:Int)≤z13∧z13≤z6)∧((0:Int)≤z26∧z26≤(1:Int))∧Dig z25∧z25.length=z0∧(∀(j:Nat),z22≤j→nthD z25 j (0:Int)=(0:Int))∧valN z25 - z23*z26=z24)∧(z6 - z13).toNat<(z6 - x.fst).toNat))∧(decide (x.fst<z6)=false→z10=z12∧z10≤1000000000000∧(SV.tup [SV.row z2 (trimN x.snd.snd),SV.bl true]).same z3))) (by kernel_rfl) ?_
 simp only[vcs]
 obtain⟨va,na⟩:=@trim_val a
 obtain⟨vb,nb⟩:=@trim_val b
 have da:=trim_dig ha
 have db:=trim_dig hb
 have la:=@trim_len a
 have lb:=@trim_len b
 have pa:=val_nonneg da
 have pb:=val_nonneg db
 rw[←va,←vb]
 generalize trimN a=s at*
 generalize trimN b=t at*
 have hr0:∀n j,nthD (List.replicate n (0:Int)) j 0=0:=fun n j=>by
  unfold nthD
  rw[List.getElem?_replicate]
  split<;>rfl
 have hd0:∀n,Dig (List.replicate n 0):=fun n d hd=>by
  have:=List.eq_of_mem_replicate hd
  omega
 have hv0:∀n,valN (List.replicate n 0)=0:=fun n=>by
  induction n with
  |zero=>rfl
  |succ n ih=>simp only[List.replicate_succ,valN,ih];omega
 refine⟨by omega,by omega,⟨⟨da,db⟩,by omega,by omega⟩,fun hlt=>?_,fun hge=>⟨by omega,by omega,by omega,by omega,?_,?_⟩⟩
 ·have hlt2:valN s<valN t:=by unfold cmpN at hlt;split at hlt<;>(try split at hlt)<;>omega
  refine⟨nilN (natL_neg (by omega)),?_⟩
  rw[eq_comm,decide_eq_false_iff_not]
  omega
 ·repeat' refine And.intro ?_ ?_
  all_goals first|omega|exact howN (by simp)|exact hd0 _|exact fun j _=>hr0 _ j|(simp;done)|(rw[hv0];rfl)
 have hge2:valN t≤valN s:=by unfold cmpN at hge;split at hge<;>(try split at hge)<;>omega
 rintro⟨i,br,row⟩ ⟨⟨i0,i1⟩,⟨b0,b1⟩,hr,hl,hz,hv⟩
 simp only at i0 i1 b0 b1 hr hl hz hv ⊢
 refine⟨fun ilt=>?_,fun ige=>?_⟩
 ·have d1:=dig_nth da i.toNat
  have d2:=dig_nth db i.toNat
  have e:(i+1).toNat=i.toNat+1:=by omega
  refine⟨i0,ilt,by omega,fun ht=>?_,fun ht=>?_⟩
  ·generalize hq:((nthD s i.toNat 0 % 18446744073709551616 - br) % 18446744073709551616 - nthD t i.toNat 0 % 18446744073709551616) % 18446744073709551616=q
   obtain⟨k1,k2,k3,k4⟩:=sb_step (v:=q % 4294967296) (c:=q / 9223372036854775808) da db hr hl hz hv (by omega) rfl (by omega) (by omega)
   rw[e]
   repeat' refine And.intro ?_ ?_
   all_goals first|omega|exact howN (by simp)|exact k1|exact k2|exact k3|exact k4
  ·have hz2:=nth_out (a:=t) (i:=i.toNat) (by omega)
   generalize hq:(nthD s i.toNat 0 % 18446744073709551616 - br) % 18446744073709551616=q
   obtain⟨k1,k2,k3,k4⟩:=sb_step (v:=q % 4294967296) (c:=q / 9223372036854775808) da db hr hl hz hv (by omega) rfl (by omega) (by omega)
   rw[e]
   repeat' refine And.intro ?_ ?_
   all_goals first|omega|exact howN (by simp)|exact k1|exact k2|exact k3|exact k4
 ·have hi:i.toNat=s.length:=by omega
  have hlen:t.length≤s.length:=by
   by_cases h:s.length<t.length
   ·have:=len_lt da db nb h
    omega
   ·omega
  rw[hi,List.take_length,List.take_of_length_le hlen] at hv
  have hbd:=val_bdN hr
  have hp:=pow_pos s.length
  rw[hl] at hbd
  have hb0:br=0:=by
   by_cases h:br=0
   ·exact h
   ·have:br=1:=by omega
    subst this
    omega
  rw[hb0,Int.mul_zero,Int.sub_zero] at hv
  refine⟨by omega,?_,?_⟩
  ·rw[trim_eq hr,hv]
  ·rw[eq_comm,decide_eq_true_eq]
   exact hge2
theorem rep_nth {n j:Nat}:nthD (List.replicate n (0:Int)) j 0=0:=by
 unfold nthD
 rw[List.getElem?_replicate]
 split<;>rfl
theorem rep_dig {n:Nat}:Dig (List.replicate n 0):=fun d hd=>by
 have:=List.eq_of_mem_replicate hd
 omega
theorem rep_val:∀{n:Nat},valN (List.replicate n 0)=0
 |0=>rfl
 |n+1=>by simp only[List.replicate_succ,valN,@rep_val n];omega
theorem mulI_succ {o b:List Int} {x:Int} {i k:Nat}:mulI o b x i (k+1)=((mulI o b x i k).1.set (i+k) ((x*nthD b k 0+nthD (mulI o b x i k).1 (i+k) 0+(mulI o b x i k).2) % 4294967296),(x*nthD b k 0+nthD (mulI o b x i k).1 (i+k) 0+(mulI o b x i k).2) / 4294967296):=rfl
def r153:SCtr:=⟨153,List Int×List Int,.cons (codR (.i .u32)) (.one (codR (.i .u32))),fun a=>(Dig a.1∧Dig a.2)∧a.1.length≤100000000000∧a.2.length≤100000000000,
 fun a=> .row (.i .u32) (natL (valN a.1*valN a.2))⟩
def stM (a:List Int×List Int) (row:List Int):SStore:=[.row (.i .u32) row 126 true]
def Λ153 (a:List Int×List Int):Nat→LoopAnn
 |3=> .inv (Int×List Int) (fun x=>⟨[(0,.row (.i .u32) a.1),(1,.row (.i .u32) a.2),(5,.ow 0 x.2.length 1),(17,.si .i64 a.1.length),(18,.si .i64 x.1)],stM a x.2⟩)
  (fun s=>(iS s 18,oS (.i .u32) s 0))
  (fun x=>(0≤x.1∧x.1≤a.1.length)∧Dig x.2∧x.2.length=a.1.length+a.2.length∧valN x.2=valN (a.1.take x.1.toNat)*valN a.2) (fun x=>(a.1.length - x.1).toNat)
  fun x=>fun
   |7=> .inv (Int×Int×List Int) (fun y=>⟨[(0,.row (.i .u32) a.1),(1,.row (.i .u32) a.2),(5,.ow 0 y.2.2.length 1),(6,.si .i64 x.1),(7,.si .u64 y.2.1),(17,.si .i64 a.1.length),(18,.si .i64 x.1),(22,.si .i64 a.2.length),(23,.si .i64 y.1)],stM a y.2.2⟩)
    (fun s=>(iS s 23,iS s 7,oS (.i .u32) s 0))
    (fun y=>(0≤y.1∧y.1≤a.2.length)∧y.2.2=(mulI x.2 a.2 (nthD a.1 x.1.toNat 0) x.1.toNat y.1.toNat).1∧y.2.1=(mulI x.2 a.2 (nthD a.1 x.1.toNat 0) x.1.toNat y.1.toNat).2) (fun y=>(a.2.length - y.1).toNat) fun _ _=> .look
   |_=> .look
 |_=> .look
theorem h153:Holds Try.prog r153:=by
 refine con (L:=[r152]) r153 F153 Λ153 (OwnOK.none _) (by simpa using h152) (by kernel_rfl) (by kernel_rfl) (fun _=>rfl) ?_
 rintro⟨a,b⟩ ⟨⟨ha,hb⟩,hla,hlb⟩
 simp only at ha hb hla hlb
 refine vcOf (let z0:=(↑a.length:Int);let z1:=(↑b.length:Int);let z2:=z0+z1;let z3:=SId.i .u32;let z4:=List.replicate z2.toNat (0:Int);let z5:=(↑a.length:Int);let z6:=SV.si .i64 z5;let z7:=SObj.row z3 z4 126 true;let z8:=a.length+b.length;let z9:=(↑b.length:Int);let z10:=SV.si .i64 z9;inR .i64 z2∧(0:Int)≤z2∧z2≤z2∧z2*(4:Int)≤(140737488355328:Int)∧z2≤(1000000000000:Int)∧((((SV.row z3 a).same (SV.row z3 a)∧(SV.row z3 b).same (SV.row z3 b)∧(SV.ow 0 z2.toNat 1).same (SV.ow 0 z4.length 1)∧(SV.si .i64 z0).same z6∧(SV.il .i64 0).same (SV.si .i64 0)∧True)∧z7.same z7∧True)∧((0:Int)≤(0:Int)∧(0:Int)≤z5)∧Dig z4∧z4.length=z8∧valN z4=valN []*valN b)∧∀(x:Int×List Int),let z11:=x.snd.length;let z12:=x.fst.toNat;let z13:=SV.ow 0 z11 1;let z14:=SV.si .i64 x.fst;let z15:=SObj.row z3 x.snd 126 true;let z16:=nthD a z12 (0:Int);let z17:=mulI x.snd b z16 z12 0;let z18:=x.fst+(1:Int);let z19:=SV.si .i64 z18;((0:Int)≤x.fst∧x.fst≤z5)∧Dig x.snd∧z11=z8∧valN x.snd=valN (List.take z12 a)*valN b→(decide (x.fst<z5)=true→((((SV.row z3 a).same (SV.row z3 a)∧(SV.row z3 b).same (SV.row z3 b)∧z13.same z13∧z14.same z14∧(SV.il .u64 0).same (SV.si .u64 0)∧z6.same z6∧z14.same z14∧(SV.si .i64 z1).same z10∧(SV.il .i64 0).same (SV.si .i64 0)∧True)∧z15.same z15∧True)∧((0:Int)≤(0:Int)∧(0:Int)≤z9)∧x.snd=z17.fst∧(0:Int)=z17.snd)∧∀(x_1:Int×Int×List Int),let z20:=mulI x.snd b z16 z12 x_1.fst.toNat;let z21:=x.fst+x_1.fst;let z22:=x_1.snd.snd.length;let z23:=x_1.fst+(1:Int);let z24:=SV.ow 0 x_1.snd.snd.length 1;let z25:=((z16 % (18446744073709551616:Int)*(nthD b x_1.fst.toNat (0:Int) % (18446744073709551616:Int)) % (18446744073709551616:Int)+nthD x_1.snd.snd z21.toNat (0:Int) % (18446744073709551616:Int)) % (18446744073709551616:Int)+x_1.snd.fst) % (18446744073709551616:Int);let z26:=x_1.snd.snd.set z21.toNat (z25 % (4294967296:Int));let z27:=z25 / (4294967296:Int);let z28:=SV.si .u64 z27;let z29:=SV.si .i64 z23;let z30:=SObj.row z3 z26 126 true;let z31:=mulI x.snd b z16 z12 z23.toNat;let z32:=x.fst+z1;let z33:=x_1.snd.snd.set z32.toNat (x_1.snd.fst % (4294967296:Int));let z34:=SObj.row z3 z33 126 true;((0:Int)≤x_1.fst∧x_1.fst≤z9)∧x_1.snd.snd=z20.fst∧x_1.snd.fst=z20.snd→(decide (x_1.fst<z9)=true→(0:Int)≤x.fst∧x.fst<z0∧z12<a.length∧(0:Int)≤x_1.fst∧x_1.fst<z1∧x_1.fst.toNat<b.length∧inR .i64 z21∧x_1.snd.snd.length=z22∧(0:Int)≤z21∧z21<(↑z22:Int)∧x_1.snd.snd.length=z22∧z21.toNat<z22∧inR .i64 z21∧(0:Int)≤(32:Int)∧(32:Int)≤(64:Int)∧x_1.snd.snd.length=z22∧(0:Int)≤z21∧z21<(↑z22:Int)∧x_1.snd.snd.length=z22∧z21.toNat<z22∧inR .i64 z23∧(((SV.row z3 a).same (SV.row z3 a)∧(SV.row z3 b).same (SV.row z3 b)∧z24.same (SV.ow 0 z26.length 1)∧z14.same z14∧z28.same z28∧z6.same z6∧z14.same z14∧z10.same z10∧z29.same z29∧True)∧z30.same z30∧True)∧(((0:Int)≤z23∧z23≤z9)∧z26=z31.fst∧z27=z31.snd)∧(z9 - z23).toNat<(z9 - x_1.fst).toNat)∧(decide (x_1.fst<z9)=false→inR .i64 z32∧x_1.snd.snd.length=z22∧(0:Int)≤z32∧z32<(↑z22:Int)∧x_1.snd.snd.length=z22∧z32.toNat<z22∧inR .i64 z18∧(((SV.row z3 a).same (SV.row z3 a)∧(SV.row z3 b).same (SV.row z3 b)∧z24.same (SV.ow 0 z33.length 1)∧z6.same z6∧z19.same z19∧True)∧z34.same z34∧True)∧(((0:Int)≤z18∧z18≤z5)∧Dig z33∧z33.length=z8∧valN z33=valN (List.take z18.toNat a)*valN b)∧(z5 - z18).toNat<(z5 - x.fst).toNat))∧(decide (x.fst<z5)=false→z11=x.snd.length∧z11≤1000000000000∧(SV.row z3 (trimN x.snd)).same (SV.row z3 (natL (valN a*valN b))))) (by kernel_rfl) ?_
 simp only[vcs]
 refine⟨by omega,by omega,by omega,by omega,by omega,?_,?_⟩
 ·repeat' refine And.intro ?_ ?_
  all_goals first|omega|exact howN (by simp)|exact rep_dig|(simp;omega)|(rw[rep_val];simp[valN])
 rintro⟨i,row⟩ ⟨⟨i0,i1⟩,hr,hl,hv⟩
 simp only at i0 i1 hr hl hv ⊢
 refine⟨fun ilt=>⟨⟨⟨by omega,by omega⟩,rfl,rfl⟩,?_⟩,fun ige=>?_⟩
 ·rintro⟨k,c,ro⟩ ⟨⟨k0,k1⟩,e1,e2⟩
  simp only at k0 k1 e1 e2 ⊢
  have x1:=dig_nth ha i.toNat
  obtain⟨m1,m2,⟨m3,m4⟩,m5,m6⟩:=@mulI_ok row b (nthD a i.toNat 0) i.toNat hr hb x1.1 x1.2 k.toNat (by omega)
  have hp:=@mulI_succ row b (nthD a i.toNat 0) i.toNat k.toNat
  generalize mulI row b (nthD a i.toNat 0) i.toNat k.toNat=M at*
  obtain⟨p,q⟩:=M
  simp only at e1 e2 m1 m2 m3 m4 m5 m6 hp
  subst e1 e2
  have hik:(i+k).toNat=i.toNat+k.toNat:=by omega
  have hk1:(k+1).toNat=k.toNat+1:=by omega
  have hi1:(i+1).toNat=i.toNat+1:=by omega
  refine⟨fun klt=>?_,fun kge=>?_⟩
  ·have x2:=dig_nth hb k.toNat
   have x3:=dig_nth m1 (i.toNat+k.toNat)
   have hxb:0≤nthD a i.toNat 0*nthD b k.toNat 0:=Int.mul_nonneg x1.1 x2.1
   have hxb2:nthD a i.toNat 0*nthD b k.toNat 0≤4294967295*4294967295:=Int.mul_le_mul (by omega) (by omega) x2.1 (by omega)
   rw[hik,hk1,hp]
   have hq:(((nthD a i.toNat 0 % 18446744073709551616*(nthD b k.toNat 0 % 18446744073709551616) % 18446744073709551616+nthD ro (i.toNat+k.toNat) 0 % 18446744073709551616) % 18446744073709551616+c) % 18446744073709551616)=nthD a i.toNat 0*nthD b k.toNat 0+nthD ro (i.toNat+k.toNat) 0+c:=by
    rw[Int.emod_eq_of_lt (a:=nthD a i.toNat 0) (by omega) (by omega),Int.emod_eq_of_lt (a:=nthD b k.toNat 0) (by omega) (by omega)]
    omega
   rw[hq]
   repeat' refine And.intro ?_ ?_
   all_goals first|omega|exact howN (by simp)|rfl
  ·have hkl:k.toNat=b.length:=by omega
   rw[show(i+(b.length:Int)).toNat=i.toNat+b.length by omega]
   rw[hkl,List.take_length] at m6
   rw[hkl] at m5
   have hz:nthD ro (i.toNat+b.length) 0=0:=by
    rw[m5 _ (Nat.le_refl _)]
    refine nth_small hr (i:=i.toNat+b.length) ?_ (Nat.le_refl _)
    rw[hv,Int.pow_add]
    have t1:=val_bdN (dig_take ha i.toNat)
    rw[List.length_take,Nat.min_eq_left (by omega)] at t1
    have t2:=val_bdN hb
    have t3:=val_nonneg (dig_take ha i.toNat)
    have t4:=val_nonneg hb
    exact Int.lt_of_le_of_lt (Int.mul_le_mul_of_nonneg_left (Int.le_of_lt t2) t3) (Int.mul_lt_mul_of_pos_right t1 (pow_pos _))
   have hc:c % 4294967296=c:=by omega
   rw[hc,hi1]
   have hfin:valN (ro.set (i.toNat+b.length) c)=valN (a.take (i.toNat+1))*valN b:=by
    rw[val_set (by omega),hz,Int.sub_zero,m6,hv,take_snoc0,Int.add_mul,Int.mul_assoc]
   repeat' refine And.intro ?_ ?_
   all_goals first|omega|exact howN (by simp)|exact dig_set m1 m3 m4|exact hfin|(rw[List.length_set];omega)
 ·have hi:i.toNat=a.length:=by omega
  rw[hi,List.take_length] at hv
  refine⟨by omega,?_⟩
  rw[trim_eq hr,hv]
theorem or_add32 {x m:Int} {k:Nat} (x0:0≤x) (x1:x<2^k) (m0:0≤m) (hy:m*2^k<4294967296) (hx:x<4294967296):binK.orI .u32 x (m*2^k)=x+m*2^k:=by
 obtain⟨a,rfl⟩:=Int.eq_ofNat_of_zero_le x0
 obtain⟨b,rfl⟩:=Int.eq_ofNat_of_zero_le m0
 have e:((b:Int)*2^k)=((2^k*b:Nat):Int):=by rw[Nat.mul_comm];push_cast;rfl
 have x1':a<2^k:=by exact_mod_cast x1
 rw[e] at hy ⊢
 generalize hc:2^k*b=c at*
 have hy':c<4294967296:=by omega
 have hx':a<4294967296:=by omega
 have h1:(BitVec.ofInt 32 ((a:Nat):Int)).toNat=a:=by rw[BitVec.toNat_ofInt];omega
 have h2:(BitVec.ofInt 32 ((c:Nat):Int)).toNat=c:=by rw[BitVec.toNat_ofInt];omega
 have hor:a |||c=a+c:=by
  rw[Nat.or_comm,←hc,←Nat.two_pow_add_eq_or_of_lt x1']
  omega
 have hlt:a+c<4294967296:=by
  rw[←hor]
  exact Nat.or_lt_two_pow (n:=32) hx' hy'
 have h3:(BitVec.ofInt 32 ((a:Nat):Int) |||BitVec.ofInt 32 ((c:Nat):Int)).toNat=a+c:=by
  rw[BitVec.toNat_or,h1,h2,hor]
 show wrapI .u32 ((BitVec.ofInt 32 ((a:Nat):Int) |||BitVec.ofInt 32 ((c:Nat):Int)).toNat:Nat)=_
 rw[h3,wrapI_eq]
 simp only[IntKind.wrap,IntKind.bits,IntKind.signed]
 simp
 omega
theorem nth_le:∀{l:List Int} {i:Nat},Dig l→4294967296^i*nthD l i 0≤valN l
 |[],i,_=>by simp[nthD,valN]
 |d::l,0,h=>by
  obtain⟨h1,h2⟩:=dig_cons.1 h
  have:=val_nonneg h2
  simp[nthD,valN]
  omega
 |d::l,i+1,h=>by
  obtain⟨h1,h2⟩:=dig_cons.1 h
  have:=@nth_le l i h2
  have e:nthD (d::l) (i+1) 0=nthD l i 0:=by simp[nthD]
  rw[e,Int.pow_succ,Int.mul_comm (4294967296^i),Int.mul_assoc]
  simp only[valN]
  omega
theorem sh_step {a row:List Int} {i k:Nat} (ha:Dig a) (hr:Dig row) (hl:row.length=a.length+1) (hi:i<a.length) (hk:k≤31) (hv:valN row=valN (a.take i)*2^k):
  Dig ((row.set i (binK.orI .u32 (nthD row i 0) (nthD a i 0 % 18446744073709551616*2^k % 18446744073709551616 % 4294967296))).set (i+1) (nthD a i 0 % 18446744073709551616*2^k % 18446744073709551616 / 4294967296 % 4294967296))∧
  valN ((row.set i (binK.orI .u32 (nthD row i 0) (nthD a i 0 % 18446744073709551616*2^k % 18446744073709551616 % 4294967296))).set (i+1) (nthD a i 0 % 18446744073709551616*2^k % 18446744073709551616 / 4294967296 % 4294967296))=valN (a.take (i+1))*2^k:=by
 have x:=dig_nth ha i
 have r:=dig_nth hr i
 have hkp:(0:Int)<2^k:=Int.pow_pos (by decide)
 have hk2:(2:Int)^k≤2147483648:=by
  have h1:(2:Nat)^k≤2^31:=Nat.pow_le_pow_right (by decide) hk
  have h2:(2:Nat)^31=2147483648:=by decide
  rw[h2] at h1
  have h3:(2:Int)^k=((2^k:Nat):Int):=by push_cast;rfl
  rw[h3]
  omega
 have hB:(4294967296:Int)=2^(32 - k)*2^k:=by
  rw[←Int.pow_add,show 32 - k+k=32 by omega]
  decide
 have hq:(0:Int)<2^(32 - k):=Int.pow_pos (by decide)
 have t0:0≤nthD a i 0*2^k:=Int.mul_nonneg x.1 (Int.le_of_lt hkp)
 have t1:nthD a i 0*2^k<4294967296*2^k:=Int.mul_lt_mul_of_pos_right x.2 hkp
 have e1:nthD a i 0 % 18446744073709551616*2^k % 18446744073709551616=nthD a i 0*2^k:=by
  rw[Int.emod_eq_of_lt (a:=nthD a i 0) (by omega) (by omega),Int.emod_eq_of_lt t0 (by omega)]
 have e2:nthD a i 0*2^k % 4294967296=(nthD a i 0 % 2^(32 - k))*2^k:=by
  conv=>lhs;rw[hB]
  rw[Int.mul_comm (nthD a i 0),Int.mul_comm (2^(32 - k)),Int.mul_emod_mul_of_pos _ _ hkp,Int.mul_comm]
 have m0:=Int.emod_nonneg (nthD a i 0) (show(2:Int)^(32 - k)≠0 by omega)
 have m1:=Int.emod_lt_of_pos (nthD a i 0) hq
 have hP:=pow_pos i
 have hvlt:valN row<4294967296^i*2^k:=by
  rw[hv]
  have:=val_bdN (dig_take ha i)
  rw[List.length_take,Nat.min_eq_left (by omega)] at this
  exact Int.mul_lt_mul_of_pos_right this hkp
 have hri:nthD row i 0<2^k:=Int.lt_of_mul_lt_mul_left (Int.lt_of_le_of_lt (nth_le hr) hvlt) (Int.le_of_lt hP)
 have hrz:nthD row (i+1) 0=0:=by
  refine nth_small hr (i:=i+1) ?_ (Nat.le_refl _)
  rw[Int.pow_succ]
  exact Int.lt_of_lt_of_le hvlt (Int.mul_le_mul_of_nonneg_left (by omega) (Int.le_of_lt hP))
 have hml:(nthD a i 0 % 2^(32 - k))*2^k+2^k≤4294967296:=by
  have:(nthD a i 0 % 2^(32 - k)+1)*2^k≤2^(32 - k)*2^k:=Int.mul_le_mul_of_nonneg_right (by omega) (Int.le_of_lt hkp)
  rw[←hB,Int.add_mul,Int.one_mul] at this
  exact this
 have hmn:0≤(nthD a i 0 % 2^(32 - k))*2^k:=Int.mul_nonneg m0 (Int.le_of_lt hkp)
 have hor:=or_add32 (k:=k) r.1 hri m0 (by omega) r.2
 rw[e1,e2,hor]
 generalize ht:nthD a i 0*2^k=t at*
 have hmt:(nthD a i 0 % 2^(32 - k))*2^k=t % 4294967296:=e2.symm
 rw[hmt] at hml hmn ⊢
 refine⟨dig_set (dig_set hr (by omega) (by omega)) (by omega) (by omega),?_⟩
 rw[val_set (by simp;omega),val_set (by omega),nth_set_ne (by omega),hrz,take_snoc0,Int.add_mul,Int.mul_assoc,ht,hv,Int.pow_succ]
 have e3:t / 4294967296 % 4294967296=t / 4294967296:=by omega
 rw[e3]
 have e4:(4294967296:Int)^i*4294967296*(t / 4294967296 - 0)=4294967296^i*(t - t % 4294967296):=by
  rw[Int.mul_assoc];congr 1;omega
 have e5:nthD row i 0+t % 4294967296 - nthD row i 0=t % 4294967296:=by omega
 rw[e4,e5,Int.mul_sub]
 omega
def shl (a:List Int) (k:Nat):List Int:=digK (a.length+1) (valN a*2^k)
abbrev ShA:=List Int×Int
def shD (a:ShA):Prop:=Dig a.1∧a.1.length≤100000000000∧0≤a.2∧a.2≤31
def r168p:SCtr:=⟨168,List Int×Int,.cons (codR (.i .u32)) (.one (codI .u64)),shD,fun a=> .row (.i .u32) (shl a.1 a.2.toNat)⟩
def r168:OCtr where
 f:=168
 α:=List Int×Int
 put a:=[.row (.i .u32) a.1,.si .u64 a.2]
 st _:=[]
 dec v o:=match v,o with
  |[v,m],[]=>match decRow (.i .u32) v,m.int .u64 with
   |some p,some m=>some (p,m)
   |_,_=>none
  |_,_=>none
 ok v o a h:=by
  split at h
  ·split at h
   ·rename_i h1 h2
    simp only[Option.some.injEq] at h;subst h
    exact⟨by simp only[gL,decRow_ok h1,int_g h2];rfl,rfl⟩
   ·cases h
  ·cases h
 inj a b h _:=by
  simp only[gL,List.cons.injEq,and_true] at h
  have h2:=h.2
  simp only[SV.g,AV.sc.injEq,Value.int.injEq,true_and] at h2
  exact Prod.ext ((codR (.i .u32)).inj _ _ h.1) h2
 dom:=shD
 res a:=.ow 0 (shl a.1 a.2.toNat).length 1
 out a:=[.row (.i .u32) (shl a.1 a.2.toNat) 126 false]
def Λ168 (a:ShA):Nat→LoopAnn
 |3=> .inv (Int×List Int) (fun x=>⟨[(0,.row (.i .u32) a.1),(1,.si .u64 a.2),(5,.ow 0 x.2.length 1),(13,.si .i64 a.1.length),(14,.si .i64 x.1)],[.row (.i .u32) x.2 126 false]⟩)
  (fun s=>(iS s 14,oS (.i .u32) s 0))
  (fun x=>(0≤x.1∧x.1≤a.1.length)∧Dig x.2∧x.2.length=a.1.length+1∧valN x.2=valN (a.1.take x.1.toNat)*2^a.2.toNat) (fun x=>(a.1.length - x.1).toNat) fun _ _=> .look
 |_=> .look
theorem h168:HoldsO Try.prog r168:=by
 refine conN (L:=[]) (W:=[]) r168 F168 (fun _=>none) Λ168 (by simp) (by simp) (by kernel_rfl) (fun _=>rfl) (fun _=>rfl) (by kernel_rfl) ?_
 rintro⟨a,s⟩ ⟨ha,hla,s0,s1⟩
 simp only at ha hla s0 s1
 refine vcOf (let z0:=(↑a.length:Int);let z1:=z0+(1:Int);let z2:=SId.i .u32;let z3:=(0:Int)::List.replicate a.length (0:Int);let z4:=(↑a.length:Int);let z5:=SV.si .i64 z4;let z6:=SObj.row z2 z3 126 false;let z7:=a.length+1;let z8:=(2:Int)^s.toNat;inR .i64 z1∧(0:Int)≤z1∧z1≤z1∧z1*(4:Int)≤(140737488355328:Int)∧z1≤(1000000000000:Int)∧((((SV.row z2 a).same (SV.row z2 a)∧(SV.si .u64 s).same (SV.si .u64 s)∧(SV.ow 0 z1.toNat 1).same (SV.ow 0 z3.length 1)∧(SV.si .i64 z0).same z5∧(SV.il .i64 0).same (SV.si .i64 0)∧True)∧z6.same z6∧True)∧((0:Int)≤(0:Int)∧(0:Int)≤z4)∧Dig z3∧z3.length=z7∧valN z3=valN []*z8)∧∀(x:Int×List Int),let z9:=x.snd.length;let z10:=x.fst.toNat;let z11:=x.snd.length;let z12:=x.fst+(1:Int);let z13:=nthD a z10 (0:Int) % (18446744073709551616:Int)*z8 % (18446744073709551616:Int);let z14:=x.snd.set z10 (binK.orI .u32 (nthD x.snd z10 (0:Int)) (z13 % (4294967296:Int)));let z15:=SV.ow 0 z9 1;let z16:=z14.set z12.toNat (z13 / (4294967296:Int) % (4294967296:Int));let z17:=SV.si .i64 z12;let z18:=SObj.row z2 z16 126 false;((0:Int)≤x.fst∧x.fst≤z4)∧Dig x.snd∧z9=z7∧valN x.snd=valN (List.take z10 a)*z8→(decide (x.fst<z4)=true→(0:Int)≤x.fst∧x.fst<z0∧z10<a.length∧(0:Int)≤s∧s≤(64:Int)∧z9=z11∧(0:Int)≤x.fst∧x.fst<(↑z11:Int)∧z9=z11∧z10<z11∧z9=z11∧(0:Int)≤x.fst∧x.fst<(↑z11:Int)∧z9=z11∧z10<z11∧inR .i64 z12∧(0:Int)≤(32:Int)∧(32:Int)≤(64:Int)∧z9=z14.length∧(0:Int)≤z12∧z12<(↑z14.length:Int)∧z9=z14.length∧z12.toNat<z14.length∧inR .i64 z12∧(((SV.row z2 a).same (SV.row z2 a)∧(SV.si .u64 s).same (SV.si .u64 s)∧z15.same (SV.ow 0 z16.length 1)∧z5.same z5∧z17.same z17∧True)∧z18.same z18∧True)∧(((0:Int)≤z12∧z12≤z4)∧Dig z16∧z16.length=z7∧valN z16=valN (List.take z12.toNat a)*z8)∧(z4 - z12).toNat<(z4 - x.fst).toNat)∧(decide (x.fst<z4)=false→z15.same (SV.ow 0 (shl a s.toNat).length 1)∧(SObj.row z2 x.snd 126 false).same (SObj.row z2 (shl a s.toNat) 126 false)∧True)) (by kernel_rfl) ?_
 simp only[vcs]
 refine⟨by omega,by omega,by omega,by omega,by omega,?_,?_⟩
 ·repeat' refine And.intro ?_ ?_
  all_goals first|omega|exact howN (by simp)|exact dig_cons.2 ⟨by omega,rep_dig⟩|(simp;done)|(simp only[valN,rep_val];omega)
 rintro⟨i,row⟩ ⟨⟨i0,i1⟩,hr,hl,hv⟩
 simp only at i0 i1 hr hl hv ⊢
 refine⟨fun ilt=>?_,fun ige=>?_⟩
 ·obtain⟨k1,k2⟩:=sh_step ha hr hl (show i.toNat<a.length by omega) (show s.toNat≤31 by omega) hv
  have e:(i+1).toNat=i.toNat+1:=by omega
  rw[e]
  repeat' refine And.intro ?_ ?_
  all_goals first|omega|exact howN (by simp)|(simp only[List.length_set];done)|(simp only[List.length_set];omega)|exact k1|exact k2
 ·have hi:i.toNat=a.length:=by omega
  rw[hi,List.take_length] at hv
  have hrow:row=shl a s.toNat:=digK_of hr hl hv
  rw[hrow]
  exact⟨rfl,rfl⟩
theorem h168p:Holds Try.prog r168p:=by
 refine con (L:=[]) r168p F168 Λ168 (OwnOK.none _) (by simp) (by kernel_rfl) (by kernel_rfl) (fun _=>rfl) ?_
 rintro⟨a,s⟩ ⟨ha,hla,s0,s1⟩
 simp only at ha hla s0 s1
 refine vcOf (let z0:=(↑a.length:Int);let z1:=z0+(1:Int);let z2:=SId.i .u32;let z3:=(0:Int)::List.replicate a.length (0:Int);let z4:=(↑a.length:Int);let z5:=SV.si .i64 z4;let z6:=SObj.row z2 z3 126 false;let z7:=a.length+1;let z8:=(2:Int)^s.toNat;inR .i64 z1∧(0:Int)≤z1∧z1≤z1∧z1*(4:Int)≤(140737488355328:Int)∧z1≤(1000000000000:Int)∧((((SV.row z2 a).same (SV.row z2 a)∧(SV.si .u64 s).same (SV.si .u64 s)∧(SV.ow 0 z1.toNat 1).same (SV.ow 0 z3.length 1)∧(SV.si .i64 z0).same z5∧(SV.il .i64 0).same (SV.si .i64 0)∧True)∧z6.same z6∧True)∧((0:Int)≤(0:Int)∧(0:Int)≤z4)∧Dig z3∧z3.length=z7∧valN z3=valN []*z8)∧∀(x:Int×List Int),let z9:=x.snd.length;let z10:=x.fst.toNat;let z11:=x.snd.length;let z12:=x.fst+(1:Int);let z13:=nthD a z10 (0:Int) % (18446744073709551616:Int)*z8 % (18446744073709551616:Int);let z14:=x.snd.set z10 (binK.orI .u32 (nthD x.snd z10 (0:Int)) (z13 % (4294967296:Int)));let z15:=z14.set z12.toNat (z13 / (4294967296:Int) % (4294967296:Int));let z16:=SV.si .i64 z12;let z17:=SObj.row z2 z15 126 false;((0:Int)≤x.fst∧x.fst≤z4)∧Dig x.snd∧z9=z7∧valN x.snd=valN (List.take z10 a)*z8→(decide (x.fst<z4)=true→(0:Int)≤x.fst∧x.fst<z0∧z10<a.length∧(0:Int)≤s∧s≤(64:Int)∧z9=z11∧(0:Int)≤x.fst∧x.fst<(↑z11:Int)∧z9=z11∧z10<z11∧z9=z11∧(0:Int)≤x.fst∧x.fst<(↑z11:Int)∧z9=z11∧z10<z11∧inR .i64 z12∧(0:Int)≤(32:Int)∧(32:Int)≤(64:Int)∧z9=z14.length∧(0:Int)≤z12∧z12<(↑z14.length:Int)∧z9=z14.length∧z12.toNat<z14.length∧inR .i64 z12∧(((SV.row z2 a).same (SV.row z2 a)∧(SV.si .u64 s).same (SV.si .u64 s)∧(SV.ow 0 z9 1).same (SV.ow 0 z15.length 1)∧z5.same z5∧z16.same z16∧True)∧z17.same z17∧True)∧(((0:Int)≤z12∧z12≤z4)∧Dig z15∧z15.length=z7∧valN z15=valN (List.take z12.toNat a)*z8)∧(z4 - z12).toNat<(z4 - x.fst).toNat)∧(decide (x.fst<z4)=false→z9=z11∧(SV.row z2 x.snd).same (SV.row z2 (shl a s.toNat)))) (by kernel_rfl) ?_
 simp only[vcs]
 refine⟨by omega,by omega,by omega,by omega,by omega,?_,?_⟩
 ·repeat' refine And.intro ?_ ?_
  all_goals first|omega|exact howN (by simp)|exact dig_cons.2 ⟨by omega,rep_dig⟩|(simp;done)|(simp only[valN,rep_val];omega)
 rintro⟨i,row⟩ ⟨⟨i0,i1⟩,hr,hl,hv⟩
 simp only at i0 i1 hr hl hv ⊢
 refine⟨fun ilt=>?_,fun ige=>?_⟩
 ·obtain⟨k1,k2⟩:=sh_step ha hr hl (show i.toNat<a.length by omega) (show s.toNat≤31 by omega) hv
  have e:(i+1).toNat=i.toNat+1:=by omega
  rw[e]
  repeat' refine And.intro ?_ ?_
  all_goals first|omega|exact howN (by simp)|(simp only[List.length_set];done)|(simp only[List.length_set];omega)|exact k1|exact k2
 ·have hi:i.toNat=a.length:=by omega
  rw[hi,List.take_length] at hv
  have hrow:row=shl a s.toNat:=digK_of hr hl hv
  rw[hrow]
def prt (U:List Int) (j k:Nat):List Int:=(U.drop j).take k
theorem nth_drop {U:List Int} {j k:Nat}:nthD (U.drop j) k 0=nthD U (j+k) 0:=by
 unfold nthD
 rw[List.getElem?_drop]
theorem prt_succ {U:List Int} {j k:Nat}:valN (prt U j (k+1))=valN (prt U j k)+4294967296^k*nthD U (j+k) 0:=by
 unfold prt
 rw[take_snoc0,nth_drop]
theorem prt_set {U:List Int} {j k i:Nat} {d:Int} (h:k≤i):prt (U.set (j+i) d) j k=prt U j k:=by
 unfold prt
 apply List.ext_getElem?
 intro m
 rw[List.getElem?_take,List.getElem?_take]
 split
 ·rw[List.getElem?_drop,List.getElem?_drop,List.getElem?_set_ne (by omega)]
 ·rfl
theorem prt_dig {U:List Int} (h:Dig U) {j k:Nat}:Dig (prt U j k):=dig_take (dig_drop h j) k
theorem prt_len {U:List Int} {j k:Nat} (h:j+k≤U.length):(prt U j k).length=k:=by
 unfold prt
 simp
 omega
theorem prt_bd {U:List Int} (h:Dig U) {j k:Nat}:valN (prt U j k)<4294967296^k:=by
 have h1:=val_bdN (prt_dig h (j:=j) (k:=k))
 have h2:(prt U j k).length≤k:=by unfold prt;simp;omega
 have h3:(4294967296:Int)^(prt U j k).length≤4294967296^k:=by
  have hp:∀{a b:Nat},a≤b→(4294967296:Int)^a≤4294967296^b:=fun {a b} hab=>by
   obtain⟨m,rfl⟩:=Nat.exists_eq_add_of_le hab
   rw[Int.pow_add]
   have q1:=pow_pos a
   have q2:=pow_pos m
   have:=Int.mul_le_mul_of_nonneg_left (show(1:Int)≤4294967296^m by omega) (Int.le_of_lt q1)
   rwa [Int.mul_one] at this
  exact hp h2
 omega
def wth (U:List Int) (j:Nat) (l:List Int):List Int:=U.take j++(l++U.drop (j+l.length))
theorem nth_ext {a b:List Int} (hl:a.length=b.length) (h:∀m,nthD a m 0=nthD b m 0):a=b:=by
 apply List.ext_getElem hl
 intro m h1 h2
 have:=h m
 rwa [nthD_eq h1,nthD_eq h2] at this
theorem wth_len {U l:List Int} {j:Nat} (h:j+l.length≤U.length):(wth U j l).length=U.length:=by
 unfold wth
 simp
 omega
theorem wth_nth {U l:List Int} {j m:Nat} (h:j+l.length≤U.length):nthD (wth U j l) m 0=if m<j then nthD U m 0 else if m<j+l.length then nthD l (m - j) 0 else nthD U m 0:=by
 unfold wth nthD
 split
 ·rename_i h1
  rw[List.getElem?_append_left (by simp;omega),List.getElem?_take,if_pos h1]
 ·rename_i h1
  rw[List.getElem?_append_right (by simp;omega)]
  have hm:min j U.length=j:=by omega
  simp only[List.length_take,hm]
  split
  ·rename_i h2
   rw[List.getElem?_append_left (by omega)]
  ·rename_i h2
   rw[List.getElem?_append_right (by omega),List.getElem?_drop]
   congr 2
   omega
theorem wth_of {U W:List Int} {j k:Nat} {x:Int} (hW:Dig W) (hl:W.length=U.length) (hj:j+k≤U.length) (ho:∀m,(m<j∨j+k≤m)→nthD W m 0=nthD U m 0) (hx:valN (prt W j k)=x):W=wth U j (digK k x):=by
 have hp:prt W j k=digK k x:=digK_of (prt_dig hW) (prt_len (by omega)) hx
 have hk:=@digK_len k x
 apply nth_ext
 ·rw[wth_len (by rw[hk];exact hj),hl]
 ·intro m
  rw[wth_nth (by rw[hk];exact hj),hk]
  split
  ·exact ho m (.inl (by assumption))
  ·split
   ·rw[←hp]
    unfold prt
    have:nthD ((W.drop j).take k) (m - j) 0=nthD (W.drop j) (m - j) 0:=by
     unfold nthD
     rw[List.getElem?_take,if_pos (by omega)]
    rw[this,nth_drop]
    congr 1
    omega
   ·exact ho m (.inr (by omega))
section
variable {P V X v1 v2 u2 top rv ru g r:Int}
theorem kn_gt (hP:0<P) (hV:V=rv+P*(v2+4294967296*v1)) (hX:X=ru+P*(u2+4294967296*top)) (hrv:0≤rv) (hru:ru<P) (hXV:X<4294967296*V) (hV0:0≤V)
  (hg0:0≤g) (hg:g*v1+r=top) (h:4294967296≤g∨r*4294967296+u2<g*v2):X<g*V:=by
 rcases h with h|h
 ·exact Int.lt_of_lt_of_le hXV (Int.mul_le_mul_of_nonneg_right h hV0)
 ·have e1:g*V=g*rv+P*(g*v2+4294967296*(top - r)):=by
   rw[hV,←hg,Int.mul_add,Int.mul_left_comm g P,Int.mul_add g,Int.mul_left_comm g 4294967296 v1]
   congr 3
   omega
  have e2:P*(u2+1+4294967296*top)≤P*(g*v2+4294967296*(top - r)):=Int.mul_le_mul_of_nonneg_left (by omega) (Int.le_of_lt hP)
  have e3:0≤g*rv:=Int.mul_nonneg hg0 hrv
  have e4:P*(u2+1+4294967296*top)=P*(u2+4294967296*top)+P:=by
   rw[show u2+1+4294967296*top=(u2+4294967296*top)+1 by omega,Int.mul_add,Int.mul_one]
  omega
theorem kn_le (hP:0<P) (hV:V=rv+P*(v2+4294967296*v1)) (hX:X=ru+P*(u2+4294967296*top)) (hrv:0≤rv) (hrv2:rv<P) (hru:0≤ru) (hv1:2147483648≤v1) (hv2:0≤v2)
  (hg0:0≤g) (hg1:g<4294967296) (hg:g*v1+r=top) (h:g*v2≤r*4294967296+u2):g*V<X+V:=by
 have e1:g*V=g*rv+P*(g*v2+4294967296*(top - r)):=by
  rw[hV,←hg,Int.mul_add,Int.mul_left_comm g P,Int.mul_add g,Int.mul_left_comm g 4294967296 v1]
  congr 3
  omega
 have e2:P*(g*v2+4294967296*(top - r))≤P*(u2+4294967296*top):=Int.mul_le_mul_of_nonneg_left (by omega) (Int.le_of_lt hP)
 have e3:g*rv≤4294967295*rv:=Int.mul_le_mul_of_nonneg_right (by omega) hrv
 have e4:P*4294967296≤P*(v2+4294967296*v1):=Int.mul_le_mul_of_nonneg_left (by omega) (Int.le_of_lt hP)
 omega
theorem kn_start (hP:0<P) (hV:V=rv+P*(v2+4294967296*v1)) (hX:X=ru+P*(u2+4294967296*top)) (hrv:0≤rv) (hru:ru<P) (hv2:0≤v2) (hu2:u2<4294967296)
  (hg0:0≤g) (hg:g*v1+r=top) (hr:r<v1):X<(g+1)*V:=by
 have e1:(g+1)*V=(g+1)*rv+((g+1)*(P*v2)+P*(4294967296*((g+1)*v1))):=by
  rw[hV,Int.mul_add,Int.mul_add P,Int.mul_add (g+1),Int.mul_left_comm (g+1) P (4294967296*v1),Int.mul_left_comm (g+1) 4294967296]
 have e2:0≤(g+1)*rv:=Int.mul_nonneg (by omega) hrv
 have e3:0≤(g+1)*(P*v2):=Int.mul_nonneg (by omega) (Int.mul_nonneg (Int.le_of_lt hP) hv2)
 have e4:top+1≤(g+1)*v1:=by rw[Int.add_mul,Int.one_mul];omega
 have e5:P*(u2+1+4294967296*top)≤P*(4294967296*((g+1)*v1)):=Int.mul_le_mul_of_nonneg_left (by omega) (Int.le_of_lt hP)
 have e6:P*(u2+1+4294967296*top)=P*(u2+4294967296*top)+P:=by
  rw[show u2+1+4294967296*top=(u2+4294967296*top)+1 by omega,Int.mul_add,Int.mul_one]
 omega
theorem kn_top {u1 un:Int} (hP:0<P) (hV:V=rv+P*(v2+4294967296*v1)) (hX:X=ru+P*(u2+4294967296*(u1+4294967296*un))) (hrv:rv<P) (hru:0≤ru) (hu2:0≤u2) (hu1:0≤u1) (hv2:v2<4294967296)
  (hXV:X<4294967296*V):un≤v1:=by
 by_cases h:un≤v1
 ·exact h
 ·exfalso
  have e1:P*(4294967296*(4294967296*(v1+1)))≤P*(u2+4294967296*(u1+4294967296*un)):=Int.mul_le_mul_of_nonneg_left (by omega) (Int.le_of_lt hP)
  have e2:P*(v2+4294967296*v1)≤P*(4294967296*(v1+1) - 1):=Int.mul_le_mul_of_nonneg_left (by omega) (Int.le_of_lt hP)
  have e3:P*(4294967296*(v1+1) - 1)=P*(4294967296*(v1+1)) - P:=by rw[Int.mul_sub,Int.mul_one]
  have e4:P*(4294967296*(4294967296*(v1+1)))=4294967296*(P*(4294967296*(v1+1))):=by rw[Int.mul_left_comm]
  omega
theorem qr_of {X V q:Int} (h0:q*V≤X) (h1:X<(q+1)*V):X / V=q∧X % V=X - q*V:=by
 rw[Int.add_mul,Int.one_mul] at h1
 have hV:0<V:=by omega
 have hx:X=(X - q*V)+V*q:=by rw[Int.mul_comm V q];omega
 have e1:X / V=q:=by
  conv=>lhs;rw[hx]
  rw[Int.add_mul_ediv_left _ _ (by omega),Int.ediv_eq_zero_of_lt (by omega) (by omega),Int.zero_add]
 refine⟨e1,?_⟩
 rw[Int.emod_def,e1,Int.mul_comm]
end
theorem and_mask {p:Int} (p0:0≤p) (p1:p<18446744073709551616):binK.andI .u64 p 4294967295=p % 4294967296:=by
 obtain⟨m,rfl⟩:=Int.eq_ofNat_of_zero_le p0
 have h1:(BitVec.ofInt 64 ((m:Nat):Int)).toNat=m:=by rw[BitVec.toNat_ofInt];omega
 have h2:(BitVec.ofInt 64 4294967295).toNat=4294967295:=by rw[BitVec.toNat_ofInt];rfl
 have h3:(BitVec.ofInt 64 ((m:Nat):Int) &&&BitVec.ofInt 64 4294967295).toNat=m % 4294967296:=by
  rw[BitVec.toNat_and,h1,h2]
  exact Nat.and_two_pow_sub_one_eq_mod m 32
 show wrapI .u64 ((BitVec.ofInt 64 ((m:Nat):Int) &&&BitVec.ofInt 64 4294967295).toNat:Nat)=_
 rw[h3,wrapI_eq]
 simp only[IntKind.wrap,IntKind.bits,IntKind.signed]
 simp
 omega
theorem ms_step {U W v:List Int} {j i:Nat} {g c b d e:Int} (hW:Dig W) (hl:W.length=U.length) (hv:Dig v) (g0:0≤g) (g1:g<4294967296) (c0:0≤c) (c1:c<4294967296) (b0:0≤b) (b1:b≤1) (hj:j+i<U.length)
  (ho:∀m,(m<j∨j+i≤m)→nthD W m 0=nthD U m 0)
  (he:valN (prt W j i)=valN (prt U j i) - g*valN (v.take i)+4294967296^i*(c+b))
  (hd0:0≤d∧d<4294967296) (hd:d - 4294967296*e=nthD W (j+i) 0 - (g*nthD v i 0+c) % 4294967296 - b):
  Dig (W.set (j+i) d)∧(W.set (j+i) d).length=U.length∧(0≤(g*nthD v i 0+c) / 4294967296∧(g*nthD v i 0+c) / 4294967296<4294967296)∧
  (∀m,(m<j∨j+(i+1)≤m)→nthD (W.set (j+i) d) m 0=nthD U m 0)∧
  valN (prt (W.set (j+i) d) j (i+1))=valN (prt U j (i+1)) - g*valN (v.take (i+1))+4294967296^(i+1)*((g*nthD v i 0+c) / 4294967296+e):=by
 have x:=dig_nth hv i
 have t0:0≤g*nthD v i 0:=Int.mul_nonneg g0 x.1
 have t1:g*nthD v i 0≤4294967295*4294967295:=Int.mul_le_mul (by omega) (by omega) x.1 (by omega)
 refine⟨dig_set hW hd0.1 hd0.2,by simp[hl],by omega,fun m hm=>by rw[nth_set_ne (by omega)];exact ho m (by omega),?_⟩
 have hu:=ho (j+i) (.inr (Nat.le_refl _))
 rw[prt_succ,prt_succ,prt_set (Nat.le_refl _),nth_set_self (by omega),he,take_snoc0,Int.pow_succ]
 rw[hu] at hd
 generalize hp:g*nthD v i 0=p at*
 have e1:g*(valN (v.take i)+4294967296^i*nthD v i 0)=g*valN (v.take i)+4294967296^i*p:=by
  rw[Int.mul_add,Int.mul_left_comm,hp]
 rw[e1]
 generalize (4294967296:Int)^i=B at*
 have e2:B*4294967296*((p+c) / 4294967296+e)=B*(4294967296*((p+c) / 4294967296+e)):=Int.mul_assoc _ _ _
 have e3:4294967296*((p+c) / 4294967296+e)=p+c - (p+c) % 4294967296+4294967296*e:=by omega
 have e4:p+c - (p+c) % 4294967296+4294967296*e=p+(c+b)+d - nthD U (j+i) 0:=by omega
 rw[e2,e3,e4]
 simp only[Int.mul_add,Int.mul_sub]
 omega
theorem ab_step {U W v:List Int} {j i:Nat} {c s:Int} (hW:Dig W) (hl:W.length=U.length) (hv:Dig v) (c0:0≤c) (c1:c≤1) (hj:j+i<U.length) (hU:Dig U)
  (ho:∀m,(m<j∨j+i≤m)→nthD W m 0=nthD U m 0)
  (he:valN (prt W j i)+4294967296^i*c=valN (prt U j i)+valN (v.take i)) (hs:s=nthD W (j+i) 0+nthD v i 0+c):
  Dig (W.set (j+i) (s % 4294967296))∧(W.set (j+i) (s % 4294967296)).length=U.length∧(0≤s / 4294967296∧s / 4294967296≤1)∧
  (∀m,(m<j∨j+(i+1)≤m)→nthD (W.set (j+i) (s % 4294967296)) m 0=nthD U m 0)∧
  valN (prt (W.set (j+i) (s % 4294967296)) j (i+1))+4294967296^(i+1)*(s / 4294967296)=valN (prt U j (i+1))+valN (v.take (i+1)):=by
 have x:=dig_nth hv i
 have y:=dig_nth hW (j+i)
 refine⟨dig_set hW (by omega) (by omega),by simp[hl],by omega,fun m hm=>by rw[nth_set_ne (by omega)];exact ho m (by omega),?_⟩
 have hu:=ho (j+i) (.inr (Nat.le_refl _))
 rw[prt_succ,prt_succ,prt_set (Nat.le_refl _),nth_set_self (by omega),take_snoc0,Int.pow_succ]
 rw[hu] at hs
 generalize (4294967296:Int)^i=B at*
 have e2:B*4294967296*(s / 4294967296)=B*(s - s % 4294967296):=by rw[Int.mul_assoc];congr 1;omega
 rw[e2,hs]
 simp only[Int.mul_add,Int.mul_sub]
 omega
theorem top_two {v:List Int} {n:Nat} (hn:2≤n) (hl:v.length=n):valN v=valN (v.take (n - 2))+4294967296^(n - 2)*(nthD v (n - 2) 0+4294967296*nthD v (n - 1) 0):=by
 obtain⟨m,rfl⟩:∃m,n=m+2:=⟨n - 2,by omega⟩
 have h1:=@take_snoc0 v (m+1)
 have h2:=@take_snoc0 v m
 rw[show m+1+1=v.length by omega,List.take_length] at h1
 rw[h1,h2,show m+2 - 2=m by omega,show m+2 - 1=m+1 by omega,Int.pow_succ,Int.mul_add,Int.mul_assoc]
 omega
theorem top_three {U:List Int} {j n:Nat} (hn:2≤n):valN (prt U j (n+1))=valN (prt U j (n - 2))+4294967296^(n - 2)*(nthD U (j+(n - 2)) 0+4294967296*(nthD U (j+(n - 1)) 0+4294967296*nthD U (j+n) 0)):=by
 obtain⟨m,rfl⟩:∃m,n=m+2:=⟨n - 2,by omega⟩
 rw[prt_succ,prt_succ,prt_succ,show m+2 - 2=m by omega,show m+2 - 1=m+1 by omega,show(4294967296:Int)^(m+2)=4294967296^m*4294967296*4294967296 from rfl,Int.pow_succ]
 generalize (4294967296:Int)^m=B
 simp only[Int.mul_add,Int.mul_assoc]
 omega
end Go.Vi
