/-
  Contracts: a new solver; the worth of a coalition.
  Conditions: none.
-/
import Derived.Test.YtigbjjkijfkeeaaOW06
import Derived.KernelRfl
set_option maxRecDepth 100000
set_option maxHeartbeats 4000000
set_option linter.unusedSimpArgs false
set_option linter.unusedVariables false
namespace Go.Vi
open Go.Proofs.Ytigbjjkijfkeeaa.Ir
open Go.Proofs
def r113:OCtr where
 f:=113
 α:=Prob
 put p:=[codP.put p]
 st _:=[]
 dec v o:=match v,o with
  |[v],[]=>codP.dec v
  |_,_=>none
 ok v o a h:=by
  split at h
  ·exact⟨by simp only[gL,codP.ok _ _ h],rfl⟩
  ·cases h
 inj a b h _:=by
  simp only[gL,List.cons.injEq,and_true] at h
  exact codP.inj _ _ h
 dom p:=Good p
 res _:=.ptr 0 0 29
 out p:=Sol.o ⟨p,L8.of p,[]⟩
def sp113:Nat→Option (Nat×Nat×Nat)
 |5=>some (11,0,8)
 |_=>none
def byT (p:Prob) (i:Int) (j:Int):List Off:=(p.offers.take i.toNat).filter fun x=>decide (x.bidder=j)
def Λ113 (p:Prob):Nat→LoopAnn
 |3=> .inv Int (fun i=>⟨[(3,.ptr 2 0 29),(11,.row .off p.offers),(12,.si .i64 p.offers.length),(13,.si .i64 i)],
  [.cells p.ss 27 20 false,.map .sit (.i .i64) true [] ([0,0,0,0,0,0,0,0,0,0,0,0,0],true) true,
   .cells [.si .i64 p.supply.a0,.si .i64 p.supply.a1,.si .i64 p.supply.a2,.si .i64 p.supply.a3,.si .i64 p.supply.a4,.si .i64 p.supply.a5,
    .si .i64 p.opn.a0,.si .i64 p.opn.a1,.si .i64 p.opn.a2,.si .i64 p.opn.a3,.si .i64 p.opn.a4,.si .i64 p.opn.a5,
    .si .i64 p.cls.a0,.si .i64 p.cls.a1,.si .i64 p.cls.a2,.si .i64 p.cls.a3,.si .i64 p.cls.a4,.si .i64 p.cls.a5,
    .row (.i .i64) p.classes,.row .off p.offers,.ow 3 (byT p i 0).length 8,.ow 4 (byT p i 1).length 8,.ow 5 (byT p i 2).length 8,.ow 6 (byT p i 3).length 8,.ow 7 (byT p i 4).length 8,.ow 8 (byT p i 5).length 8,.ow 9 (byT p i 6).length 8,.ow 10 (byT p i 7).length 8,.mp 1] 174 29 false,
   .row .off (byT p i 0) 43 true,.row .off (byT p i 1) 43 true,.row .off (byT p i 2) 43 true,.row .off (byT p i 3) 43 true,.row .off (byT p i 4) 43 true,.row .off (byT p i 5) 43 true,.row .off (byT p i 6) 43 true,.row .off (byT p i 7) 43 true]⟩)
  (fun s=>iS s 13) (fun i=>0≤i∧i≤p.offers.length) (fun i=>(p.offers.length - i).toNat) fun _ _=> .look
 |_=> .look
theorem byT_hit {p:Prob} {i:Int} {j:Int} (h0:0≤i) (h1:i<p.offers.length) (h:(nthD p.offers i.toNat SId.off.dflt).bidder=j):byT p (i+1) j=byT p i j++[nthD p.offers i.toNat SId.off.dflt]:=by
 unfold byT
 rw[take_nth (d:=SId.off.dflt) h0 h1,List.filter_append]
 simp[h]
theorem byT_miss {p:Prob} {i:Int} {j:Int} (h0:0≤i) (h1:i<p.offers.length) (h:(nthD p.offers i.toNat SId.off.dflt).bidder≠j):byT p (i+1) j=byT p i j:=by
 unfold byT
 rw[take_nth (d:=SId.off.dflt) h0 h1,List.filter_append]
 simp[h]
theorem h113:HoldsO Try.prog r113:=by
 refine conN (L:=[]) (W:=[]) r113 F113 sp113 Λ113 (by simp) (by simp) (by kernel_rfl) (fun _=>rfl) (fun _=>rfl) (by kernel_rfl) ?_
 intro(p:Prob) (hp:Good p)
 refine vcOf (let z0:=SV.ptr 2 0 29;let z1:=SV.row SId.off p.offers;let z2:=(↑p.offers.length:Int);let z3:=(↑p.offers.length:Int);let z4:=SV.si .i64 z3;let z5:=SV.si .i64 p.supply.a0;let z6:=SV.si .i64 p.supply.a1;let z7:=SV.si .i64 p.supply.a2;let z8:=SV.si .i64 p.supply.a3;let z9:=SV.si .i64 p.supply.a4;let z10:=SV.si .i64 p.supply.a5;let z11:=SV.si .i64 p.opn.a0;let z12:=SV.si .i64 p.opn.a1;let z13:=SV.si .i64 p.opn.a2;let z14:=SV.si .i64 p.opn.a3;let z15:=SV.si .i64 p.opn.a4;let z16:=SV.si .i64 p.opn.a5;let z17:=SV.si .i64 p.cls.a0;let z18:=SV.si .i64 p.cls.a1;let z19:=SV.si .i64 p.cls.a2;let z20:=SV.si .i64 p.cls.a3;let z21:=SV.si .i64 p.cls.a4;let z22:=SV.si .i64 p.cls.a5;let z23:=SV.row (SId.i .i64) p.classes;let z24:=SObj.cells [z5,z6,z7,z8,z9,z10,z11,z12,z13,z14,z15,z16,z17,z18,z19,z20,z21,z22,z23,z1] 27 20 false;let z25:=SObj.map SId.sit (SId.i .i64) true [] ([0,0,0,0,0,0,0,0,0,0,0,0,0],true) true;let z26:=[SV.mp 1];let z27:=byT p (0:Int) (0:Int);let z28:=byT p (0:Int) (1:Int);let z29:=byT p (0:Int) (2:Int);let z30:=byT p (0:Int) (3:Int);let z31:=byT p (0:Int) (4:Int);let z32:=byT p (0:Int) (5:Int);let z33:=byT p (0:Int) (6:Int);let z34:=byT p (0:Int) (7:Int);let z35:=SObj.row SId.off [] 43 true;let z36:=SV.ptr 0 0 29;(((z0.same z0∧z1.same z1∧(SV.si .i64 z2).same z4∧(SV.il .i64 0).same (SV.si .i64 0)∧True)∧z24.same z24∧z25.same z25∧(SObj.cells (z5::z6::z7::z8::z9::z10::z11::z12::z13::z14::z15::z16::z17::z18::z19::z20::z21::z22::z23::z1::SV.ow 3 0 8::SV.ow 4 0 8::SV.ow 5 0 8::SV.ow 6 0 8::SV.ow 7 0 8::SV.ow 8 0 8::SV.ow 9 0 8::SV.ow 10 0 8::z26) 174 29 false).same (SObj.cells (z5::z6::z7::z8::z9::z10::z11::z12::z13::z14::z15::z16::z17::z18::z19::z20::z21::z22::z23::z1::SV.ow 3 z27.length 8::SV.ow 4 z28.length 8::SV.ow 5 z29.length 8::SV.ow 6 z30.length 8::SV.ow 7 z31.length 8::SV.ow 8 z32.length 8::SV.ow 9 z33.length 8::SV.ow 10 z34.length 8::z26) 174 29 false)∧z35.same (SObj.row SId.off z27 43 true)∧z35.same (SObj.row SId.off z28 43 true)∧z35.same (SObj.row SId.off z29 43 true)∧z35.same (SObj.row SId.off z30 43 true)∧z35.same (SObj.row SId.off z31 43 true)∧z35.same (SObj.row SId.off z32 43 true)∧z35.same (SObj.row SId.off z33 43 true)∧z35.same (SObj.row SId.off z34 43 true)∧True)∧(0:Int)≤(0:Int)∧(0:Int)≤z3)∧∀(x:Int),let z37:=nthD p.offers x.toNat SId.off.dflt;let z38:=z37.bidder;let z39:=byT p x (0:Int);let z40:=z39.length+1;let z41:=x+(1:Int);let z42:=SV.si .i64 z41;let z43:=z37.want;let z44:=z37.value;let z45:=z39++[Off.mk (0:Int) z43 z44];let z46:=byT p x (1:Int);let z47:=SV.ow 4 z46.length 8;let z48:=byT p x (2:Int);let z49:=SV.ow 5 z48.length 8;let z50:=byT p x (3:Int);let z51:=SV.ow 6 z50.length 8;let z52:=byT p x (4:Int);let z53:=SV.ow 7 z52.length 8;let z54:=byT p x (5:Int);let z55:=SV.ow 8 z54.length 8;let z56:=byT p x (6:Int);let z57:=SV.ow 9 z56.length 8;let z58:=byT p x (7:Int);let z59:=SV.ow 10 z58.length 8::z26;let z60:=z53::z55::z57::z59;let z61:=SObj.cells (z5::z6::z7::z8::z9::z10::z11::z12::z13::z14::z15::z16::z17::z18::z19::z20::z21::z22::z23::z1::SV.ow 3 (byT p z41 (0:Int)).length 8::SV.ow 4 (byT p z41 (1:Int)).length 8::SV.ow 5 (byT p z41 (2:Int)).length 8::SV.ow 6 (byT p z41 (3:Int)).length 8::SV.ow 7 (byT p z41 (4:Int)).length 8::SV.ow 8 (byT p z41 (5:Int)).length 8::SV.ow 9 (byT p z41 (6:Int)).length 8::SV.ow 10 (byT p z41 (7:Int)).length 8::z26) 174 29 false;let z62:=SObj.row SId.off (byT p z41 (0:Int)) 43 true;let z63:=SObj.row SId.off (byT p z41 (1:Int)) 43 true;let z64:=SObj.row SId.off (byT p z41 (2:Int)) 43 true;let z65:=SObj.row SId.off (byT p z41 (3:Int)) 43 true;let z66:=SObj.row SId.off (byT p z41 (4:Int)) 43 true;let z67:=SObj.row SId.off (byT p z41 (5:Int)) 43 true;let z68:=SObj.row SId.off (byT p z41 (6:Int)) 43 true;let z69:=SObj.row SId.off (byT p z41 (7:Int)) 43 true;let z70:=z46.length+1;let z71:=SV.ow 3 z39.length 8;let z72:=z46++[Off.mk (1:Int) z43 z44];let z73:=z48.length+1;let z74:=z48++[Off.mk (2:Int) z43 z44];let z75:=z50.length+1;let z76:=z50++[Off.mk (3:Int) z43 z44];let z77:=z52.length+1;let z78:=z52++[Off.mk (4:Int) z43 z44];let z79:=z54.length+1;let z80:=z54++[Off.mk (5:Int) z43 z44];let z81:=z56.length+1;let z82:=z56++[Off.mk (6:Int) z43 z44];let z83:=z58.length+1;let z84:=z58++[Off.mk (7:Int) z43 z44];(0:Int)≤x∧x≤z3→(decide (x<z3)=true→(0:Int)≤x∧x<z2∧x.toNat<p.offers.length∧(z38=(0:Int)→1=1∧z39.length=z39.length∧z40*64≤140737488355328∧z40≤1000000000000∧inR .i64 z41∧((z0.same z0∧z1.same z1∧z4.same z4∧z42.same z42∧True)∧z24.same z24∧z25.same z25∧(SObj.cells (z5::z6::z7::z8::z9::z10::z11::z12::z13::z14::z15::z16::z17::z18::z19::z20::z21::z22::z23::z1::SV.ow 3 z45.length 8::z47::z49::z51::z60) 174 29 false).same z61∧(SObj.row SId.off z45 43 true).same z62∧(SObj.row SId.off z46 43 true).same z63∧(SObj.row SId.off z48 43 true).same z64∧(SObj.row SId.off z50 43 true).same z65∧(SObj.row SId.off z52 43 true).same z66∧(SObj.row SId.off z54 43 true).same z67∧(SObj.row SId.off z56 43 true).same z68∧(SObj.row SId.off z58 43 true).same z69∧True)∧((0:Int)≤z41∧z41≤z3)∧(z3 - z41).toNat<(z3 - x).toNat)∧(z38=(1:Int)→1=1∧z46.length=z46.length∧z70*64≤140737488355328∧z70≤1000000000000∧inR .i64 z41∧((z0.same z0∧z1.same z1∧z4.same z4∧z42.same z42∧True)∧z24.same z24∧z25.same z25∧(SObj.cells (z5::z6::z7::z8::z9::z10::z11::z12::z13::z14::z15::z16::z17::z18::z19::z20::z21::z22::z23::z1::z71::SV.ow 4 z72.length 8::z49::z51::z60) 174 29 false).same z61∧(SObj.row SId.off z39 43 true).same z62∧(SObj.row SId.off z72 43 true).same z63∧(SObj.row SId.off z48 43 true).same z64∧(SObj.row SId.off z50 43 true).same z65∧(SObj.row SId.off z52 43 true).same z66∧(SObj.row SId.off z54 43 true).same z67∧(SObj.row SId.off z56 43 true).same z68∧(SObj.row SId.off z58 43 true).same z69∧True)∧((0:Int)≤z41∧z41≤z3)∧(z3 - z41).toNat<(z3 - x).toNat)∧(z38=(2:Int)→1=1∧z48.length=z48.length∧z73*64≤140737488355328∧z73≤1000000000000∧inR .i64 z41∧((z0.same z0∧z1.same z1∧z4.same z4∧z42.same z42∧True)∧z24.same z24∧z25.same z25∧(SObj.cells (z5::z6::z7::z8::z9::z10::z11::z12::z13::z14::z15::z16::z17::z18::z19::z20::z21::z22::z23::z1::z71::z47::SV.ow 5 z74.length 8::z51::z60) 174 29 false).same z61∧(SObj.row SId.off z39 43 true).same z62∧(SObj.row SId.off z46 43 true).same z63∧(SObj.row SId.off z74 43 true).same z64∧(SObj.row SId.off z50 43 true).same z65∧(SObj.row SId.off z52 43 true).same z66∧(SObj.row SId.off z54 43 true).same z67∧(SObj.row SId.off z56 43 true).same z68∧(SObj.row SId.off z58 43 true).same z69∧True)∧((0:Int)≤z41∧z41≤z3)∧(z3 - z41).toNat<(z3 - x).toNat)∧(z38=(3:Int)→1=1∧z50.length=z50.length∧z75*64≤140737488355328∧z75≤1000000000000∧inR .i64 z41∧((z0.same z0∧z1.same z1∧z4.same z4∧z42.same z42∧True)∧z24.same z24∧z25.same z25∧(SObj.cells (z5::z6::z7::z8::z9::z10::z11::z12::z13::z14::z15::z16::z17::z18::z19::z20::z21::z22::z23::z1::z71::z47::z49::SV.ow 6 z76.length 8::z60) 174 29 false).same z61∧(SObj.row SId.off z39 43 true).same z62∧(SObj.row SId.off z46 43 true).same z63∧(SObj.row SId.off z48 43 true).same z64∧(SObj.row SId.off z76 43 true).same z65∧(SObj.row SId.off z52 43 true).same z66∧(SObj.row SId.off z54 43 true).same z67∧(SObj.row SId.off z56 43 true).same z68∧(SObj.row SId.off z58 43 true).same z69∧True)∧((0:Int)≤z41∧z41≤z3)∧(z3 - z41).toNat<(z3 - x).toNat)∧(z38=(4:Int)→1=1∧z52.length=z52.length∧z77*64≤140737488355328∧z77≤1000000000000∧inR .i64 z41∧((z0.same z0∧z1.same z1∧z4.same z4∧z42.same z42∧True)∧z24.same z24∧z25.same z25∧(SObj.cells (z5::z6::z7::z8::z9::z10::z11::z12::z13::z14::z15::z16::z17::z18::z19::z20::z21::z22::z23::z1::z71::z47::z49::z51::SV.ow 7 z78.length 8::z55::z57::z59) 174 29 false).same z61∧(SObj.row SId.off z39 43 true).same z62∧(SObj.row SId.off z46 43 true).same z63∧(SObj.row SId.off z48 43 true).same z64∧(SObj.row SId.off z50 43 true).same z65∧(SObj.row SId.off z78 43 true).same z66∧(SObj.row SId.off z54 43 true).same z67∧(SObj.row SId.off z56 43 true).same z68∧(SObj.row SId.off z58 43 true).same z69∧True)∧((0:Int)≤z41∧z41≤z3)∧(z3 - z41).toNat<(z3 - x).toNat)∧(z38=(5:Int)→1=1∧z54.length=z54.length∧z79*64≤140737488355328∧z79≤1000000000000∧inR .i64 z41∧((z0.same z0∧z1.same z1∧z4.same z4∧z42.same z42∧True)∧z24.same z24∧z25.same z25∧(SObj.cells (z5::z6::z7::z8::z9::z10::z11::z12::z13::z14::z15::z16::z17::z18::z19::z20::z21::z22::z23::z1::z71::z47::z49::z51::z53::SV.ow 8 z80.length 8::z57::z59) 174 29 false).same z61∧(SObj.row SId.off z39 43 true).same z62∧(SObj.row SId.off z46 43 true).same z63∧(SObj.row SId.off z48 43 true).same z64∧(SObj.row SId.off z50 43 true).same z65∧(SObj.row SId.off z52 43 true).same z66∧(SObj.row SId.off z80 43 true).same z67∧(SObj.row SId.off z56 43 true).same z68∧(SObj.row SId.off z58 43 true).same z69∧True)∧((0:Int)≤z41∧z41≤z3)∧(z3 - z41).toNat<(z3 - x).toNat)∧(z38=(6:Int)→1=1∧z56.length=z56.length∧z81*64≤140737488355328∧z81≤1000000000000∧inR .i64 z41∧((z0.same z0∧z1.same z1∧z4.same z4∧z42.same z42∧True)∧z24.same z24∧z25.same z25∧(SObj.cells (z5::z6::z7::z8::z9::z10::z11::z12::z13::z14::z15::z16::z17::z18::z19::z20::z21::z22::z23::z1::z71::z47::z49::z51::z53::z55::SV.ow 9 z82.length 8::z59) 174 29 false).same z61∧(SObj.row SId.off z39 43 true).same z62∧(SObj.row SId.off z46 43 true).same z63∧(SObj.row SId.off z48 43 true).same z64∧(SObj.row SId.off z50 43 true).same z65∧(SObj.row SId.off z52 43 true).same z66∧(SObj.row SId.off z54 43 true).same z67∧(SObj.row SId.off z82 43 true).same z68∧(SObj.row SId.off z58 43 true).same z69∧True)∧((0:Int)≤z41∧z41≤z3)∧(z3 - z41).toNat<(z3 - x).toNat)∧(z38=(7:Int)→1=1∧z58.length=z58.length∧z83*64≤140737488355328∧z83≤1000000000000∧inR .i64 z41∧((z0.same z0∧z1.same z1∧z4.same z4∧z42.same z42∧True)∧z24.same z24∧z25.same z25∧(SObj.cells (z5::z6::z7::z8::z9::z10::z11::z12::z13::z14::z15::z16::z17::z18::z19::z20::z21::z22::z23::z1::z71::z47::z49::z51::z53::z55::z57::SV.ow 10 z84.length 8::z26) 174 29 false).same z61∧(SObj.row SId.off z39 43 true).same z62∧(SObj.row SId.off z46 43 true).same z63∧(SObj.row SId.off z48 43 true).same z64∧(SObj.row SId.off z50 43 true).same z65∧(SObj.row SId.off z52 43 true).same z66∧(SObj.row SId.off z54 43 true).same z67∧(SObj.row SId.off z56 43 true).same z68∧(SObj.row SId.off z84 43 true).same z69∧True)∧((0:Int)≤z41∧z41≤z3)∧(z3 - z41).toNat<(z3 - x).toNat)∧(0:Int)≤z38∧z38<(8:Int))∧(decide (x<z3)=false→z39.length=z39.length∧z46.length=z46.length∧z48.length=z48.length∧z50.length=z50.length∧z52.length=z52.length∧z54.length=z54.length∧z56.length=z56.length∧z58.length=z58.length∧z36.same z36∧(SObj.cells (z5::z6::z7::z8::z9::z10::z11::z12::z13::z14::z15::z16::z17::z18::z19::z20::z21::z22::z23::z1::SV.row SId.off z39::SV.row SId.off z46::SV.row SId.off z48::SV.row SId.off z50::SV.row SId.off z52::SV.row SId.off z54::SV.row SId.off z56::SV.row SId.off z58::z26) 174 29 false).same (SObj.cells (z5::z6::z7::z8::z9::z10::z11::z12::z13::z14::z15::z16::z17::z18::z19::z20::z21::z22::z23::z1::SV.row SId.off (L8.of p).l0::SV.row SId.off (L8.of p).l1::SV.row SId.off (L8.of p).l2::SV.row SId.off (L8.of p).l3::SV.row SId.off (L8.of p).l4::SV.row SId.off (L8.of p).l5::SV.row SId.off (L8.of p).l6::SV.row SId.off (L8.of p).l7::z26) 174 29 false)∧z25.same z25∧True)) (by kernel_rfl) ?_
 conv=>zeta
 try simp only[vcs]
 have hz:∀j,byT p 0 j=[]:=fun j=>rfl
 have hlen:∀i j,(byT p i j).length≤160:=fun i j=>by
  have h1:=List.length_filter_le (fun x:Off=>decide (x.bidder=j)) (p.offers.take i.toNat)
  have h2:=hp.2.1
  simp only[List.length_take] at h1
  unfold byT
  omega
 have h160:=hp.2.1
 refine⟨⟨by simp only[hz];exact⟨rfl,rfl,rfl,rfl,rfl,rfl,rfl,rfl,rfl⟩,by omega,by omega⟩,?_⟩
 rintro i ⟨hi0,hi1⟩
 refine⟨fun hlt=>⟨hi0,hlt,by omega,?c0,?c1,?c2,?c3,?c4,?c5,?c6,?c7,?cb⟩,fun hge=>?ce⟩
 case c0=>
  intro hb
  have hx:(⟨0,(nthD p.offers i.toNat SId.off.dflt).want,(nthD p.offers i.toNat SId.off.dflt).value⟩:Off)=nthD p.offers i.toNat SId.off.dflt:=by rw[←hb]
  simp only[hx]
  rw[byT_hit (j:=0) hi0 hlt hb]
  rw[byT_miss (j:=1) hi0 hlt (by rw[hb];decide)]
  rw[byT_miss (j:=2) hi0 hlt (by rw[hb];decide)]
  rw[byT_miss (j:=3) hi0 hlt (by rw[hb];decide)]
  rw[byT_miss (j:=4) hi0 hlt (by rw[hb];decide)]
  rw[byT_miss (j:=5) hi0 hlt (by rw[hb];decide)]
  rw[byT_miss (j:=6) hi0 hlt (by rw[hb];decide)]
  rw[byT_miss (j:=7) hi0 hlt (by rw[hb];decide)]
  have hl:=hlen i 0
  exact⟨by omega,by omega,by omega,⟨rfl,rfl,rfl,rfl,rfl,rfl,rfl,rfl,rfl⟩,by omega,by omega⟩
 case c1=>
  intro hb
  have hx:(⟨1,(nthD p.offers i.toNat SId.off.dflt).want,(nthD p.offers i.toNat SId.off.dflt).value⟩:Off)=nthD p.offers i.toNat SId.off.dflt:=by rw[←hb]
  simp only[hx]
  rw[byT_miss (j:=0) hi0 hlt (by rw[hb];decide)]
  rw[byT_hit (j:=1) hi0 hlt hb]
  rw[byT_miss (j:=2) hi0 hlt (by rw[hb];decide)]
  rw[byT_miss (j:=3) hi0 hlt (by rw[hb];decide)]
  rw[byT_miss (j:=4) hi0 hlt (by rw[hb];decide)]
  rw[byT_miss (j:=5) hi0 hlt (by rw[hb];decide)]
  rw[byT_miss (j:=6) hi0 hlt (by rw[hb];decide)]
  rw[byT_miss (j:=7) hi0 hlt (by rw[hb];decide)]
  have hl:=hlen i 1
  exact⟨by omega,by omega,by omega,⟨rfl,rfl,rfl,rfl,rfl,rfl,rfl,rfl,rfl⟩,by omega,by omega⟩
 case c2=>
  intro hb
  have hx:(⟨2,(nthD p.offers i.toNat SId.off.dflt).want,(nthD p.offers i.toNat SId.off.dflt).value⟩:Off)=nthD p.offers i.toNat SId.off.dflt:=by rw[←hb]
  simp only[hx]
  rw[byT_miss (j:=0) hi0 hlt (by rw[hb];decide)]
  rw[byT_miss (j:=1) hi0 hlt (by rw[hb];decide)]
  rw[byT_hit (j:=2) hi0 hlt hb]
  rw[byT_miss (j:=3) hi0 hlt (by rw[hb];decide)]
  rw[byT_miss (j:=4) hi0 hlt (by rw[hb];decide)]
  rw[byT_miss (j:=5) hi0 hlt (by rw[hb];decide)]
  rw[byT_miss (j:=6) hi0 hlt (by rw[hb];decide)]
  rw[byT_miss (j:=7) hi0 hlt (by rw[hb];decide)]
  have hl:=hlen i 2
  exact⟨by omega,by omega,by omega,⟨rfl,rfl,rfl,rfl,rfl,rfl,rfl,rfl,rfl⟩,by omega,by omega⟩
 case c3=>
  intro hb
  have hx:(⟨3,(nthD p.offers i.toNat SId.off.dflt).want,(nthD p.offers i.toNat SId.off.dflt).value⟩:Off)=nthD p.offers i.toNat SId.off.dflt:=by rw[←hb]
  simp only[hx]
  rw[byT_miss (j:=0) hi0 hlt (by rw[hb];decide)]
  rw[byT_miss (j:=1) hi0 hlt (by rw[hb];decide)]
  rw[byT_miss (j:=2) hi0 hlt (by rw[hb];decide)]
  rw[byT_hit (j:=3) hi0 hlt hb]
  rw[byT_miss (j:=4) hi0 hlt (by rw[hb];decide)]
  rw[byT_miss (j:=5) hi0 hlt (by rw[hb];decide)]
  rw[byT_miss (j:=6) hi0 hlt (by rw[hb];decide)]
  rw[byT_miss (j:=7) hi0 hlt (by rw[hb];decide)]
  have hl:=hlen i 3
  exact⟨by omega,by omega,by omega,⟨rfl,rfl,rfl,rfl,rfl,rfl,rfl,rfl,rfl⟩,by omega,by omega⟩
 case c4=>
  intro hb
  have hx:(⟨4,(nthD p.offers i.toNat SId.off.dflt).want,(nthD p.offers i.toNat SId.off.dflt).value⟩:Off)=nthD p.offers i.toNat SId.off.dflt:=by rw[←hb]
  simp only[hx]
  rw[byT_miss (j:=0) hi0 hlt (by rw[hb];decide)]
  rw[byT_miss (j:=1) hi0 hlt (by rw[hb];decide)]
  rw[byT_miss (j:=2) hi0 hlt (by rw[hb];decide)]
  rw[byT_miss (j:=3) hi0 hlt (by rw[hb];decide)]
  rw[byT_hit (j:=4) hi0 hlt hb]
  rw[byT_miss (j:=5) hi0 hlt (by rw[hb];decide)]
  rw[byT_miss (j:=6) hi0 hlt (by rw[hb];decide)]
  rw[byT_miss (j:=7) hi0 hlt (by rw[hb];decide)]
  have hl:=hlen i 4
  exact⟨by omega,by omega,by omega,⟨rfl,rfl,rfl,rfl,rfl,rfl,rfl,rfl,rfl⟩,by omega,by omega⟩
 case c5=>
  intro hb
  have hx:(⟨5,(nthD p.offers i.toNat SId.off.dflt).want,(nthD p.offers i.toNat SId.off.dflt).value⟩:Off)=nthD p.offers i.toNat SId.off.dflt:=by rw[←hb]
  simp only[hx]
  rw[byT_miss (j:=0) hi0 hlt (by rw[hb];decide)]
  rw[byT_miss (j:=1) hi0 hlt (by rw[hb];decide)]
  rw[byT_miss (j:=2) hi0 hlt (by rw[hb];decide)]
  rw[byT_miss (j:=3) hi0 hlt (by rw[hb];decide)]
  rw[byT_miss (j:=4) hi0 hlt (by rw[hb];decide)]
  rw[byT_hit (j:=5) hi0 hlt hb]
  rw[byT_miss (j:=6) hi0 hlt (by rw[hb];decide)]
  rw[byT_miss (j:=7) hi0 hlt (by rw[hb];decide)]
  have hl:=hlen i 5
  exact⟨by omega,by omega,by omega,⟨rfl,rfl,rfl,rfl,rfl,rfl,rfl,rfl,rfl⟩,by omega,by omega⟩
 case c6=>
  intro hb
  have hx:(⟨6,(nthD p.offers i.toNat SId.off.dflt).want,(nthD p.offers i.toNat SId.off.dflt).value⟩:Off)=nthD p.offers i.toNat SId.off.dflt:=by rw[←hb]
  simp only[hx]
  rw[byT_miss (j:=0) hi0 hlt (by rw[hb];decide)]
  rw[byT_miss (j:=1) hi0 hlt (by rw[hb];decide)]
  rw[byT_miss (j:=2) hi0 hlt (by rw[hb];decide)]
  rw[byT_miss (j:=3) hi0 hlt (by rw[hb];decide)]
  rw[byT_miss (j:=4) hi0 hlt (by rw[hb];decide)]
  rw[byT_miss (j:=5) hi0 hlt (by rw[hb];decide)]
  rw[byT_hit (j:=6) hi0 hlt hb]
  rw[byT_miss (j:=7) hi0 hlt (by rw[hb];decide)]
  have hl:=hlen i 6
  exact⟨by omega,by omega,by omega,⟨rfl,rfl,rfl,rfl,rfl,rfl,rfl,rfl,rfl⟩,by omega,by omega⟩
 case c7=>
  intro hb
  have hx:(⟨7,(nthD p.offers i.toNat SId.off.dflt).want,(nthD p.offers i.toNat SId.off.dflt).value⟩:Off)=nthD p.offers i.toNat SId.off.dflt:=by rw[←hb]
  simp only[hx]
  rw[byT_miss (j:=0) hi0 hlt (by rw[hb];decide)]
  rw[byT_miss (j:=1) hi0 hlt (by rw[hb];decide)]
  rw[byT_miss (j:=2) hi0 hlt (by rw[hb];decide)]
  rw[byT_miss (j:=3) hi0 hlt (by rw[hb];decide)]
  rw[byT_miss (j:=4) hi0 hlt (by rw[hb];decide)]
  rw[byT_miss (j:=5) hi0 hlt (by rw[hb];decide)]
  rw[byT_miss (j:=6) hi0 hlt (by rw[hb];decide)]
  rw[byT_hit (j:=7) hi0 hlt hb]
  have hl:=hlen i 7
  exact⟨by omega,by omega,by omega,⟨rfl,rfl,rfl,rfl,rfl,rfl,rfl,rfl,rfl⟩,by omega,by omega⟩
 case cb=>
  have hv:=hp.2.2.2.2 _ (nthD_mem (d:=SId.off.dflt) (show i.toNat<p.offers.length by omega))
  have:=hp.1
  exact⟨hv.1,by omega⟩
 case ce=>
  have hb:∀j,byT p i j=byB p j:=fun j=>by unfold byT byB;rw[show i.toNat=p.offers.length from by omega,List.take_length]
  simp only[hb]
  rfl
theorem good_of {p:Prob} (h:checkE p=0):Good p:=by
 obtain⟨hf,ho⟩:=check_zero h
 obtain⟨f1,f2,f3,f4,f5⟩:=frame_zero hf
 refine⟨f3,f4,f1,?_,fun x hx=>?_⟩
 ·have hs:=Bun.ok_iff.1 f1
  have g0:=prodOk_iff.1 (f2 0 (by omega))
  have g1:=prodOk_iff.1 (f2 1 (by omega))
  have g2:=prodOk_iff.1 (f2 2 (by omega))
  have g3:=prodOk_iff.1 (f2 3 (by omega))
  have g4:=prodOk_iff.1 (f2 4 (by omega))
  have g5:=prodOk_iff.1 (f2 5 (by omega))
  simp[nthD] at g0 g1 g2 g3 g4 g5
  exact Bun.ok_iff.2 (by omega)
 ·have hs:=simple_zero (offer_zero (ho x hx)).1
  exact⟨hs.1,hs.2.1,hs.2.2.2.2,hs.2.2.1,hs.2.2.2.1⟩
theorem pow_n {n:Nat} (h:n≤8):(2:Int)^n≤256∧0<(2:Int)^n:=by
 have:n=0∨n=1∨n=2∨n=3∨n=4∨n=5∨n=6∨n=7∨n=8:=by omega
 rcases this with h|h|h|h|h|h|h|h|h<;>rw[h]<;>decide
def worthS (p:Prob) (m:Int):Int:=if faultE p m=0 then bestS p ⟨m,p.supply,p.opn⟩ else 0
def r80:SCtr:=⟨80,Prob×Int,.cons codP (.one (codI .i64)),fun _=>True,fun a=> .tup [.si .i64 (worthS a.1 a.2),.si .i64 (faultE a.1 a.2)]⟩
def LB:List SCtr:=r80::L8l
structure Deal where
 p:Prob
 values:List Int
 all:Int
 worth:Int
def codD:Cod Deal where
 put d:=.agg [.si .i64 d.p.supply.a0,.si .i64 d.p.supply.a1,.si .i64 d.p.supply.a2,.si .i64 d.p.supply.a3,.si .i64 d.p.supply.a4,.si .i64 d.p.supply.a5,
  .si .i64 d.p.opn.a0,.si .i64 d.p.opn.a1,.si .i64 d.p.opn.a2,.si .i64 d.p.opn.a3,.si .i64 d.p.opn.a4,.si .i64 d.p.opn.a5,
  .si .i64 d.p.cls.a0,.si .i64 d.p.cls.a1,.si .i64 d.p.cls.a2,.si .i64 d.p.cls.a3,.si .i64 d.p.cls.a4,.si .i64 d.p.cls.a5,
  .row (.i .i64) d.p.classes,.row .off d.p.offers,.row (.i .i64) d.values,.si .i64 d.all,.si .i64 d.worth]
 dec
  | .agg [s0,s1,s2,s3,s4,s5,o0,o1,o2,o3,o4,o5,c0,c1,c2,c3,c4,c5,k,f,v,a,w]=>
   match decProb [s0,s1,s2,s3,s4,s5,o0,o1,o2,o3,o4,o5,c0,c1,c2,c3,c4,c5,k,f],decRow (.i .i64) v,a.int .i64,w.int .i64 with
   |some p,some v,some a,some w=>some ⟨p,v,a,w⟩
   |_,_,_,_=>none
  |_=>none
 ok v a h:=by
  split at h
  ·split at h
   ·rename_i h1 h2 h3 h4
    simp only[Option.some.injEq] at h;subst h
    have hp:=decProb_ok h1
    simp only[Prob.ss,gL,List.cons.injEq,and_true] at hp
    simp only[SV.g,gL]
    simp only[hp,decRow_ok h2,int_g h3,int_g h4]
    rfl
   ·cases h
  ·cases h
 inj a b h:=by
  obtain⟨p,v,al,w⟩:=a
  obtain⟨q,v',al',w'⟩:=b
  simp only[SV.g,gL,AV.agg.injEq,List.cons.injEq,and_true,AV.sc.injEq,Value.int.injEq,true_and] at h
  have hp:p=q:=by
   apply codP.inj
   show(SV.agg p.ss).g=(SV.agg q.ss).g
   simp only[SV.g,Prob.ss,gL,AV.agg.injEq,List.cons.injEq,and_true,AV.sc.injEq,Value.int.injEq,true_and]
   simp only[h,and_self]
  subst hp
  have hv:v=v':=(codR (.i .i64)).inj _ _ (by simp only[codR,SV.g];simp only[h])
  simp only[Deal.mk.injEq,true_and]
  exact⟨hv,by simp only[h],by simp only[h]⟩
def allM (p:Prob):Int:=2^p.classes.length - 1
def setV (p:Prob) (v:List Int) (i:Int):List Int:=v.set (nthD p.offers i.toNat SId.off.dflt).bidder.toNat (nthD p.offers i.toNat SId.off.dflt).value
def valsS (p:Prob) (c:List Int):List Int:=c.foldl (setV p) (List.replicate p.classes.length 0)
def addV (p:Prob) (s:Int) (i:Int):Int:=s+(nthD p.offers i.toNat SId.off.dflt).value
def sumC (p:Prob) (c:List Int):Int:=c.foldl (addV p) 0
def openE (p:Prob) (c:List Int):Int:=if feasE p c≠0 then feasE p c else if sumC p c<worthS p (allM p) then 13 else 0
def Prob.zero:Prob:=⟨Bun.zero,Bun.zero,Bun.zero,[],[]⟩
def openD (p:Prob) (c:List Int):Deal:=if openE p c=0 then⟨p,valsS p c,allM p,sumC p c⟩ else⟨Prob.zero,[],0,0⟩
def r61:SCtr:=⟨61,Prob×Alloc,.cons codP (.one codA),fun a=>a.2.chosen.length≤1000000000000,fun a=> .tup [codD.put (openD a.1 a.2.chosen),.si .i64 (openE a.1 a.2.chosen)]⟩
theorem pick_idx {l:List Off}:∀{c:List Int} {last:Int} {r:List Off}, -1≤last→pickGo l last c=some r→r.length=c.length∧∀i∈c,0≤i∧i<l.length
 |[],last,r,_,h=>by simp[pickGo] at h;subst h;simp
 |i::c,last,r,hl,h=>by
  simp only[pickGo] at h
  split at h
  ·cases h
  ·rename_i h1
   obtain⟨r',h2,rfl⟩:=Option.map_eq_some_iff.1 h
   obtain⟨h3,h4⟩:=pick_idx (by omega) h2
   refine⟨by simp[h3],fun j hj=>?_⟩
   rcases List.mem_cons.1 hj with rfl|hj
   ·omega
   ·exact h4 j hj
def DealOk (d:Deal):Prop:=checkE d.p=0∧d.values.length=d.p.classes.length∧d.all=allM d.p∧(∀v∈d.values,0≤v∧v≤1000000)∧0≤d.worth∧d.worth≤200000000
def payS (d:Deal) (b:Int):Int:=if nthD d.values b.toNat 0=0 then 0 else worthS d.p (delI d.all b) - (d.worth - nthD d.values b.toNat 0)
def discS (d:Deal) (b:Int):Int:=nthD d.values b.toNat 0 - payS d b
def r63:SCtr:=⟨63,Deal×Int,.cons codD (.one (codI .i64)),fun a=>DealOk a.1∧0≤a.2∧a.2<a.1.values.length,fun a=> .si .i64 (payS a.1 a.2)⟩
def LC:List SCtr:=r63::r61::LB
def r66:SCtr:=⟨66,Deal×Int,.cons codD (.one (codI .i64)),fun a=>DealOk a.1∧0≤a.2∧a.2<a.1.values.length,fun a=> .si .i64 (discS a.1 a.2)⟩
def codF:Cod (Bool×Deal) where
 put a:=match a.1 with
  |true=> .fn (.func 66) [codD.put a.2] []
  |false=> .fn (.func 63) [codD.put a.2] []
 dec
  | .fn (.func f) [d] []=>if f=66 then(codD.dec d).map fun d=>(true,d) else if f=63 then(codD.dec d).map fun d=>(false,d) else none
  |_=>none
 ok v a h:=by
  split at h
  ·split at h
   ·rename_i hf
    obtain⟨d,h1,rfl⟩:=Option.map_eq_some_iff.1 h
    simp only[SV.g,gL,codD.ok _ _ h1,hf]
   ·split at h
    ·rename_i hf
     obtain⟨d,h1,rfl⟩:=Option.map_eq_some_iff.1 h
     simp only[SV.g,gL,codD.ok _ _ h1,hf]
    ·cases h
  ·cases h
 inj a b h:=by
  obtain⟨k,d⟩:=a
  obtain⟨k',d'⟩:=b
  cases k<;>cases k'<;>simp only[SV.g,gL,AV.fn.injEq,Fn.func.injEq,List.cons.injEq,and_true,true_and,reduceCtorEq,Nat.reduceEqDiff,false_and] at h
  ·rw[codD.inj _ _ h]
  ·rw[codD.inj _ _ h]
def eachF (a:Bool×Deal) (i:Int):Int:=match a.1 with
 |true=>discS a.2 i
 |false=>payS a.2 i
def eachL (a:Bool×Deal) (n:Nat):List Int:=(List.range n).map fun i:Nat=>eachF a i
def r62:SCtr:=⟨62,Deal×(Bool×Deal),.cons codD (.one codF),fun a=>DealOk a.2.2∧a.1.values.length=a.2.2.values.length,fun a=> .row (.i .i64) (eachL a.2 a.1.values.length)⟩
def LD:List SCtr:=r66::LC
def LE:List SCtr:=r62::LD
def paysS (p:Prob) (c:List Int):List Int:=if openE p c=0 then eachL (false,openD p c) p.classes.length else[]
def discsS (p:Prob) (c:List Int):List Int:=if openE p c=0 then eachL (true,openD p c) p.classes.length else[]
def r17:SCtr:=⟨17,Prob×Alloc,.cons codP (.one codA),fun a=>a.2.chosen.length≤1000000000000,fun a=> .tup [.row (.i .i64) (paysS a.1 a.2.chosen),.si .i64 (openE a.1 a.2.chosen)]⟩
def r19:SCtr:=⟨19,Prob×Alloc,.cons codP (.one codA),fun a=>a.2.chosen.length≤1000000000000,fun a=> .tup [.row (.i .i64) (discsS a.1 a.2.chosen),.si .i64 (openE a.1 a.2.chosen)]⟩
def extE (p:Prob) (c:List Int) (b:Int):Int:=if openE p c≠0 then openE p c else if b<0∨p.classes.length≤b then 6 else 0
def extS (p:Prob) (c:List Int) (b:Int):Int:=if extE p c b=0 then payS (openD p c) b else 0
def r21:SCtr:=⟨21,Prob×Alloc×Int,.cons codP (.cons codA (.one (codI .i64))),fun a=>a.2.1.chosen.length≤1000000000000,fun a=> .tup [.si .i64 (extS a.1 a.2.1.chosen a.2.2),.si .i64 (extE a.1 a.2.1.chosen a.2.2)]⟩
def sameB (a b:List Int):Bool:=decide (a=b)
def r23:SCtr:=⟨23,List Int×List Int,.cons (codR (.i .i64)) (.one (codR (.i .i64))),fun a=>a.1.length≤1000000000000,fun a=> .sb (sameB a.1 a.2)⟩
def fewB (p:Prob) (n:Int):Bool:=decide ((p.offers.length:Int)≤n)&&decide ((p.classes.length:Int)≤8)
def r59:SCtr:=⟨59,Prob×Int,.cons codP (.one (codI .i64)),fun _=>True,fun a=> .sb (fewB a.1 a.2)⟩
def r15:SCtr:=⟨15,Prob,.one codP,fun _=>True,fun a=> .sb (fewB a 10)⟩
def three:Prob:=⟨⟨1,1,0,0,0,0⟩,⟨1,1,0,0,0,0⟩,Bun.zero,[0,0,0],[⟨0,⟨1,1,0,0,0,0⟩,10⟩,⟨1,⟨1,0,0,0,0,0⟩,6⟩,⟨2,⟨0,1,0,0,0,0⟩,6⟩]⟩
def r60:SCtr:=⟨60,Unit,.nil,fun _=>True,fun _=>codP.put three⟩
def LF:List SCtr:=[r59,r15,r60,r17,r19,r21,r23]
def r16:SCtr:=⟨16,Unit,.nil,fun _=>True,fun _=> .sb true⟩
def LG:List SCtr:=r16::LF
def r68:SCtr:=⟨68,Bun,.one (codE .bun),fun _=>True,fun b=> .sb b.ok⟩
theorem h68:Holds Try.prog r68:=by
 refine con (L:=[]) r68 F68 (fun _ _=> .unroll 7) (OwnOK.none _) (by simp) (by kernel_rfl) (by kernel_rfl) (fun _=>rfl) ?_
 intro b _
 refine vcOf (let z0:=decide (b.a0<(0:Int));let z1:=decide ((4:Int)<b.a0);let z2:=decide (b.a1<(0:Int));let z3:=decide ((4:Int)<b.a1);let z4:=decide (b.a2<(0:Int));let z5:=decide ((4:Int)<b.a2);let z6:=decide (b.a3<(0:Int));let z7:=decide ((4:Int)<b.a3);let z8:=decide (b.a4<(0:Int));let z9:=decide ((4:Int)<b.a4);let z10:=decide (b.a5<(0:Int));let z11:=decide ((4:Int)<b.a5);(z0=true→(SV.bl false).same (SV.sb (Bun.ok b)))∧(z0=false→(z1=true→(SV.bl false).same (SV.sb (Bun.ok b)))∧(z1=false→(z2=true→(SV.bl false).same (SV.sb (Bun.ok b)))∧(z2=false→(z3=true→(SV.bl false).same (SV.sb (Bun.ok b)))∧(z3=false→(z4=true→(SV.bl false).same (SV.sb (Bun.ok b)))∧(z4=false→(z5=true→(SV.bl false).same (SV.sb (Bun.ok b)))∧(z5=false→(z6=true→(SV.bl false).same (SV.sb (Bun.ok b)))∧(z6=false→(z7=true→(SV.bl false).same (SV.sb (Bun.ok b)))∧(z7=false→(z8=true→(SV.bl false).same (SV.sb (Bun.ok b)))∧(z8=false→(z9=true→(SV.bl false).same (SV.sb (Bun.ok b)))∧(z9=false→(z10=true→(SV.bl false).same (SV.sb (Bun.ok b)))∧(z10=false→(z11=true→(SV.bl false).same (SV.sb (Bun.ok b)))∧(z11=false→(SV.bl true).same (SV.sb (Bun.ok b))))))))))))))) (by kernel_rfl) ?_
 conv=>zeta
 have hb:=@Bun.ok_iff b
 by_cases h:b.ok=true
 ·have h2:=hb.1 h
  simp only[decide_eq_true_eq,decide_eq_false_iff_not,same_bl_sb,eq_self,true_and,h,if_true]
  repeat' (first|refine And.intro ?_ ?_|intro _)
  all_goals first|trivial|omega|(exfalso;omega)
 ·have h2:=mt hb.2 h
  have h3:b.ok=false:=by simpa using h
  simp only[decide_eq_true_eq,decide_eq_false_iff_not,same_bl_sb,eq_self,true_and,h3]
  repeat' (first|refine And.intro ?_ ?_|intro _)
  all_goals first|trivial|omega|(exfalso;omega)
def coefR (p:Prob) (r:Int) (o:Off):Int:=
 if r - p.classes.length<0 then(if o.bidder=r then 1 else 0)
 else if r - p.classes.length<6 then nthD [o.want.a0,o.want.a1,o.want.a2,o.want.a3,o.want.a4,o.want.a5] (r - p.classes.length).toNat 0
 else if nthD [p.cls.a0,p.cls.a1,p.cls.a2,p.cls.a3,p.cls.a4,p.cls.a5] (r - p.classes.length - 6).toNat 0=0∨p.classes.length≤o.bidder∨nthD [p.cls.a0,p.cls.a1,p.cls.a2,p.cls.a3,p.cls.a4,p.cls.a5] (r - p.classes.length - 6).toNat 0=nthD p.classes o.bidder.toNat 0 then 0
 else nthD [o.want.a0,o.want.a1,o.want.a2,o.want.a3,o.want.a4,o.want.a5] (r - p.classes.length - 6).toNat 0
theorem coefR_eq {p:Prob} {r:Int} {o:Off} (h:o.bidder<p.classes.length):coefR p r o=coefS p r o:=by
 unfold coefR coefS
 have:¬(p.classes.length:Int)≤o.bidder:=by omega
 simp only[this,false_or]
def r110:SCtr:=⟨110,Prob×Int×Off,.cons codP (.cons (codI .i64) (.one (codE .off))),fun a=>a.1.classes.length≤8∧0≤a.2.1∧a.2.1<nrows a.1∧0≤a.2.2.bidder,
 fun a=> .tup [.si .i64 (coefR a.1 a.2.1 a.2.2),.si .i64 (boundS a.1 a.2.1)]⟩
theorem h110:Holds Try.prog r110:=by
 refine con (L:=[]) r110 F110 (fun _ _=> .unroll 7) (OwnOK.none _) (by simp) (by kernel_rfl) (by kernel_rfl) (fun _=>rfl) ?_
 rintro⟨p,r,x⟩ ⟨hp,h1,h2,h3⟩
 simp only[nrows] at hp h1 h2 h3
 refine vcOf (let z0:=(↑p.classes.length:Int);let z1:=decide (x.bidder=r);let z2:=SV.il .i64 1;let z3:=SV.tup [SV.si .i64 (coefR p r x),SV.si .i64 (boundS p r)];let z4:=SV.il .i64 0;let z5:=decide (r<z0+(6:Int));let z6:=(r - z0).toNat;let z7:=[x.want.a0,x.want.a1,x.want.a2,x.want.a3,x.want.a4,x.want.a5];let z8:=r - z0 - (6:Int);let z9:=nthD [p.cls.a0,p.cls.a1,p.cls.a2,p.cls.a3,p.cls.a4,p.cls.a5] z8.toNat (0:Int);let z10:=decide (z9≠(0:Int));let z11:=decide (x.bidder<z0);let z12:=decide (z9≠nthD p.classes x.bidder.toNat (0:Int));let z13:=[SV.si .i64 (nthD [p.opn.a0,p.opn.a1,p.opn.a2,p.opn.a3,p.opn.a4,p.opn.a5] z8.toNat (0:Int))];(decide (r<z0)=true→(z1=true→(SV.tup [z2,z2]).same z3)∧(z1=false→(SV.tup [z4,z2]).same z3))∧(decide (r<z0)=false→inR .i64 (z0+(6:Int))∧(z5=true→inR .i64 (r - z0)∧(0:Int)≤r - z0∧r - z0<(6:Int)∧z6<6∧inR .i64 (r - z0)∧(0:Int)≤r - z0∧r - z0<(6:Int)∧z6<6∧(SV.tup [SV.si .i64 (nthD z7 z6 (0:Int)),SV.si .i64 (nthD [p.supply.a0,p.supply.a1,p.supply.a2,p.supply.a3,p.supply.a4,p.supply.a5] z6 (0:Int))]).same z3)∧(z5=false→inR .i64 (r - z0)∧inR .i64 z8∧(0:Int)≤z8∧z8<(6:Int)∧z8.toNat<6∧(z10=true→(z11=true→(0:Int)≤z8∧z8<(6:Int)∧z8.toNat<6∧(0:Int)≤x.bidder∧x.bidder<z0∧x.bidder.toNat<p.classes.length∧(z12=true→(0:Int)≤z8∧z8<(6:Int)∧z8.toNat<6∧(0:Int)≤z8∧z8<(6:Int)∧z8.toNat<6∧(SV.tup (SV.si .i64 (nthD z7 z8.toNat (0:Int))::z13)).same z3)∧(z12=false→(0:Int)≤z8∧z8<(6:Int)∧z8.toNat<6∧(SV.tup (z4::z13)).same z3))∧(z11=false→(0:Int)≤z8∧z8<(6:Int)∧z8.toNat<6∧(SV.tup (z4::z13)).same z3))∧(z10=false→(0:Int)≤z8∧z8<(6:Int)∧z8.toNat<6∧(SV.tup (z4::z13)).same z3)))) (by kernel_rfl) ?_
 simp only[vcs]
 have b1:r - p.classes.length<0→boundS p r=1:=fun h=>by unfold boundS;rw[if_pos h]
 have b2:¬r - p.classes.length<0→r - p.classes.length<6→boundS p r=nthD [p.supply.a0,p.supply.a1,p.supply.a2,p.supply.a3,p.supply.a4,p.supply.a5] (r - p.classes.length).toNat 0:=fun h h'=>by unfold boundS;rw[if_neg h,if_pos h']
 have b3:¬r - p.classes.length<0→¬r - p.classes.length<6→boundS p r=nthD [p.opn.a0,p.opn.a1,p.opn.a2,p.opn.a3,p.opn.a4,p.opn.a5] (r - p.classes.length - 6).toNat 0:=fun h h'=>by unfold boundS;rw[if_neg h,if_neg h']
 have c1:r - p.classes.length<0→coefR p r x=if x.bidder=r then 1 else 0:=fun h=>by unfold coefR;rw[if_pos h]
 have c2:¬r - p.classes.length<0→r - p.classes.length<6→coefR p r x=nthD [x.want.a0,x.want.a1,x.want.a2,x.want.a3,x.want.a4,x.want.a5] (r - p.classes.length).toNat 0:=fun h h'=>by unfold coefR;rw[if_neg h,if_pos h']
 have c3:=fun(h:¬r - p.classes.length<0) (h':¬r - p.classes.length<6)=>(show coefR p r x=_ by unfold coefR;rw[if_neg h,if_neg h'])
 refine⟨fun ha=>?_,fun ha=>⟨by omega,fun hb=>?_,fun hb=>?_⟩⟩
 ·rw[b1 (by omega),c1 (by omega)]
  exact⟨fun h=>by simp[h],fun h=>by simp[h]⟩
 ·rw[b2 (by omega) (by omega),c2 (by omega) (by omega)]
  refine⟨by omega,by omega,by omega,by omega,by omega,by omega,by omega,by omega,rfl,rfl⟩
 ·rw[b3 (by omega) (by omega),c3 (by omega) (by omega)]
  refine⟨by omega,by omega,by omega,by omega,by omega,fun h4=>⟨fun h5=>⟨by omega,by omega,by omega,by omega,by omega,by omega,fun h6=>⟨by omega,by omega,by omega,by omega,by omega,by omega,(if_neg (by omega)).symm,rfl⟩,fun h6=>⟨by omega,by omega,by omega,(if_pos (by omega)).symm,rfl⟩⟩,fun h5=>⟨by omega,by omega,by omega,(if_pos (by omega)).symm,rfl⟩⟩,fun h4=>⟨by omega,by omega,by omega,(if_pos (by omega)).symm,rfl⟩⟩
def M1:List SCtr:=[r110,r68]
theorem hM1:∀c∈M1,Holds Try.prog c:=by
 simp only[M1,List.forall_mem_cons,List.not_mem_nil,false_implies,implies_true,and_true]
 exact⟨h110,h68⟩
def r69:SCtr:=⟨69,Prob×List Off,.cons codP (.one (codR .off)),fun a=>a.1.classes.length≤8∧a.2.length≤1000∧(∀x∈a.2,0≤x.bidder∧x.bidder<a.1.classes.length∧x.want.ok=true),fun a=> .sb (fitsB a.1 a.2)⟩
def Λ69 (a:Prob×List Off):Nat→LoopAnn
 |2=> .inv Int (fun i=>⟨[(1,.row .off a.2),(2,.ptr 0 0 20),(5,.si .i64 i)],[.cells a.1.ss 27 20 false]⟩) (fun s=>iS s 5)
  (fun i=>0≤i∧i≤nrows a.1∧∀r:Nat,r<i→sumS a.1 a.2 r≤boundS a.1 r) (fun i=>(nrows a.1 - i).toNat)
  fun i=>fun
   |6=> .inv (Int×Int) (fun x=>⟨[(1,.row .off a.2),(2,.ptr 0 0 20),(5,.si .i64 i),(6,.si .i64 x.2),(7,.si .i64 x.1)],[.cells a.1.ss 27 20 false]⟩)
    (fun s=>(iS s 7,iS s 6))
    (fun x=>0≤x.1∧x.1≤a.2.length∧x.2=sumS a.1 (a.2.take x.1.toNat) i) (fun x=>(a.2.length - x.1).toNat) fun _ _=> .look
   |_=> .look
 |_=> .look
theorem h69:Holds Try.prog r69:=by
 refine con (L:=M1) r69 F69 Λ69 (OwnOK.none _) hM1 (by kernel_rfl) (by kernel_rfl) (fun _=>rfl) ?_
 rintro⟨p,l⟩ ⟨hp,hl,hb⟩
 simp only at hp hl hb
 refine vcOf (let z0:=SV.ptr 0 0 20;let z1:=SObj.cells (Prob.ss p) 27 20 false;let z2:=(↑p.classes.length:Int)+(12:Int);let z3:=(↑l.length:Int);((((SV.row SId.off l).same (SV.row SId.off l)∧z0.same z0∧(SV.il .i64 0).same (SV.si .i64 0)∧True)∧z1.same z1∧True)∧(0:Int)≤(0:Int)∧(0:Int)≤nrows p∧∀(r:Nat),(↑r:Int)<(0:Int)→sumS p l (↑r:Int)≤boundS p (↑r:Int))∧∀(x:Int),let z4:=x+(1:Int);let z5:=SV.si .i64 z4;((0:Int)≤x∧x≤nrows p∧∀(r:Nat),(↑r:Int)<x→sumS p l (↑r:Int)≤boundS p (↑r:Int))→inR .i64 z2∧(decide (x<z2)=true→((((SV.row SId.off l).same (SV.row SId.off l)∧z0.same z0∧(SV.si .i64 x).same (SV.si .i64 x)∧(SV.il .i64 0).same (SV.si .i64 0)∧(SV.il .i64 0).same (SV.si .i64 0)∧True)∧z1.same z1∧True)∧(0:Int)≤(0:Int)∧(0:Int)≤z3∧(0:Int)=sumS p [] x)∧∀(x_1:Int×Int),let z6:=decide (x_1.fst<(↑l.length:Int));let z7:=nthD l x_1.fst.toNat SId.off.dflt;let z8:=x_1.snd+coefR p x z7;let z9:=x_1.fst+(1:Int);let z10:=SV.si .i64 x;let z11:=SV.si .i64 z8;let z12:=SV.si .i64 z9;let z13:=decide (boundS p x<x_1.snd);(0:Int)≤x_1.fst∧x_1.fst≤z3∧x_1.snd=sumS p (List.take x_1.fst.toNat l) x→(z6=true→(0:Int)≤x_1.fst∧x_1.fst<(↑l.length:Int)∧x_1.fst.toNat<l.length∧(p.classes.length≤8∧(0:Int)≤x∧x<nrows p∧(0:Int)≤z7.bidder)∧inR .i64 z8∧inR .i64 z9∧(((SV.row SId.off l).same (SV.row SId.off l)∧z0.same z0∧z10.same z10∧z11.same z11∧z12.same z12∧True)∧z1.same z1∧True)∧((0:Int)≤z9∧z9≤z3∧z8=sumS p (List.take z9.toNat l) x)∧(z3 - z9).toNat<(z3 - x_1.fst).toNat)∧(z6=false→(p.classes.length≤8∧(0:Int)≤x∧x<nrows p∧(0:Int)≤(0:Int))∧(z13=true→(SV.bl false).same (SV.sb (fitsB p l)))∧(z13=false→inR .i64 z4∧(((SV.row SId.off l).same (SV.row SId.off l)∧z0.same z0∧z5.same z5∧True)∧z1.same z1∧True)∧((0:Int)≤z4∧z4≤nrows p∧∀(r:Nat),(↑r:Int)<z4→sumS p l (↑r:Int)≤boundS p (↑r:Int))∧(nrows p - z4).toNat<(nrows p - x).toNat)))∧(decide (x<z2)=false→(SV.bl true).same (SV.sb (fitsB p l)))) (by kernel_rfl) ?_
 simp only[vcs]
 have hn:nrows p=p.classes.length+12:=rfl
 have ho:∀x∈l,x.want.ok=true:=fun x hx=>(hb x hx).2.2
 refine⟨⟨by omega,by omega,fun r hr=>by omega⟩,?_⟩
 rintro i ⟨hi0,hi1,hi⟩
 refine⟨by omega,fun hlt=>⟨⟨by omega,by omega,by simp[sumS]⟩,?_⟩,?_⟩
 ·rintro⟨j,s⟩ ⟨hj0,hj1,hs⟩
  simp only at hj0 hj1 hs ⊢
  have hsb:=@sum_bd p i (l.take j.toNat) fun x hx=>ho x (List.mem_of_mem_take hx)
  have hlen:(l.take j.toNat).length≤l.length:=by simp;omega
  refine⟨fun hjl=>?_,fun hjl=>?_⟩
  ·have hm:=hb _ (nthD_mem (d:=SId.off.dflt) (show j.toNat<l.length by omega))
   have hc:=@coef_bd p i _ hm.2.2
   have hst:=@sum_take p i l j SId.off.dflt hj0 hjl
   rw[coefR_eq hm.2.1]
   refine⟨by omega,by omega,by omega,⟨hp,by omega,by omega,hm.1⟩,by omega,by omega,⟨by omega,by omega,by omega⟩,by omega⟩
  ·have:j.toNat=l.length:=by omega
   rw[this,List.take_length] at hs
   refine⟨⟨hp,by omega,by omega,by omega⟩,fun hgt=>?_,fun hle=>⟨by omega,⟨by omega,by omega,fun r hr=>?_⟩,by omega⟩⟩
   ·symm
    rw[Bool.eq_false_iff]
    intro hf
    have:=fits_iff.1 hf i.toNat (by omega)
    rw[show((i.toNat:Nat):Int)=i from by omega] at this
    omega
   ·by_cases hr2:(r:Int)<i
    ·exact hi r hr2
    ·have:(r:Int)=i:=by omega
     rw[this]
     omega
 ·intro hge
  symm
  exact fits_iff.2 fun r hr=>hi r (by omega)
def r24:SCtr:=⟨24,Prob,.one codP,fun p=>True,fun p=> .si .i64 (checkE p)⟩
def Λ24 (p:Prob):Nat→LoopAnn
 |11=> .inv Int (fun k=>⟨[(1,.ptr 0 0 20),(4,.si .i64 k)],[.cells p.ss 27 20 false]⟩) (fun s=>iS s 4) (fun k=>0≤k∧k≤p.classes.length∧∀c∈p.classes.take k.toNat,0≤c∧c≤4) (fun k=>(p.classes.length - k).toNat) fun _ _=> .look
 |16=> .inv Int (fun i=>⟨[(1,.ptr 0 0 20),(5,.si .i64 i)],[.cells p.ss 27 20 false]⟩) (fun s=>iS s 5)
  (fun i=>0≤i∧i≤p.offers.length∧checkL p [] p.offers=checkL p ((p.offers.take i.toNat).map Off.key) (p.offers.drop i.toNat)) (fun i=>(p.offers.length - i).toNat)
  fun i=>fun
   |26=> .inv Int (fun k=>⟨[(1,.ptr 0 0 20),(5,.si .i64 i),(6,.ptr 1 0 8),(7,.si .i64 k)],[.cells p.ss 27 20 false,.cells (encS .off (nthD p.offers i.toNat SId.off.dflt)) 43 8 false]⟩) (fun s=>iS s 7)
    (fun k=>0≤k∧k≤i∧∀j:Nat,j<k→(nthD p.offers j SId.off.dflt).key≠(nthD p.offers i.toNat SId.off.dflt).key) (fun k=>(i - k).toNat) fun _ _=> .look
   |_=> .look
 |4=> .inv Int (fun k=>⟨[(1,.ptr 0 0 20),(3,.si .i64 k)],[.cells p.ss 27 20 false]⟩) (fun s=>iS s 3) (fun k=>0≤k∧k≤6∧∀j:Nat,j<k→prodOk p j) (fun k=>(6 - k).toNat) fun _ _=> .look
 |_=> .look
theorem bun_z {b:Bun}:(decide (b.a0=0)&&(decide (b.a1=0)&&(decide (b.a2=0)&&(decide (b.a3=0)&&(decide (b.a4=0)&&(decide (b.a5=0)&&true))))))=decide (b=Bun.zero):=by
 rw[Bool.eq_iff_iff]
 simp[bun_eq,Bun.zero]
theorem bun_d {b c:Bun}:(decide (b.a0=c.a0)&&(decide (b.a1=c.a1)&&(decide (b.a2=c.a2)&&(decide (b.a3=c.a3)&&(decide (b.a4=c.a4)&&(decide (b.a5=c.a5)&&true))))))=decide (b=c):=by
 rw[Bool.eq_iff_iff]
 simp[bun_eq]
theorem mem_take_nth {α:Type} {l:List α} {i:Int} {d x:α} (h1:i≤l.length) (h:x∈l.take i.toNat):∃j:Nat,(j:Int)<i∧nthD l j d=x:=by
 obtain⟨j,hj,rfl⟩:=List.mem_iff_getElem.1 h
 have hj2:=hj
 simp only[List.length_take] at hj2
 refine⟨j,by omega,?_⟩
 rw[nthD_eq (by omega),List.getElem_take]
theorem h24:Holds Try.prog r24:=by
 refine con (L:=r69::M1) r24 F24 Λ24 (OwnOK.none _) (by simp only[List.forall_mem_cons];exact⟨h69,hM1⟩) (by kernel_rfl) (by kernel_rfl) (fun _=>rfl) ?_
 intro p _
 refine vcOf (let z0:=SV.si .i64 (checkE p);let z1:=SV.ptr 0 0 20;let z2:=SV.il .i64 0;let z3:=SObj.cells (Prob.ss p) 27 20 false;let z4:=[p.cls.a0,p.cls.a1,p.cls.a2,p.cls.a3,p.cls.a4,p.cls.a5];let z5:=[p.opn.a0,p.opn.a1,p.opn.a2,p.opn.a3,p.opn.a4,p.opn.a5];let z6:=[p.supply.a0,p.supply.a1,p.supply.a2,p.supply.a3,p.supply.a4,p.supply.a5];let z7:=p.classes.length;let z8:=(↑z7:Int);let z9:=decide ((8:Int)<z8);let z10:=p.offers.length;let z11:=(↑z10:Int);let z12:=decide ((160:Int)<z11);let z13:=(↑p.classes.length:Int);let z14:=(↑p.offers.length:Int);let z15:=checkL p [] p.offers;let z16:=SId.off.dflt;let z17:=SV.ptr 1 0 8;True∧((!p.supply.ok)=true→(SV.il .i64 4).same z0)∧((!p.supply.ok)=false→(((z1.same z1∧z2.same (SV.si .i64 0)∧True)∧z3.same z3∧True)∧(0:Int)≤(0:Int)∧(0:Int)≤(6:Int)∧∀(j:Nat),(↑j:Int)<(0:Int)→prodOk p j)∧∀(x:Int),let z18:=decide (x<(6:Int));let z19:=nthD z4 x.toNat (0:Int);let z20:=decide (z19<(0:Int));let z21:=decide ((4:Int)<z19);let z22:=nthD z5 x.toNat (0:Int);let z23:=decide (z22<(0:Int));let z24:=nthD z6 x.toNat (0:Int);let z25:=decide (z19=(0:Int));let z26:=x+(1:Int);let z27:=SV.si .i64 z26;((0:Int)≤x∧x≤(6:Int)∧∀(j:Nat),(↑j:Int)<x→prodOk p j)→(z18=true→(0:Int)≤x∧x<(6:Int)∧x.toNat<6∧(z20=true→(SV.il .i64 4).same z0)∧(z20=false→(0:Int)≤x∧x<(6:Int)∧x.toNat<6∧(z21=true→(SV.il .i64 4).same z0)∧(z21=false→(0:Int)≤x∧x<(6:Int)∧x.toNat<6∧(z23=true→(SV.il .i64 4).same z0)∧(z23=false→(0:Int)≤x∧x<(6:Int)∧x.toNat<6∧(0:Int)≤x∧x<(6:Int)∧x.toNat<6∧(decide (z24<z22)=true→(SV.il .i64 4).same z0)∧(decide (z24<z22)=false→(0:Int)≤x∧x<(6:Int)∧x.toNat<6∧(z25=true→(0:Int)≤x∧x<(6:Int)∧x.toNat<6∧(0:Int)≤x∧x<(6:Int)∧x.toNat<6∧(decide (z22≠z24)=true→(SV.il .i64 4).same z0)∧(decide (z22≠z24)=false→inR .i64 z26∧((z1.same z1∧z27.same z27∧True)∧z3.same z3∧True)∧((0:Int)≤z26∧z26≤(6:Int)∧∀(j:Nat),(↑j:Int)<z26→prodOk p j)∧((6:Int) - z26).toNat<((6:Int) - x).toNat))∧(z25=false→inR .i64 z26∧((z1.same z1∧z27.same z27∧True)∧z3.same z3∧True)∧((0:Int)≤z26∧z26≤(6:Int)∧∀(j:Nat),(↑j:Int)<z26→prodOk p j)∧((6:Int) - z26).toNat<((6:Int) - x).toNat))))))∧(z18=false→(z9=true→(SV.il .i64 3).same z0)∧(z9=false→(z12=true→(SV.il .i64 3).same z0)∧(z12=false→(((z1.same z1∧z2.same (SV.si .i64 0)∧True)∧z3.same z3∧True)∧(0:Int)≤(0:Int)∧(0:Int)≤z13∧∀(c:Int),c∈[]→(0:Int)≤c∧c≤(4:Int))∧∀(x:Int),let z28:=nthD p.classes x.toNat (0:Int);let z29:=decide (z28<(0:Int));let z30:=decide ((4:Int)<z28);let z31:=x+(1:Int);let z32:=SV.si .i64 z31;((0:Int)≤x∧x≤z13∧∀(c:Int),c∈List.take x.toNat p.classes→(0:Int)≤c∧c≤(4:Int))→(decide (x<z8)=true→(0:Int)≤x∧x<z8∧x.toNat<z7∧(z29=true→(SV.il .i64 4).same z0)∧(z29=false→(0:Int)≤x∧x<z8∧x.toNat<z7∧(z30=true→(SV.il .i64 4).same z0)∧(z30=false→inR .i64 z31∧((z1.same z1∧z32.same z32∧True)∧z3.same z3∧True)∧((0:Int)≤z31∧z31≤z13∧∀(c:Int),c∈List.take z31.toNat p.classes→(0:Int)≤c∧c≤(4:Int))∧(z13 - z31).toNat<(z13 - x).toNat)))∧(decide (x<z8)=false→(((z1.same z1∧z2.same (SV.si .i64 0)∧True)∧z3.same z3∧True)∧(0:Int)≤(0:Int)∧(0:Int)≤z14∧z15=z15)∧∀(x:Int),let z33:=nthD p.offers x.toNat z16;let z34:=z33.bidder;let z35:=decide (z34<(0:Int));let z36:=decide (z33.value<(1:Int));let z37:=decide ((1000000:Int)<z33.value);let z38:=z33.want;let z39:=decide (z38.a0=(0:Int))&&(decide (z38.a1=(0:Int))&&(decide (z38.a2=(0:Int))&&(decide (z38.a3=(0:Int))&&(decide (z38.a4=(0:Int))&&(decide (z38.a5=(0:Int))&&true)))));let z40:=SObj.cells [SV.si .i64 z34,SV.si .i64 z38.a0,SV.si .i64 z38.a1,SV.si .i64 z38.a2,SV.si .i64 z38.a3,SV.si .i64 z38.a4,SV.si .i64 z38.a5,SV.si .i64 z33.value] 43 8 false;let z41:=x+(1:Int);let z42:=SV.si .i64 z41;(0:Int)≤x∧x≤z14∧z15=checkL p (List.map Off.key (List.take x.toNat p.offers)) (List.drop x.toNat p.offers)→(decide (x<z11)=true→(0:Int)≤x∧x<z11∧x.toNat<z10∧(z35=true→(SV.il .i64 6).same z0)∧(z35=false→(decide (z8≤z34)=true→(SV.il .i64 6).same z0)∧(decide (z8≤z34)=false→(z36=true→(SV.il .i64 4).same z0)∧(z36=false→(z37=true→(SV.il .i64 4).same z0)∧(z37=false→True∧((!z38.ok)=true→(SV.il .i64 4).same z0)∧((!z38.ok)=false→(z39=true→(SV.il .i64 4).same z0)∧(z39=false→(p.classes.length≤8∧1≤1000∧∀(x:Off),x∈[z33]→(0:Int)≤x.bidder∧x.bidder<z13∧x.want.ok=true)∧((!fitsB p [z33])=true→(SV.il .i64 14).same z0)∧((!fitsB p [z33])=false→(((z1.same z1∧(SV.si .i64 x).same (SV.si .i64 x)∧z17.same z17∧z2.same (SV.si .i64 0)∧True)∧z3.same z3∧z40.same z40∧True)∧(0:Int)≤(0:Int)∧(0:Int)≤x∧∀(j:Nat),(↑j:Int)<(0:Int)→(nthD p.offers j z16).key≠z33.key)∧∀(x_1:Int),let z43:=nthD p.offers x_1.toNat z16;let z44:=decide (z43.bidder=z34);let z45:=z43.want;let z46:=decide (z45.a0=z38.a0)&&(decide (z45.a1=z38.a1)&&(decide (z45.a2=z38.a2)&&(decide (z45.a3=z38.a3)&&(decide (z45.a4=z38.a4)&&(decide (z45.a5=z38.a5)&&true)))));let z47:=x_1+(1:Int);let z48:=SV.si .i64 x;let z49:=SV.si .i64 z47;((0:Int)≤x_1∧x_1≤x∧∀(j:Nat),(↑j:Int)<x_1→(nthD p.offers j z16).key≠z33.key)→(decide (x_1<x)=true→(0:Int)≤x_1∧x_1<z11∧x_1.toNat<z10∧(z44=true→(0:Int)≤x_1∧x_1<z11∧x_1.toNat<z10∧(z46=true→(SV.il .i64 7).same z0)∧(z46=false→inR .i64 z47∧((z1.same z1∧z48.same z48∧z17.same z17∧z49.same z49∧True)∧z3.same z3∧z40.same z40∧True)∧((0:Int)≤z47∧z47≤x∧∀(j:Nat),(↑j:Int)<z47→(nthD p.offers j z16).key≠z33.key)∧(x - z47).toNat<(x - x_1).toNat))∧(z44=false→inR .i64 z47∧((z1.same z1∧z48.same z48∧z17.same z17∧z49.same z49∧True)∧z3.same z3∧z40.same z40∧True)∧((0:Int)≤z47∧z47≤x∧∀(j:Nat),(↑j:Int)<z47→(nthD p.offers j z16).key≠z33.key)∧(x - z47).toNat<(x - x_1).toNat))∧(decide (x_1<x)=false→inR .i64 z41∧((z1.same z1∧z42.same z42∧True)∧z3.same z3∧True)∧((0:Int)≤z41∧z41≤z14∧z15=checkL p (List.map Off.key (List.take z41.toNat p.offers)) (List.drop z41.toNat p.offers))∧(z14 - z41).toNat<(z14 - x).toNat)))))))))∧(decide (x<z11)=false→z2.same z0))))))) (by kernel_rfl) ?_
 simp only[bun_z,bun_d]
 simp only[vcs]
 have e4:frameE p=4→(4:Int)=checkE p:=fun h=>by simp[checkE,h]
 have e3:frameE p=3→(3:Int)=checkE p:=fun h=>by simp[checkE,h]
 refine⟨fun hs=>e4 (frame_sup hs),fun hs=>⟨⟨by omega,by omega,fun j hj=>by omega⟩,?_⟩⟩
 rintro k ⟨hk0,hk1,hk⟩
 refine⟨fun hlt=>?_,fun hge=>?_⟩
 ·have bad:¬prodOk p k.toNat→(4:Int)=checkE p:=fun h=>e4 (frame_prod hs (by omega) h)
  have nxt:prodOk p k.toNat→∀(j:Nat),(j:Int)<k+1→prodOk p j:=fun h j hj=>by
   by_cases hj2:(j:Int)<k
   ·exact hk j hj2
   ·rw[show j=k.toNat from by omega];exact h
  repeat' (first|refine And.intro ?_ ?_|intro _)
  all_goals first
   |omega
   |exact bad fun hh=>by have h2:=prodOk_iff.1 hh;omega
   |exact nxt (prodOk_iff.2 (by omega)) _ (by assumption)
 ·have hall:∀j:Nat,j<6→prodOk p j:=fun j hj=>hk j (by omega)
  refine⟨fun h=>e3 (frame_len hs hall (.inl (by omega))),fun h8=>⟨fun h=>e3 (frame_len hs hall (.inr (by omega))),fun h160=>⟨⟨by omega,by omega,by simp⟩,?_⟩⟩⟩
  rintro i ⟨hi0,hi1,hi⟩
  refine⟨fun hlt=>?_,fun hge=>?_⟩
  ·have hm:=nthD_mem (d:=0) (show i.toNat<p.classes.length by omega)
   refine⟨by omega,by omega,by omega,fun h=>e4 (frame_cls hs hall (by omega) hm (by omega)),fun h1=>⟨by omega,by omega,by omega,fun h=>e4 (frame_cls hs hall (by omega) hm (by omega)),fun h2=>⟨by omega,⟨by omega,by omega,?_⟩,by omega⟩⟩⟩
   exact mem_take_next hi0 hlt hi (by omega)
  ·rw[show i.toNat=p.classes.length from by omega,List.take_length] at hi
   have hz:frameE p=0:=frame_ok hs hall (by omega) hi
   have ce:checkE p=checkL p [] p.offers:=by simp[checkE,hz]
   refine⟨⟨by omega,by omega⟩,?_⟩
   rintro i ⟨hi0,hi1,hi⟩
   refine⟨fun hlt=>?_,fun hge=>?_⟩
   ·rw[drop_nth (d:=SId.off.dflt) hi0 hlt] at hi
    generalize hx:nthD p.offers i.toNat SId.off.dflt=x at hi ⊢
    have oe:∀c:Int,c≠0→offerE p x=c→c=checkE p:=fun c hc h=>by
     rw[ce,hi]
     simp only[checkL,h]
     rw[if_pos hc]
    have se:∀c:Int,c≠0→simpleE p.classes.length x=c→c=checkE p:=fun c hc h=>oe c hc (by
     unfold offerE
     rw[if_pos (by omega),h])
    refine⟨by omega,by omega,by omega,fun h1=>?_,fun h1=>⟨fun h2=>?_,fun h2=>⟨fun h3=>?_,fun h3=>⟨fun h4=>?_,fun h4=>⟨fun h5=>?_,fun h5=>⟨fun h6=>?_,fun h6=>?_⟩⟩⟩⟩⟩⟩
    ·exact se 6 (by decide) (by unfold simpleE;rw[if_pos (by omega)])
    ·exact se 6 (by decide) (by unfold simpleE;rw[if_pos (by omega)])
    ·exact se 4 (by decide) (by unfold simpleE;rw[if_neg (by omega),if_pos (by omega)])
    ·exact se 4 (by decide) (by unfold simpleE;rw[if_neg (by omega),if_pos (by omega)])
    ·exact se 4 (by decide) (by unfold simpleE;rw[if_neg (by omega),if_neg (by omega),h5];rfl)
    ·have hs0:simpleE p.classes.length x=0:=by unfold simpleE;rw[if_neg (by omega),if_neg (by omega),h5];rfl
     exact oe 4 (by decide) (by simp[offerE,hs0,h6])
    ·have hs0:simpleE p.classes.length x=0:=by unfold simpleE;rw[if_neg (by omega),if_neg (by omega),h5];rfl
     refine⟨⟨by omega,by omega,fun y hy=>?_⟩,fun h7=>?_,fun h7=>⟨⟨by omega,by omega,fun j hj=>by omega⟩,?_⟩⟩
     ·rw[List.mem_singleton.1 hy]
      exact⟨by omega,by omega,h5⟩
     ·exact oe 14 (by decide) (by simp[offerE,hs0,h6,h7])
     ·have ho0:offerE p x=0:=by simp[offerE,hs0,h6,h7]
      rintro k ⟨hk0,hk1,hk⟩
      have hnx:(nthD p.offers k.toNat SId.off.dflt).key≠x.key→∀j:Nat,(j:Int)<k+1→(nthD p.offers j SId.off.dflt).key≠x.key:=fun h j hj=>by
       by_cases hj2:(j:Int)<k
       ·exact hk j hj2
       ·rw[show j=k.toNat from by omega];exact h
      refine⟨fun hlt2=>⟨by omega,by omega,by omega,fun h8=>⟨by omega,by omega,by omega,fun h9=>?_,fun h9=>⟨by omega,⟨by omega,by omega,?_⟩,by omega⟩⟩,fun h8=>⟨by omega,⟨by omega,by omega,?_⟩,by omega⟩⟩,fun hge2=>⟨by omega,⟨by omega,by omega,?_⟩,by omega⟩⟩
      ·have hk9:(nthD p.offers k.toNat SId.off.dflt).key=x.key:=by
        show BKey.mk _ _=BKey.mk _ _
        rw[h8,h9]
       have hmem:x.key∈(p.offers.take i.toNat).map Off.key:=by
        rw[←hk9]
        refine List.mem_map.2 ⟨_,?_,rfl⟩
        rw[nthD_eq (by omega)]
        exact List.mem_take_iff_getElem.2 ⟨k.toNat,by omega,rfl⟩
       rw[ce,hi]
       simp only[checkL,ho0,ne_eq,not_true,if_false,if_pos hmem]
      ·refine hnx fun e=>h9 ?_
       injection e
      ·refine hnx fun e=>h8 ?_
       injection e
      ·have hnm:x.key∉(p.offers.take i.toNat).map Off.key:=by
        intro hmem
        obtain⟨o,ho,he⟩:=List.mem_map.1 hmem
        obtain⟨j,hj,rfl⟩:=mem_take_nth (d:=SId.off.dflt) hi1 ho
        exact hk j (by omega) he
       rw[hi,take_nth (d:=SId.off.dflt) hi0 hlt,hx]
       simp only[checkL,ho0,ne_eq,not_true,if_false,if_neg hnm,List.map_append,List.map_cons,List.map_nil]
   ·rw[show i.toNat=p.offers.length from by omega,List.drop_length] at hi
    rw[ce,hi]
    rfl
def M2:List SCtr:=r24::r69::M1
theorem hM2:∀c∈M2,Holds Try.prog c:=by
 simp only[M2,List.forall_mem_cons]
 exact⟨h24,h69,hM1⟩
def r109:SCtr:=⟨109,Prob×List Int,.cons codP (.one (codR (.i .i64))),fun a=>a.2.length≤9223372036854775807∧a.1.offers.length≤1000,fun a=> .tup [.row .off (pickL a.1 a.2),.sb (pickOk a.1 a.2)]⟩
def lastI (c:List Int) (i:Int):Int:=if i=0 then -1 else nthD c (i - 1).toNat 0
def Λ109 (a:Prob×List Int):Nat→LoopAnn
 |3=> .inv (Int×List Off) (fun x=>⟨[(1,.row (.i .i64) a.2),(2,.ptr 0 0 20),(6,.ow 1 x.2.length 8),(7,.si .i64 x.1)],
   [.cells a.1.ss 27 20 false,.row .off x.2 43 true]⟩) (fun s=>(iS s 7,oS .off s 1))
  (fun x=>0≤x.1∧x.1≤a.2.length∧(x.2.length≤lastI a.2 x.1+1∧lastI a.2 x.1<1000)∧ -1≤lastI a.2 x.1∧pickGo a.1.offers (-1) a.2=(pickGo a.1.offers (lastI a.2 x.1) (a.2.drop x.1.toNat)).map (x.2++·)) (fun x=>(a.2.length - x.1).toNat) fun _ _=> .look
 |_=> .look
theorem h109:Holds Try.prog r109:=by
 refine con (L:=M2) r109 F109 Λ109 (OwnOK.none _) hM2 (by kernel_rfl) (by kernel_rfl) (fun _=>rfl) ?_
 rintro⟨p,c⟩ ⟨hc,hof⟩
 have hc:c.length≤9223372036854775807:=hc
 have hof:p.offers.length≤1000:=hof
 refine vcOf (let z0:=SId.i .i64;let z1:=SV.ptr 0 0 20;let z2:=SV.ow 1 0 8;let z3:=SObj.cells [SV.si .i64 p.supply.a0,SV.si .i64 p.supply.a1,SV.si .i64 p.supply.a2,SV.si .i64 p.supply.a3,SV.si .i64 p.supply.a4,SV.si .i64 p.supply.a5,SV.si .i64 p.opn.a0,SV.si .i64 p.opn.a1,SV.si .i64 p.opn.a2,SV.si .i64 p.opn.a3,SV.si .i64 p.opn.a4,SV.si .i64 p.opn.a5,SV.si .i64 p.cls.a0,SV.si .i64 p.cls.a1,SV.si .i64 p.cls.a2,SV.si .i64 p.cls.a3,SV.si .i64 p.cls.a4,SV.si .i64 p.cls.a5,SV.row z0 p.classes,SV.row SId.off p.offers] 27 20 false;let z4:=SObj.row SId.off [] 43 true;let z5:=(↑c.length:Int);let z6:=lastI c (0:Int);let z7:=pickGo p.offers (-1:Int) c;let z8:=(↑c.length:Int);let z9:=SV.tup [SV.row SId.off (pickL p c),SV.sb (pickOk p c)];let z10:=p.offers.length;let z11:=(↑z10:Int);let z12:=SId.off.dflt;((((SV.row z0 c).same (SV.row z0 c)∧z1.same z1∧z2.same z2∧(SV.il .i64 0).same (SV.si .i64 0)∧True)∧z3.same z3∧z4.same z4∧True)∧(0:Int)≤(0:Int)∧(0:Int)≤z5∧((0:Int)≤z6+(1:Int)∧z6<(1000:Int))∧(-1:Int)≤z6∧z7=Option.map (fun x ↦((0:Int),[]).snd++x) (pickGo p.offers z6 c))∧∀(x:Int×List Off),let z13:=lastI c x.fst;let z14:=nthD c x.fst.toNat (0:Int);let z15:=decide (z14<(0:Int));let z16:=decide ((0:Int)<x.fst);let z17:=x.fst - (1:Int);let z18:=decide (z14≤nthD c z17.toNat (0:Int));let z19:=x.snd.length+1;let z20:=x.fst+(1:Int);let z21:=x.snd++[nthD p.offers z14.toNat z12];let z22:=SV.si .i64 z20;let z23:=SObj.row SId.off z21 43 true;let z24:=lastI c z20;(0:Int)≤x.fst∧x.fst≤z5∧((↑x.snd.length:Int)≤z13+(1:Int)∧z13<(1000:Int))∧(-1:Int)≤z13∧z7=Option.map (fun x_1 ↦x.snd++x_1) (pickGo p.offers z13 (List.drop x.fst.toNat c))→(decide (x.fst<z8)=true→(0:Int)≤x.fst∧x.fst<z8∧x.fst.toNat<c.length∧(z15=true→(SV.tup [SV.row z0 [],SV.bl false]).same z9)∧(z15=false→(0:Int)≤x.fst∧x.fst<z8∧x.fst.toNat<c.length∧(decide (z11≤z14)=true→(SV.tup [SV.row z0 [],SV.bl false]).same z9)∧(decide (z11≤z14)=false→(z16=true→(0:Int)≤x.fst∧x.fst<z8∧x.fst.toNat<c.length∧inR .i64 z17∧(0:Int)≤z17∧z17<z8∧z17.toNat<c.length∧(z18=true→(SV.tup [SV.row z0 [],SV.bl false]).same z9)∧(z18=false→(0:Int)≤x.fst∧x.fst<z8∧x.fst.toNat<c.length∧(0:Int)≤z14∧z14<z11∧z14.toNat<z10∧x.snd.length=x.snd.length∧z19*64≤140737488355328∧z19≤1000000000000∧inR .i64 z20∧(((SV.row z0 c).same (SV.row z0 c)∧z1.same z1∧(SV.ow 1 z21.length 8).same (SV.ow 1 z21.length 8)∧z22.same z22∧True)∧z3.same z3∧z23.same z23∧True)∧((0:Int)≤z20∧z20≤z5∧((↑z21.length:Int)≤z24+(1:Int)∧z24<(1000:Int))∧(-1:Int)≤z24∧z7=Option.map (fun x ↦(z20,z21).snd++x) (pickGo p.offers z24 (List.drop z20.toNat c)))∧(z5 - z20).toNat<(z5 - x.fst).toNat))∧(z16=false→(0:Int)≤x.fst∧x.fst<z8∧x.fst.toNat<c.length∧(0:Int)≤z14∧z14<z11∧z14.toNat<z10∧x.snd.length=x.snd.length∧z19*64≤140737488355328∧z19≤1000000000000∧inR .i64 z20∧(((SV.row z0 c).same (SV.row z0 c)∧z1.same z1∧(SV.ow 1 z21.length 8).same (SV.ow 1 z21.length 8)∧z22.same z22∧True)∧z3.same z3∧z23.same z23∧True)∧((0:Int)≤z20∧z20≤z5∧((↑z21.length:Int)≤z24+(1:Int)∧z24<(1000:Int))∧(-1:Int)≤z24∧z7=Option.map (fun x ↦(z20,z21).snd++x) (pickGo p.offers z24 (List.drop z20.toNat c)))∧(z5 - z20).toNat<(z5 - x.fst).toNat))))∧(decide (x.fst<z8)=false→x.snd.length=x.snd.length∧(SV.tup [SV.row SId.off x.snd,SV.bl true]).same z9)) (by kernel_rfl) ?_
 simp only[vcs]
 have hbad:pickGo p.offers (-1) c=none→(SV.row (.i .i64) []).same (SV.row .off (pickL p c))∧false=pickOk p c:=fun h=>⟨same_row_nil.2 (by simp[pickL,h]),by simp[pickOk,h]⟩
 refine⟨⟨by omega,by omega,by simp[lastI],by simp[lastI]⟩,?_⟩
 rintro⟨i,out⟩ ⟨hi0,hi1,hlen,hla,hi⟩
 simp only at hi0 hi1 hlen hla hi ⊢
 refine⟨fun hlt=>?_,fun hge=>?_⟩
 ·rw[drop_nth (d:=0) hi0 hlt] at hi
  have hl1:lastI c (i+1)=nthD c i.toNat 0:=by unfold lastI;rw[if_neg (by omega),show i+1 - 1=i by omega]
  have hl2:i≠0→lastI c i=nthD c (i - 1).toNat 0:=fun h=>by unfold lastI;rw[if_neg h]
  have hl3:i=0→lastI c i= -1:=fun h=>by unfold lastI;rw[if_pos h]
  generalize hx:nthD c i.toNat 0=x at hi hl1 ⊢
  simp only[pickGo] at hi
  have hgood:¬(x≤lastI c i∨p.offers.length≤x)→pickGo p.offers (-1) c=(pickGo p.offers (lastI c (i+1)) (c.drop (i+1).toNat)).map fun r=>(out++[nthD p.offers x.toNat SId.off.dflt])++r:=fun h=>by
   rw[if_neg h] at hi
   rw[hi,hl1,Option.map_map]
   congr 1
   funext r
   simp
  have bad:(x≤lastI c i∨p.offers.length≤x)→(SV.row (.i .i64) []).same (SV.row .off (pickL p c))∧false=pickOk p c:=fun h=>hbad (by rw[hi,if_pos h];rfl)
  have hlen2:¬(x≤lastI c i∨p.offers.length≤x)→((out++[nthD p.offers x.toNat SId.off.dflt]).length:Int)≤lastI c (i+1)+1∧lastI c (i+1)<1000:=fun h=>by
   rw[hl1]
   simp only[List.length_append,List.length_singleton]
   omega
  refine⟨by omega,by omega,by omega,fun h1=>bad (.inl (by omega)),fun h1=>⟨by omega,by omega,by omega,fun h2=>bad (.inr (by omega)),fun h2=>⟨fun h3=>⟨by omega,by omega,by omega,by omega,by omega,by omega,by omega,fun h4=>bad (.inl (by rw[hl2 (by omega)];omega)),fun h4=>?_⟩,fun h3=>?_⟩⟩⟩
  ·have:=hl2 (by omega)
   refine⟨by omega,by omega,by omega,by omega,by omega,by omega,by omega,by omega,by omega,⟨by omega,by omega,hlen2 (by omega),by omega,hgood (by omega)⟩,by omega⟩
  ·have:=hl3 (by omega)
   refine⟨by omega,by omega,by omega,by omega,by omega,by omega,by omega,by omega,by omega,⟨by omega,by omega,hlen2 (by omega),by omega,hgood (by omega)⟩,by omega⟩
 ·rw[show i.toNat=c.length from by omega,List.drop_length] at hi
  simp only[pickGo,Option.map_some,List.append_nil] at hi
  exact⟨by simp[pickL,hi],by simp[pickOk,hi]⟩
def M3:List SCtr:=r109::M2
theorem hM3:∀c∈M3,Holds Try.prog c:=by
 simp only[M3,List.forall_mem_cons]
 exact⟨h109,hM2⟩
def r55:SCtr:=⟨55,Prob×List Int,.cons codP (.one (codR (.i .i64))),fun a=>a.2.length≤9223372036854775807,fun a=> .si .i64 (feasE a.1 a.2)⟩
theorem h55:Holds Try.prog r55:=by
 refine con (L:=M3) r55 F55 (fun p=>fun _=> .look) (OwnOK.none _) hM3 (by kernel_rfl) (by kernel_rfl) (fun _=>rfl) ?_
 rintro⟨p,c⟩ (hc:c.length≤9223372036854775807)
 refine vcOf (let z0:=decide (checkE p≠(0:Int));let z1:=SV.si .i64 (feasE p c);let z2:=!fitsB p (pickL p c);True∧(z0=true→(SV.si .i64 (checkE p)).same z1)∧(z0=false→(c.length≤9223372036854775807∧p.offers.length≤1000)∧((!pickOk p c)=true→(SV.il .i64 4).same z1)∧((!pickOk p c)=false→(p.classes.length≤8∧(pickL p c).length≤1000∧∀(x:Off),x∈pickL p c→(0:Int)≤x.bidder∧x.bidder<(↑p.classes.length:Int)∧x.want.ok=true)∧(z2=true→(SV.il .i64 14).same z1)∧(z2=false→(SV.il .i64 0).same z1)))) (by kernel_rfl) ?_
 simp only[vcs]
 refine⟨fun h=>by simp[feasE,h],fun h=>?_⟩
 have hz:checkE p=0:=Classical.not_not.1 h
 obtain⟨hf,ho⟩:=check_zero hz
 obtain⟨f1,f2,f3,f4,f5⟩:=frame_zero hf
 refine⟨⟨hc,by omega⟩,fun h1=>by simp[feasE,hz,h1],fun h1=>⟨⟨f3,?_,?_⟩,fun h2=>by simp[feasE,hz,h1,h2],fun h2=>by simp[feasE,hz,h1,h2]⟩⟩
 ·unfold pickOk at h1
  obtain⟨r,hr⟩:=Option.isSome_iff_exists.1 h1
  have:=pick_len (by omega) hr
  simp only[pickL,hr,Option.getD_some]
  rcases this with h3|rfl
  ·omega
  ·simp
 ·unfold pickOk at h1
  obtain⟨r,hr⟩:=Option.isSome_iff_exists.1 h1
  simp only[pickL,hr,Option.getD_some]
  intro x hx
  have hs:=simple_zero (offer_zero (ho x (pick_mem (by omega) hr x hx))).1
  exact⟨hs.1,hs.2.1,hs.2.2.2.2⟩
def sumV:List Off→Int
 |[]=>0
 |x::l=>x.value+sumV l
def valueS (p:Prob) (c:List Int):Int:=if checkE p=0 then sumV (pickL p c) else 0
theorem sumV_append:∀{l m:List Off},sumV (l++m)=sumV l+sumV m
 |[],m=>by simp[sumV]
 |x::l,m=>by simp only[List.cons_append,sumV,@sumV_append l m];omega
theorem sumV_take {l:List Off} {i:Int} (h0:0≤i) (h:i<l.length):sumV (l.take (i+1).toNat)=sumV (l.take i.toNat)+(nthD l i.toNat SId.off.dflt).value:=by
 rw[take_nth (d:=SId.off.dflt) h0 h,sumV_append]
 simp[sumV]
def r58:SCtr:=⟨58,Prob×List Int,.cons codP (.one (codR (.i .i64))),fun a=>a.2.length≤9223372036854775807,fun a=> .si .i64 (valueS a.1 a.2)⟩
def Λ58 (a:Prob×List Int):Nat→LoopAnn
 |6=> .inv Int (fun i=>⟨[(5,.row .off (pickL a.1 a.2)),(7,.si .i64 (sumV ((pickL a.1 a.2).take i.toNat))),(8,.si .i64 i)],[.cells a.1.ss 27 20 false]⟩) (fun s=>iS s 8)
  (fun i=>0≤i∧i≤(pickL a.1 a.2).length) (fun i=>((pickL a.1 a.2).length - i).toNat) fun _ _=> .look
 |_=> .look
theorem picks_ok {p:Prob} {c:List Int} (h:checkE p=0):(pickL p c).length≤160∧∀x∈pickL p c,x∈p.offers:=by
 have hg:=good_of h
 unfold pickL
 cases hr:pickGo p.offers (-1) c with
 |none=>simp
 |some r=>
  refine⟨?_,fun x hx=>pick_mem (by omega) hr x hx⟩
  have h1:=pick_len (by omega) hr
  have h2:=hg.2.1
  simp only[Option.getD_some]
  rcases h1 with h1|rfl
  ·omega
  ·simp
theorem sum_val_bd {p:Prob} (hg:Good p):∀{l:List Off},(∀x∈l,x∈p.offers)→0≤sumV l∧sumV l≤1000000*l.length
 |[],_=>by simp[sumV]
 |x::l,h=>by
  have h1:=hg.2.2.2.2 x (h x (by simp))
  have h2:=@sum_val_bd p hg l fun y hy=>h y (by simp[hy])
  simp only[sumV,List.length_cons]
  omega
theorem h58:Holds Try.prog r58:=by
 refine con (L:=M3) r58 F58 Λ58 (OwnOK.none _) hM3 (by kernel_rfl) (by kernel_rfl) (fun _=>rfl) ?_
 rintro⟨p,c⟩ (hc:c.length≤9223372036854775807)
 refine vcOf (let z0:=decide (checkE p≠(0:Int));let z1:=SV.il .i64 0;let z2:=SV.si .i64 (valueS p c);let z3:=SV.row SId.off (pickL p c);let z4:=SObj.cells (Prob.ss p) 27 20 false;let z5:=(↑(pickL p c).length:Int);let z6:=(↑(pickL p c).length:Int);True∧(z0=true→z1.same z2)∧(z0=false→(c.length≤9223372036854775807∧p.offers.length≤1000)∧(((z3.same z3∧z1.same (SV.si .i64 (sumV []))∧z1.same (SV.si .i64 0)∧True)∧z4.same z4∧True)∧(0:Int)≤(0:Int)∧(0:Int)≤z5)∧∀(x:Int),let z7:=sumV (List.take x.toNat (pickL p c));let z8:=z7+(nthD (pickL p c) x.toNat SId.off.dflt).value;let z9:=x+(1:Int);let z10:=SV.si .i64 z9;(0:Int)≤x∧x≤z5→(decide (x<z6)=true→(0:Int)≤x∧x<z6∧x.toNat<(pickL p c).length∧inR .i64 z8∧inR .i64 z9∧((z3.same z3∧(SV.si .i64 z8).same (SV.si .i64 (sumV (List.take z9.toNat (pickL p c))))∧z10.same z10∧True)∧z4.same z4∧True)∧((0:Int)≤z9∧z9≤z5)∧(z5 - z9).toNat<(z5 - x).toNat)∧(decide (x<z6)=false→(SV.si .i64 z7).same z2))) (by kernel_rfl) ?_
 simp only[vcs]
 refine⟨fun h=>by simp[valueS,h],fun h=>⟨⟨hc,by have:=(good_of (Classical.not_not.1 h)).2.1;omega⟩,⟨by simp[sumV],by omega⟩,?_⟩⟩
 have hz:checkE p=0:=Classical.not_not.1 h
 have hg:=good_of hz
 obtain⟨q1,q2⟩:=picks_ok (c:=c) hz
 rintro i ⟨hi0,hi1⟩
 refine⟨fun hlt=>?_,fun hge=>?_⟩
 ·have hs:=sumV_take hi0 hlt
  have hb:=sum_val_bd hg (l:=(pickL p c).take i.toNat) fun x hx=>q2 x (List.mem_of_mem_take hx)
  have hb2:=sum_val_bd hg (l:=(pickL p c).take (i+1).toNat) fun x hx=>q2 x (List.mem_of_mem_take hx)
  simp only[List.length_take] at hb hb2
  refine⟨by omega,by omega,by omega,by omega,by omega,hs.symm,by omega,by omega⟩
 ·rw[show i.toNat=(pickL p c).length from by omega,List.take_length]
  simp[valueS,hz]
def cmpL:List Int→List Int→Int
 |[],[]=>0
 |[],_::_=> -1
 |_::_,[]=>1
 |a::l,b::m=>if a<b then -1 else if b<a then 1 else cmpL l m
def sumB (l:List Bun):Bun:=⟨(l.map Bun.a0).sum,(l.map Bun.a1).sum,(l.map Bun.a2).sum,(l.map Bun.a3).sum,(l.map Bun.a4).sum,(l.map Bun.a5).sum⟩
def offsI (p:Prob) (l:List Int):List Off:=l.map fun i=>nthD p.offers i.toNat SId.off.dflt
def FeasL (p:Prob) (L:List Off):Prop:=(L.map Off.bidder).Nodup∧(sumB (L.map Off.want)).le p.supply=true∧(sumB (L.map (outS p))).le p.opn=true
instance (p:Prob) (L:List Off):Decidable (FeasL p L):=by unfold FeasL;infer_instance
def ref23 (p:Prob) (l:List Int):Bool:=decide (FeasL p (offsI p l))
def Bun.add (a b:Bun):Bun:=⟨a.a0+b.a0,a.a1+b.a1,a.a2+b.a2,a.a3+b.a3,a.a4+b.a4,a.a5+b.a5⟩
theorem sumB_append {l m:List Bun}:sumB (l++m)=(sumB l).add (sumB m):=by simp[sumB,Bun.add]
theorem sumB_cons {b:Bun} {l:List Bun}:sumB (b::l)=b.add (sumB l):=by simp[sumB,Bun.add]
def Bun.bd (b:Bun) (n:Int):Prop:=(0≤b.a0∧b.a0≤n)∧(0≤b.a1∧b.a1≤n)∧(0≤b.a2∧b.a2≤n)∧(0≤b.a3∧b.a3≤n)∧(0≤b.a4∧b.a4≤n)∧(0≤b.a5∧b.a5≤n)
theorem sumB_bd:∀{l:List Bun},(∀b∈l,b.ok=true)→(sumB l).bd (4*l.length)
 |[],_=>by simp[sumB,Bun.bd]
 |b::l,h=>by
  have h1:=Bun.ok_iff.1 (h b (by simp))
  have h2:=@sumB_bd l fun c hc=>h c (by simp[hc])
  rw[sumB_cons]
  simp only[Bun.bd,Bun.add,List.length_cons] at h2 ⊢
  omega
theorem outS_ok {p:Prob} {x:Off} (h:x.want.ok=true):(outS p x).ok=true:=by
 have h1:=Bun.ok_iff.1 h
 rw[Bun.ok_iff]
 simp only[outS,outK,oc]
 refine⟨?_,?_,?_,?_,?_,?_⟩<;>split<;>omega
theorem offs_ok {p:Prob} (hg:Good p) {l:List Int} (h:∀i∈l,0≤i∧i<p.offers.length):∀x∈offsI p l,x∈p.offers:=by
 intro x hx
 obtain⟨i,hi,rfl⟩:=List.mem_map.1 hx
 have:=h i hi
 exact nthD_mem (by omega)
def valI (p:Prob) (i:Int):Int:=(nthD p.offers i.toNat SId.off.dflt).value
def better (a b:Alloc):Alloc:=if b.value<a.value∨a.value=b.value∧cmpL a.chosen b.chosen<0 then a else b
def extL (p:Prob):Nat→Int→Alloc→Alloc→Alloc
 |0,_,_,b=>b
 |k+1,i,a,b=>extL p k (i+1) a (if ref23 p (a.chosen++[i]) then extL p k (i+1) ⟨a.chosen++[i],a.value+valI p i⟩ (better ⟨a.chosen++[i],a.value+valI p i⟩ b) else b)
def leftN (p:Prob) (i:Int):Nat:=(p.offers.length - i).toNat
def extS2 (p:Prob) (a:Alloc) (f:Int) (b:Alloc):Alloc:=extL p (leftN p f) f a (better a b)
def bestA (p:Prob):Alloc:=extS2 p ⟨[],0⟩ 0 ⟨[],0⟩
def hasB (m b:Int):Bool:=decide (binK.andI .i64 (m / 2^b.toNat) 1=1)
def r71:SCtr:=⟨71,Int×Int,.cons (codI .i64) (.one (codI .i64)),fun a=>0≤a.1∧a.1<256∧0≤a.2∧a.2≤8,fun a=> .sb (hasB a.1 a.2)⟩
def allR (p:Prob) (w:Int) (n:Nat):Int:=((List.range n).map fun i:Nat=>if(i:Int)≠w then(2:Int)^i else 0).sum
def r27:SCtr:=⟨27,Prob×Int,.cons codP (.one (codI .i64)),fun a=>a.1.classes.length≤8,fun a=> .si .i64 (allR a.1 a.2 a.1.classes.length)⟩
def subP (p:Prob) (m:Int):Prob:={p with offers:=p.offers.filter fun x=>hasB m x.bidder}
def worthR (p:Prob) (m:Int):Int:=(bestA (subP p m)).value
def r26:SCtr:=⟨26,Prob×Int,.cons codP (.one (codI .i64)),fun a=>Good a.1∧0≤a.2∧a.2<256,fun a=> .si .i64 (worthR a.1 a.2)⟩
def N1:List SCtr:=r26::r27::r71::r55::r58::M3
theorem feas_ok {p:Prob} {c:List Int} (hz:feasE p c=0):checkE p=0∧pickOk p c=true∧Good p∧c.length≤160∧∀i∈c,0≤i∧i<p.offers.length:=by
 have hck:checkE p=0:=by
  unfold feasE at hz
  split at hz
  ·rename_i h1;exact absurd hz h1
  ·rename_i h1;exact Classical.not_not.1 h1
 have hpk:pickOk p c=true:=by
  unfold feasE at hz
  rw[if_neg (by simp[hck])] at hz
  split at hz
  ·cases hz
  ·rename_i h1;simpa using h1
 have hg:=good_of hck
 obtain⟨r,hr⟩:=Option.isSome_iff_exists.1 hpk
 obtain⟨hr1,hidx⟩:=pick_idx (by omega) hr
 refine⟨hck,hpk,hg,?_,hidx⟩
 have h1:=pick_len (by omega) hr
 have h2:=hg.2.1
 rcases h1 with h1|rfl
 ·omega
 ·simp at hr1;omega
def wonF (p:Prob) (b:Int) (s:Int×Int) (i:Int):Int×Int:=if(nthD p.offers i.toNat SId.off.dflt).bidder=b then((nthD p.offers i.toNat SId.off.dflt).value,s.2) else(s.1,s.2+(nthD p.offers i.toNat SId.off.dflt).value)
def wonS (p:Prob) (c:List Int) (b:Int):Int×Int:=c.foldl (wonF p b) (0,0)
def allN (p:Prob):Int:=allR p (-1) p.classes.length
def faultR (p:Prob) (c:List Int):Int:=if feasE p c≠0 then feasE p c else if valueS p c<worthR p (allN p) then 13 else 0
def r64:SCtr:=⟨64,Prob×Alloc,.cons codP (.one codA),fun a=>a.2.chosen.length≤1000000000000,fun a=> .si .i64 (faultR a.1 a.2.chosen)⟩
def r67:SCtr:=⟨67,Prob×Alloc×Int,.cons codP (.cons codA (.one (codI .i64))),fun a=>Good a.1∧a.2.1.chosen.length≤160∧∀i∈a.2.1.chosen,0≤i∧i<a.1.offers.length,
 fun a=> .tup [.si .i64 (wonS a.1 a.2.1.chosen a.2.2).1,.si .i64 (wonS a.1 a.2.1.chosen a.2.2).2]⟩
def payR (p:Prob) (c:List Int) (b:Int):Int:=if(wonS p c b).1=0 then 0 else worthR p (allR p b p.classes.length) - (wonS p c b).2
def N2:List SCtr:=r64::r67::N1
def r65:SCtr:=⟨65,Prob×Alloc×Int,.cons codP (.cons codA (.one (codI .i64))),fun a=>Good a.1∧a.2.1.chosen.length≤160∧∀i∈a.2.1.chosen,0≤i∧i<a.1.offers.length,
 fun a=> .si .i64 (payR a.1 a.2.1.chosen a.2.2)⟩
def N3:List SCtr:=r65::N2
def payRL (p:Prob) (c:List Int) (n:Nat):List Int:=(List.range n).map fun i:Nat=>payR p c i
def paysR (p:Prob) (c:List Int):List Int:=if faultR p c=0 then payRL p c p.classes.length else[]
def r18:SCtr:=⟨18,Prob×Alloc,.cons codP (.one codA),fun a=>a.2.chosen.length≤1000000000000,fun a=> .tup [.row (.i .i64) (paysR a.1 a.2.chosen),.si .i64 (faultR a.1 a.2.chosen)]⟩
def N4:List SCtr:=r18::N3
structure FitL (p:Prob) (fs:List Int) (l o:Bun) (L:List Off):Prop where
 nd:(L.map Off.bidder).Nodup
 mem:∀x∈L,x∈p.offers∧x.bidder∈fs
 w:(sumB (L.map Off.want)).le l=true
 o:(sumB (L.map (outS p))).le o=true
theorem fold_ge {p:Prob} {fs:List Int} {l o:Bun}:∀{xs:List Off} {v:Int},v≤xs.foldl (stepV p fs l o) v∧∀x∈xs,x.want.le l=true→(outS p x).le o=true→x.value+valL p fs (l.sub x.want) (o.sub (outS p x))≤xs.foldl (stepV p fs l o) v
 |[],v=>by simp
 |y::xs,v=>by
  obtain⟨h1,h2⟩:=@fold_ge p fs l o xs (stepV p fs l o v y)
  have hv:v≤stepV p fs l o v y:=by
   unfold stepV
   split<;>omega
  refine⟨by simp only[List.foldl_cons];omega,fun x hx hw ho=>?_⟩
  simp only[List.foldl_cons]
  rcases List.mem_cons.1 hx with rfl|hx
  ·have:x.value+valL p fs (l.sub x.want) (o.sub (outS p x))≤stepV p fs l o v x:=by
    unfold stepV
    rw[if_pos (by simp[hw,ho])]
    omega
   omega
  ·exact h2 x hx hw ho
theorem fold_at {p:Prob} {fs:List Int} {l o:Bun}:∀{xs:List Off} {v:Int},xs.foldl (stepV p fs l o) v=v∨∃x∈xs,x.want.le l=true∧(outS p x).le o=true∧xs.foldl (stepV p fs l o) v=x.value+valL p fs (l.sub x.want) (o.sub (outS p x))
 |[],v=>by simp
 |y::xs,v=>by
  simp only[List.foldl_cons]
  rcases @fold_at p fs l o xs (stepV p fs l o v y) with h|⟨x,hx,h1,h2,h3⟩
  ·rw[h]
   unfold stepV
   split
   ·rename_i hc
    simp only[Bool.and_eq_true] at hc
    by_cases hm:v≤y.value+valL p fs (l.sub y.want) (o.sub (outS p y))
    ·exact .inr ⟨y,by simp,hc.1,hc.2,by omega⟩
    ·left;omega
   ·exact .inl rfl
  ·exact .inr ⟨x,by simp[hx],h1,h2,h3⟩
theorem sumB_mid {x:Bun} {s t:List Bun}:sumB (s++x::t)=x.add (sumB (s++t)):=by
 rw[sumB_append,sumB_append,sumB_cons]
 simp only[Bun.add,Bun.mk.injEq]
 omega
theorem sumV_mid {x:Off} {s t:List Off}:sumV (s++x::t)=x.value+sumV (s++t):=by
 rw[sumV_append,sumV_append]
 simp only[sumV]
 omega
theorem fit_bd {p:Prob} (hg:Good p) {L:List Off} (h:∀x∈L,x∈p.offers):(sumB (L.map Off.want)).bd (4*L.length)∧(sumB (L.map (outS p))).bd (4*L.length):=by
 have h1:∀x∈L,x.want.ok=true:=fun x hx=>(hg.2.2.2.2 x (h x hx)).2.2.1
 have a:=@sumB_bd (L.map Off.want) (fun b hb=>by obtain⟨x,hx,rfl⟩:=List.mem_map.1 hb;exact h1 x hx)
 have b:=@sumB_bd (L.map (outS p)) (fun b hb=>by obtain⟨x,hx,rfl⟩:=List.mem_map.1 hb;exact outS_ok (h1 x hx))
 rw[List.length_map] at a b
 exact⟨a,b⟩
theorem fit_le {p:Prob} (hg:Good p):∀{fs:List Int} {l o:Bun} {L:List Off},FitL p fs l o L→sumV L≤valL p fs l o
 |[],l,o,L,h=>by
  have:L=[]:=by
   cases L with
   |nil=>rfl
   |cons x L=>exact absurd (h.mem x (by simp)).2 (by simp)
  subst this
  simp[sumV,valL]
 |f::fs,l,o,L,h=>by
  obtain⟨g1,g2⟩:=@fold_ge p fs l o (byB p f) (valL p fs l o)
  have hval:valL p (f::fs) l o=(byB p f).foldl (stepV p fs l o) (valL p fs l o):=rfl
  rw[hval]
  by_cases hx:∃x∈L,x.bidder=f
  ·obtain⟨x,hx,hf⟩:=hx
   obtain⟨s,t,rfl⟩:=List.append_of_mem hx
   obtain⟨nd,mem,w,o'⟩:=h
   have hmx:=mem x hx
   have hst:∀y∈s++t,y∈p.offers:=fun y hy=>(mem y (by simp only[List.mem_append,List.mem_cons] at hy ⊢;rcases hy with h|h<;>simp[h])).1
   obtain⟨b1,b2⟩:=fit_bd hg hst
   rw[List.map_append,List.map_cons,sumB_mid,Bun.le_iff,←List.map_append] at w o'
   simp only[Bun.add,Bun.bd] at w o' b1 b2
   have hw:x.want.le l=true:=by rw[Bun.le_iff];omega
   have ho:(outS p x).le o=true:=by rw[Bun.le_iff];omega
   have hg2:=g2 x (List.mem_filter.2 ⟨hmx.1,by simp[hf]⟩) hw ho
   rw[List.map_append,List.map_cons,List.nodup_append] at nd
   have hne:∀y∈s++t,y.bidder≠f:=fun y hy=>by
    rw[←hf]
    rcases List.mem_append.1 hy with hy|hy
    ·exact nd.2.2 _ (List.mem_map_of_mem hy) _ (by simp)
    ·intro e
     have:=(List.nodup_cons.1 nd.2.1).1
     exact this (e▸List.mem_map_of_mem hy)
   have hrec:sumV (s++t)≤valL p fs (l.sub x.want) (o.sub (outS p x)):=fit_le hg
    {nd:=by
      rw[List.map_append,List.nodup_append]
      exact⟨nd.1,(List.nodup_cons.1 nd.2.1).2,fun a ha b hb=>nd.2.2 a ha b (by simp[hb])⟩
     mem:=fun y hy=>by
      have h1:=mem y (by simp only[List.mem_append,List.mem_cons] at hy ⊢;rcases hy with h|h<;>simp[h])
      refine⟨h1.1,?_⟩
      rcases List.mem_cons.1 h1.2 with h2|h2
      ·exact absurd h2 (hne y hy)
      ·exact h2
     w:=by rw[Bun.le_iff];simp only[Bun.sub];omega
     o:=by rw[Bun.le_iff];simp only[Bun.sub];omega}
   rw[sumV_mid]
   omega
  ·have:=fit_le hg (fs:=fs) (l:=l) (o:=o) (L:=L) ⟨h.nd,fun y hy=>by
    have h1:=h.mem y hy
    refine⟨h1.1,?_⟩
    rcases List.mem_cons.1 h1.2 with h2|h2
    ·exact absurd ⟨y,hy,h2⟩ hx
    ·exact h2,h.w,h.o⟩
   omega
theorem fit_at {p:Prob} (hg:Good p):∀{fs:List Int} {l o:Bun},fs.Nodup→Bun.zero.le l=true→Bun.zero.le o=true→∃L,FitL p fs l o L∧sumV L=valL p fs l o
 |[],l,o,_,hl,ho=>⟨[],⟨by simp,by simp,hl,ho⟩,rfl⟩
 |f::fs,l,o,hn,hl,ho=>by
  have hn2:=List.nodup_cons.1 hn
  have hval:valL p (f::fs) l o=(byB p f).foldl (stepV p fs l o) (valL p fs l o):=rfl
  rw[hval]
  rcases @fold_at p fs l o (byB p f) (valL p fs l o) with h|⟨x,hx,h1,h2,h3⟩
  ·rw[h]
   obtain⟨L,hL,hv⟩:=fit_at hg (l:=l) (o:=o) hn2.2 hl ho
   exact⟨L,⟨hL.nd,fun y hy=>⟨(hL.mem y hy).1,by simp[(hL.mem y hy).2]⟩,hL.w,hL.o⟩,hv⟩
  ·rw[h3]
   have w1:=Bun.le_iff.1 h1
   have w2:=Bun.le_iff.1 h2
   obtain⟨L,hL,hv⟩:=fit_at hg (l:=l.sub x.want) (o:=o.sub (outS p x)) hn2.2 (by rw[Bun.le_iff];simp only[Bun.zero,Bun.sub];omega) (by rw[Bun.le_iff];simp only[Bun.zero,Bun.sub];omega)
   have hx2:=List.mem_filter.1 hx
   have hxf:x.bidder=f:=by simpa using hx2.2
   refine⟨x::L,⟨?_,?_,?_,?_⟩,by simp only[sumV,hv]⟩
   ·rw[List.map_cons,List.nodup_cons]
    refine⟨fun hm=>?_,hL.nd⟩
    obtain⟨y,hy,he⟩:=List.mem_map.1 hm
    exact hn2.1 (by rw[←hxf,←he];exact(hL.mem y hy).2)
   ·intro y hy
    rcases List.mem_cons.1 hy with rfl|hy
    ·exact⟨hx2.1,by simp[hxf]⟩
    ·exact⟨(hL.mem y hy).1,by simp[(hL.mem y hy).2]⟩
   ·have:=Bun.le_iff.1 hL.w
    rw[List.map_cons,sumB_cons,Bun.le_iff]
    simp only[Bun.add,Bun.sub] at this ⊢
    omega
   ·have:=Bun.le_iff.1 hL.o
    rw[List.map_cons,sumB_cons,Bun.le_iff]
    simp only[Bun.add,Bun.sub] at this ⊢
    omega
theorem offsI_append {p:Prob} {l m:List Int}:offsI p (l++m)=offsI p l++offsI p m:=by simp[offsI]
theorem offsI_cons {p:Prob} {i:Int} {l:List Int}:offsI p (i::l)=nthD p.offers i.toNat SId.off.dflt::offsI p l:=rfl
theorem feas_pre {p:Prob} (hg:Good p) {L M:List Off} (hM:∀x∈M,x∈p.offers) (h:FeasL p (L++M)):FeasL p L:=by
 obtain⟨b1,b2⟩:=fit_bd hg hM
 obtain⟨h1,h2,h3⟩:=h
 rw[List.map_append,sumB_append,Bun.le_iff] at h2 h3
 simp only[Bun.add,Bun.bd] at h2 h3 b1 b2
 refine⟨?_,?_,?_⟩
 ·rw[List.map_append,List.nodup_append] at h1
  exact h1.1
 ·rw[Bun.le_iff];omega
 ·rw[Bun.le_iff];omega
def IncR (i:Int) (k:Nat) (t:List Int):Prop:=t.Pairwise (·<·)∧∀j∈t,i≤j∧j<i+k
theorem ref_nil {p:Prob} (hg:Good p):ref23 p []=true:=by
 have h1:=Bun.ok_iff.1 hg.2.2.1
 have h2:=Bun.ok_iff.1 hg.2.2.2.1
 unfold ref23
 refine decide_eq_true ⟨by simp[offsI],?_,?_⟩
 ·rw[Bun.le_iff];simp[offsI,sumB];omega
 ·rw[Bun.le_iff];simp[offsI,sumB];omega
theorem perm_V {L M:List Off} (h:L.Perm M):sumV L=sumV M:=by
 induction h with
 |nil=>rfl
 |cons x _ ih=>simp only[sumV];omega
 |swap x y l=>simp only[sumV];omega
 |trans _ _ a b=>omega
theorem perm_B {L M:List Bun} (h:L.Perm M):sumB L=sumB M:=by
 induction h with
 |nil=>rfl
 |cons x _ ih=>rw[sumB_cons,sumB_cons,ih]
 |swap x y l=>
  simp only[sumB_cons,Bun.add,Bun.mk.injEq]
  omega
 |trans _ _ a b=>rw[a,b]
theorem perm_F {p:Prob} {L M:List Off} (h:L.Perm M) (hF:FeasL p L):FeasL p M:=by
 obtain⟨h1,h2,h3⟩:=hF
 refine⟨((h.map _).nodup_iff).1 h1,?_,?_⟩
 ·rw[←perm_B (h.map _)];exact h2
 ·rw[←perm_B (h.map _)];exact h3
theorem idx_filter (q:Off→Bool):∀(O pre:List Off),∃t:List Int,t.Pairwise (·<·)∧(∀j∈t,(pre.length:Int)≤j∧j<pre.length+O.length)∧(t.map fun j=>nthD (pre++O) j.toNat SId.off.dflt)=O.filter q
 |[],pre=>⟨[],by simp,by simp,by simp⟩
 |x::O,pre=>by
  obtain⟨t,h1,h2,h3⟩:=idx_filter q O (pre++[x])
  have e:pre++[x]++O=pre++x::O:=by simp
  rw[e] at h3
  have hl:((pre++[x]).length:Int)=pre.length+1:=by simp
  have hr:∀j∈t,(pre.length:Int)+1≤j∧j<pre.length+1+O.length:=fun j hj=>by
   have:=h2 j hj
   omega
  by_cases hq:q x=true
  ·refine⟨(pre.length:Int)::t,List.pairwise_cons.2 ⟨fun j hj=>by have:=hr j hj;omega,h1⟩,fun j hj=>?_,?_⟩
   ·simp only[List.length_cons]
    rcases List.mem_cons.1 hj with rfl|hj
    ·omega
    ·have:=hr j hj;omega
   ·rw[List.map_cons,h3,List.filter_cons,if_pos hq]
    congr 1
    rw[nthD_eq (by simp)]
    simp
  ·refine⟨t,h1,fun j hj=>?_,?_⟩
   ·have:=hr j hj
    simp only[List.length_cons]
    omega
   ·rw[h3,List.filter_cons,if_neg hq]
theorem keys_nodup {p:Prob}:∀{l:List Off} {seen:List BKey},checkL p seen l=0→(l.map Off.key).Nodup∧∀x∈l,x.key∉seen
 |[],_,_=>by simp
 |o::r,seen,h=>by
  simp only[checkL] at h
  split at h
  ·rename_i h1;exact absurd h h1
  ·split at h
   ·cases h
   ·rename_i h1 h2
    obtain⟨k1,k2⟩:=keys_nodup h
    refine⟨?_,fun x hx=>?_⟩
    ·rw[List.map_cons,List.nodup_cons]
     refine⟨fun hm=>?_,k1⟩
     obtain⟨y,hy,he⟩:=List.mem_map.1 hm
     exact k2 y hy (by simp[he])
    ·rcases List.mem_cons.1 hx with rfl|hx
     ·exact h2
     ·exact fun hm=>k2 x hx (by simp[hm])
theorem nodup_of_map {α β:Type} (f:α→β):∀{l:List α},(l.map f).Nodup→l.Nodup
 |[],_=>by simp
 |x::l,h=>by
  rw[List.map_cons,List.nodup_cons] at h
  exact List.nodup_cons.2 ⟨fun hm=>h.1 (List.mem_map_of_mem hm),nodup_of_map f h.2⟩
theorem offers_nodup {p:Prob} (h:checkE p=0):p.offers.Nodup:=by
 unfold checkE at h
 split at h
 ·rename_i h1;exact absurd h h1
 ·exact nodup_of_map _ (keys_nodup h).1
theorem mem_nodup (m:Int):(memL m).Nodup:=by
 unfold memL
 exact List.Nodup.sublist List.filter_sublist (by decide)
theorem sumC_go {p:Prob}:∀{c:List Int} {s:Int},c.foldl (addV p) s=s+sumV (offsI p c)
 |[],s=>by simp[offsI,sumV]
 |i::c,s=>by
  rw[List.foldl_cons,sumC_go,offsI_cons]
  simp only[sumV,addV]
  omega
theorem pick_offs {p:Prob}:∀{c:List Int} {last:Int} {r:List Off},pickGo p.offers last c=some r→r=offsI p c
 |[],last,r,h=>by simp[pickGo] at h;subst h;rfl
 |i::c,last,r,h=>by
  simp only[pickGo] at h
  split at h
  ·cases h
  ·obtain⟨r',h2,rfl⟩:=Option.map_eq_some_iff.1 h
   rw[pick_offs h2,offsI_cons]
theorem value_sum {p:Prob} {c:List Int} (hz:feasE p c=0):valueS p c=sumC p c:=by
 obtain⟨q1,q2,hg,q4,q5⟩:=feas_ok hz
 obtain⟨r,hr⟩:=Option.isSome_iff_exists.1 q2
 unfold valueS sumC
 rw[if_pos q1,sumC_go]
 simp only[pickL,hr,Option.getD_some,pick_offs hr]
 omega
theorem own_row {p:Prob} {x:Off} (h0:0≤x.bidder) (h1:x.bidder<p.classes.length):coefS p x.bidder x=1:=by
 unfold coefS
 rw[if_pos (by omega),if_pos rfl]
theorem sum_cons {p:Prob} {x:Off} {L:List Off} {r:Int}:sumS p (x::L) r=coefS p r x+sumS p L r:=by simp[sumS]
theorem sum_own {p:Prob} {r:Int}:∀{L:List Off},(∀x∈L,x.want.ok=true)→(∃x∈L,x.bidder=r∧0≤r∧r<p.classes.length)→1≤sumS p L r
 |[],_,h=>by obtain⟨x,hx,_⟩:=h;cases hx
 |y::L,hw,⟨x,hx,hb,h0,h1⟩=>by
  have hy:=@coef_bd p r y (hw y (by simp))
  have hs:=@sum_bd p r L fun z hz=>hw z (by simp[hz])
  rw[sum_cons]
  rcases List.mem_cons.1 hx with rfl|hx
  ·have:coefS p r x=1:=by rw[←hb];exact own_row (by omega) (by omega)
   omega
  ·have:=@sum_own p r L (fun z hz=>hw z (by simp[hz])) ⟨x,hx,hb,h0,h1⟩
   omega
theorem nd_of {p:Prob}:∀{L:List Off},(∀x∈L,x.want.ok=true∧0≤x.bidder∧x.bidder<p.classes.length)→(∀r:Int,0≤r→r<p.classes.length→sumS p L r≤1)→(L.map Off.bidder).Nodup
 |[],_,_=>by simp
 |x::L,hw,hs=>by
  have hx:=hw x (by simp)
  rw[List.map_cons,List.nodup_cons]
  have hs2:∀r:Int,0≤r→r<p.classes.length→sumS p L r≤1:=fun r h0 h1=>by
   have:=hs r h0 h1
   have:=@coef_bd p r x hx.1
   rw[sum_cons] at*
   omega
  refine⟨fun hm=>?_,nd_of (fun y hy=>hw y (by simp[hy])) hs2⟩
  obtain⟨y,hy,he⟩:=List.mem_map.1 hm
  have h1:=hs x.bidder hx.2.1 hx.2.2
  have h2:=@sum_own p x.bidder L (fun z hz=>(hw z (by simp[hz])).1) ⟨y,hy,he,hx.2.1,hx.2.2⟩
  rw[sum_cons,own_row hx.2.1 hx.2.2] at h1
  omega
theorem feas_nd {p:Prob} {c:List Int} (hz:feasE p c=0):((offsI p c).map Off.bidder).Nodup:=by
 obtain⟨q1,q2,hg,q4,q5⟩:=feas_ok hz
 obtain⟨r,hr⟩:=Option.isSome_iff_exists.1 q2
 have hp:pickL p c=offsI p c:=by simp only[pickL,hr,Option.getD_some,pick_offs hr]
 have hf:fitsB p (offsI p c)=true:=by
  unfold feasE at hz
  rw[if_neg (by simp[q1]),if_neg (by simp[q2]),hp] at hz
  split at hz
  ·cases hz
  ·rename_i h1;simpa using h1
 refine nd_of (p:=p) (fun x hx=>?_) fun r h0 h1=>?_
 ·have:=hg.2.2.2.2 x (offs_ok hg q5 x hx)
  exact⟨this.2.2.1,this.1,this.2.1⟩
 ·have h2:=fits_iff.1 hf r.toNat (by unfold nrows;omega)
  rw[show((r.toNat:Nat):Int)=r by omega] at h2
  have h3:boundS p r=1:=by unfold boundS;rw[if_pos (by omega)]
  omega
def Bun.at (b:Bun) (k:Nat):Int:=nthD [b.a0,b.a1,b.a2,b.a3,b.a4,b.a5] k 0
theorem at_le {a b:Bun} (h:a.le b=true) (k:Nat):a.at k≤b.at k:=by
 have:=Bun.le_iff.1 h
 unfold Bun.at
 match k with
 |0|1|2|3|4|5=>simp[nthD];omega
 |k+6=>simp[nthD]
theorem at_sum (k:Nat):∀(l:List Bun),(sumB l).at k=(l.map fun b=>b.at k).sum:=by
 intro l
 unfold Bun.at sumB
 match k with
 |0|1|2|3|4|5=>simp only[nthD,List.getElem?_cons_zero,List.getElem?_cons_succ,Option.getD_some]
 |k+6=>
  simp only[nthD,List.getElem?_cons_succ,List.getElem?_nil,Option.getD_none]
  induction l with
  |nil=>rfl
  |cons b l ih=>simp only[List.map_cons,List.sum_cons];omega
theorem coef_w {p:Prob} {x:Off} {k:Nat} (hk:k<6):coefS p (p.classes.length+k) x=x.want.at k:=by
 unfold coefS
 rw[if_neg (by omega),if_pos (by omega),show((p.classes.length:Int)+k - p.classes.length).toNat=k by omega]
 rfl
theorem coef_o {p:Prob} {x:Off} {k:Nat} (hk:k<6):coefS p (p.classes.length+6+k) x=(outS p x).at k:=by
 unfold coefS
 rw[if_neg (by omega),if_neg (by omega),show((p.classes.length:Int)+6+k - p.classes.length - 6).toNat=k by omega]
 have:k=0∨k=1∨k=2∨k=3∨k=4∨k=5:=by omega
 rcases this with rfl|rfl|rfl|rfl|rfl|rfl<;>simp[outS,outK,oc,clOf,Bun.at,nthD]
theorem bound_w {p:Prob} {k:Nat} (hk:k<6):boundS p (p.classes.length+k)=p.supply.at k:=by
 unfold boundS
 rw[if_neg (by omega),if_pos (by omega),show((p.classes.length:Int)+k - p.classes.length).toNat=k by omega]
 rfl
theorem bound_o {p:Prob} {k:Nat} (hk:k<6):boundS p (p.classes.length+6+k)=p.opn.at k:=by
 unfold boundS
 rw[if_neg (by omega),if_neg (by omega),show((p.classes.length:Int)+6+k - p.classes.length - 6).toNat=k by omega]
 rfl
theorem sum_bid {p:Prob} {r:Int} (h0:0≤r) (h1:r<p.classes.length):∀{L:List Off},(L.map Off.bidder).Nodup→sumS p L r≤1∧(r∉L.map Off.bidder→sumS p L r=0)
 |[],_=>by simp[sumS]
 |x::L,h=>by
  rw[List.map_cons,List.nodup_cons] at h
  obtain⟨k1,k2⟩:=sum_bid h0 h1 h.2
  have hc:coefS p r x=if x.bidder=r then 1 else 0:=by unfold coefS;rw[if_pos (by omega)]
  rw[sum_cons,hc]
  by_cases hb:x.bidder=r
  ·rw[if_pos hb]
   have:=k2 (hb▸h.1)
   refine⟨by omega,fun hn=>absurd (by simp[hb]) hn⟩
  ·rw[if_neg hb]
   refine⟨by omega,fun hn=>?_⟩
   have:=k2 fun hm=>hn (by simp[hm])
   omega
theorem fits_of {p:Prob} {L:List Off} (h:FeasL p L):fitsB p L=true:=by
 obtain⟨h1,h2,h3⟩:=h
 refine fits_iff.2 fun r hr=>?_
 unfold nrows at hr
 by_cases ha:r<p.classes.length
 ·have:=(sum_bid (p:=p) (r:=r) (by omega) (by omega) h1).1
  have hb:boundS p r=1:=by unfold boundS;rw[if_pos (by omega)]
  omega
 by_cases hb:r<p.classes.length+6
 ·obtain⟨k,rfl⟩:∃k:Nat,r=p.classes.length+k:=⟨r - p.classes.length,by omega⟩
  have hk:k<6:=by omega
  have e:(((p.classes.length+k:Nat)):Int)=p.classes.length+k:=by omega
  rw[e,bound_w hk]
  have h4:=at_le h2 k
  rw[at_sum,List.map_map] at h4
  have:sumS p L (p.classes.length+k)=(L.map ((fun b=>Bun.at b k)∘Off.want)).sum:=by
   unfold sumS
   congr 1
   exact List.map_congr_left fun x _=>coef_w hk
  omega
 ·obtain⟨k,rfl⟩:∃k:Nat,r=p.classes.length+6+k:=⟨r - p.classes.length - 6,by omega⟩
  have hk:k<6:=by omega
  have e:(((p.classes.length+6+k:Nat)):Int)=p.classes.length+6+k:=by omega
  rw[e,bound_o hk]
  have h4:=at_le h3 k
  rw[at_sum,List.map_map] at h4
  have:sumS p L (p.classes.length+6+k)=(L.map ((fun b=>Bun.at b k)∘outS p)).sum:=by
   unfold sumS
   congr 1
   exact List.map_congr_left fun x _=>coef_o hk
  omega
theorem pick_inc {l:List Off}:∀{t:List Int} {last:Int},t.Pairwise (·<·)→(∀j∈t,last<j∧j<l.length)→pickGo l last t=some (t.map fun i=>nthD l i.toNat SId.off.dflt)
 |[],_,_,_=>rfl
 |i::t,last,h,hj=>by
  have h1:=hj i (by simp)
  have h2:=List.pairwise_cons.1 h
  unfold pickGo
  rw[if_neg (by omega),pick_inc h2.2 fun j hm=>⟨h2.1 j hm,(hj j (by simp[hm])).2⟩]
  rfl
theorem feas_of {p:Prob} (hc:checkE p=0) {t:List Int} (ht:IncR 0 p.offers.length t) (hF:FeasL p (offsI p t)):feasE p t=0:=by
 have hp:pickGo p.offers (-1) t=some (offsI p t):=pick_inc ht.1 fun j hj=>by have:=ht.2 j hj;omega
 unfold feasE
 rw[if_neg (by simp[hc]),if_neg (by simp[pickOk,hp]),if_neg (by simp[pickL,hp,fits_of hF])]
theorem le_of_at {a b:Bun} (h:∀k,k<6→a.at k≤b.at k):a.le b=true:=by
 have h0:=h 0 (by omega)
 have h1:=h 1 (by omega)
 have h2:=h 2 (by omega)
 have h3:=h 3 (by omega)
 have h4:=h 4 (by omega)
 have h5:=h 5 (by omega)
 simp[Bun.at,nthD] at h0 h1 h2 h3 h4 h5
 rw[Bun.le_iff]
 exact⟨h0,h1,h2,h3,h4,h5⟩
theorem feasL_of {p:Prob} {L:List Off} (hn:(L.map Off.bidder).Nodup) (hf:fitsB p L=true):FeasL p L:=by
 refine⟨hn,le_of_at fun k hk=>?_,le_of_at fun k hk=>?_⟩
 ·have h:=fits_iff.1 hf (p.classes.length+k) (by unfold nrows;omega)
  rw[show(((p.classes.length+k:Nat)):Int)=p.classes.length+k by omega,bound_w hk] at h
  rw[at_sum,List.map_map]
  have:sumS p L (p.classes.length+k)=(L.map ((fun b=>Bun.at b k)∘Off.want)).sum:=by
   unfold sumS
   congr 1
   exact List.map_congr_left fun x _=>coef_w hk
  omega
 ·have h:=fits_iff.1 hf (p.classes.length+6+k) (by unfold nrows;omega)
  rw[show(((p.classes.length+6+k:Nat)):Int)=p.classes.length+6+k by omega,bound_o hk] at h
  rw[at_sum,List.map_map]
  have:sumS p L (p.classes.length+6+k)=(L.map ((fun b=>Bun.at b k)∘outS p)).sum:=by
   unfold sumS
   congr 1
   exact List.map_congr_left fun x _=>coef_o hk
  omega
theorem pick_some_inc {l:List Off}:∀{t:List Int} {last:Int} {r:List Off}, -1≤last→pickGo l last t=some r→t.Pairwise (·<·)∧∀j∈t,last<j∧j<l.length
 |[],_,_,_,_=>by simp
 |i::t,last,r,hl,h=>by
  simp only[pickGo] at h
  split at h
  ·cases h
  ·rename_i h1
   obtain⟨r',h2,rfl⟩:=Option.map_eq_some_iff.1 h
   obtain⟨k1,k2⟩:=pick_some_inc (by omega) h2
   refine⟨List.pairwise_cons.2 ⟨fun j hj=>(k2 j hj).1,k1⟩,fun j hj=>?_⟩
   rcases List.mem_cons.1 hj with rfl|hj
   ·omega
   ·have:=k2 j hj;omega
def FeasI (p:Prob) (t:List Int):Prop:=IncR 0 p.offers.length t∧FeasL p (offsI p t)
theorem feas_iff {p:Prob} (hc:checkE p=0) {t:List Int}:feasE p t=0↔FeasI p t:=by
 refine⟨fun h=>?_,fun h=>feas_of hc h.1 h.2⟩
 have hn:=feas_nd h
 obtain⟨q1,q2,hg,q4,q5⟩:=feas_ok h
 obtain⟨r,hr⟩:=Option.isSome_iff_exists.1 q2
 obtain⟨k1,k2⟩:=pick_some_inc (by omega) hr
 have hp:pickL p t=offsI p t:=by simp only[pickL,hr,Option.getD_some,pick_offs hr]
 have hf:fitsB p (offsI p t)=true:=by
  unfold feasE at h
  rw[if_neg (by simp[q1]),if_neg (by simp[q2]),hp] at h
  split at h
  ·cases h
  ·rename_i h1;simpa using h1
 exact⟨⟨k1,fun j hj=>by have:=k2 j hj;omega⟩,feasL_of hn hf⟩
theorem feasI_nil {p:Prob} (hg:Good p):FeasI p []:=⟨⟨by simp,by simp⟩,of_decide_eq_true (ref_nil hg)⟩
theorem feasI_pre {p:Prob} (hg:Good p) {l m:List Int} (h:FeasI p (l++m)):FeasI p l:=by
 obtain⟨⟨h1,h2⟩,h3⟩:=h
 rw[offsI_append] at h3
 refine⟨⟨(List.pairwise_append.1 h1).1,fun j hj=>h2 j (by simp[hj])⟩,feas_pre hg (fun x hx=>?_) h3⟩
 exact offs_ok hg (l:=m) (fun j hj=>by have:=h2 j (by simp[hj]);omega) x hx
theorem feasI_val {p:Prob} (hc:checkE p=0) {t:List Int} (h:FeasI p t):valueS p t=sumV (offsI p t):=by
 have hz:=(feas_iff hc).2 h
 rw[value_sum hz]
 unfold sumC
 rw[sumC_go]
 omega
theorem to_idx {p:Prob} (hc:checkE p=0) {L:List Off} (hL:FeasL p L) (hm:∀x∈L,x∈p.offers):∃t,FeasI p t∧(offsI p t).Perm L:=by
 have hn:=offers_nodup hc
 obtain⟨t,t1,t2,t3⟩:=idx_filter (fun x=>decide (x∈L)) p.offers []
 have t4:offsI p t=p.offers.filter fun x=>decide (x∈L):=t3
 have hnd:(p.offers.filter fun x=>decide (x∈L)).Nodup:=List.Nodup.sublist List.filter_sublist hn
 have hperm:L.Perm (offsI p t):=by
  rw[t4]
  refine(List.perm_ext_iff_of_nodup (nodup_of_map _ hL.1) hnd).2 fun x=>?_
  rw[List.mem_filter,decide_eq_true_eq]
  exact⟨fun hx=>⟨hm x hx,hx⟩,fun hx=>hx.2⟩
 exact⟨t,⟨⟨t1,fun j hj=>by have:=t2 j hj;simp only[List.length_nil] at this;omega⟩,perm_F hperm hL⟩,hperm.symm⟩
def outB (p:Prob) (b k:Int):Bool:=decide (p.cls.at k.toNat≠0∧p.cls.at k.toNat≠nthD p.classes b.toNat 0)
def aloneP (p:Prob) (x:Off) (k:Nat):Prop:=x.want.at k≤p.supply.at k∧(outB p x.bidder k=true→x.want.at k≤p.opn.at k)
instance (p:Prob) (x:Off) (k:Nat):Decidable (aloneP p x k):=by unfold aloneP;infer_instance
def WK:List OCtr:=[r113,r114,r116,bestC 9]
theorem hWK:∀c∈WK,HoldsO Try.prog c:=by
 simp only[WK,List.forall_mem_cons,List.not_mem_nil,false_implies,implies_true,and_true]
 exact⟨h113,h114,h116,hBest 9⟩
def lenT (a:List Int):Nat→Nat
 |0=>0
 |n+1=>if nthD a n 0=0 then lenT a n else n+1
def trimN (a:List Int):List Int:=a.take (lenT a a.length)
def r152:SCtr:=⟨152,List Int,.one (codR (.i .u32)),fun a=>a.length≤1000000000000,fun a=> .row (.i .u32) (trimN a)⟩
def Λ152 (a:List Int):Nat→LoopAnn
 |2=> .inv Int (fun n=>⟨[(0,.row (.i .u32) a),(3,.si .i64 n)],[]⟩) (fun s=>iS s 3) (fun n=>0≤n∧n≤a.length∧lenT a n.toNat=lenT a a.length) (fun n=>n.toNat) fun _ _=> .look
 |_=> .look
theorem h152:Holds Try.prog r152:=by
 refine con (L:=[]) r152 F152 Λ152 (OwnOK.none _) (by simp) (by kernel_rfl) (by kernel_rfl) (fun _=>rfl) ?_
 intro(a:List Int) (h:a.length≤1000000000000)
 refine vcOf (let z0:=SId.i .u32;let z1:=(↑a.length:Int);let z2:=SV.si .i64 z1;let z3:=(↑a.length:Int);let z4:=lenT a a.length;((((SV.row z0 a).same (SV.row z0 a)∧z2.same z2∧True)∧True)∧(0:Int)≤z1∧z1≤z3∧lenT a z1.toNat=z4)∧∀(x:Int),let z5:=decide ((0:Int)<x);let z6:=x - (1:Int);let z7:=decide (nthD a z6.toNat (0:Int)=(0:Int));let z8:=SV.si .i64 z6;(0:Int)≤x∧x≤z3∧lenT a x.toNat=z4→(z5=true→inR .i64 z6∧(0:Int)≤z6∧z6<z1∧z6.toNat<a.length∧(z7=true→inR .i64 z6∧(((SV.row z0 a).same (SV.row z0 a)∧z8.same z8∧True)∧True)∧((0:Int)≤z6∧z6≤z3∧lenT a z6.toNat=z4)∧z6.toNat<x.toNat)∧(z7=false→(0:Int)≤x∧(0:Int)≤x∧0≤x.toNat∧x.toNat≤x.toNat∧x.toNat≤a.length∧(SV.row z0 (List.take (x.toNat - 0) a)).same (SV.row z0 (trimN a))))∧(z5=false→(0:Int)≤x∧(0:Int)≤x∧0≤x.toNat∧x.toNat≤x.toNat∧x.toNat≤a.length∧(SV.row z0 (List.take (x.toNat - 0) a)).same (SV.row z0 (trimN a)))) (by kernel_rfl) ?_
 simp only[vcs]
 refine⟨⟨by omega,by omega,by simp⟩,?_⟩
 rintro n ⟨n0,n1,hn⟩
 have stop:(n.toNat=0∨0<n.toNat∧¬nthD a (n.toNat - 1) 0=0)→List.take (n.toNat - 0) a=trimN a:=fun h=>by
  unfold trimN
  rw[←hn]
  congr 1
  rcases h with h|h
  ·rw[h];rfl
  ·obtain⟨h1,h⟩:=h
   obtain⟨m,hm⟩:∃m,n.toNat=m+1:=⟨n.toNat - 1,by omega⟩
   rw[hm] at h ⊢
   simp only[Nat.add_sub_cancel] at h
   unfold lenT
   rw[if_neg h]
   rfl
 refine⟨fun h0=>⟨by omega,by omega,by omega,by omega,fun hz=>⟨by omega,⟨by omega,by omega,?_⟩,by omega⟩,fun hz=>⟨n0,n0,by omega,by omega,by omega,?_⟩⟩,fun h0=>⟨n0,n0,by omega,by omega,by omega,stop (.inl (by omega))⟩⟩
 ·rw[←hn,show n.toNat=(n - 1).toNat+1 by omega]
  rw[lenT,if_pos hz]
 ·exact stop (.inr ⟨by omega,by rw[show n.toNat - 1=(n - 1).toNat by omega];exact hz⟩)
def valN:List Int→Int
 |[]=>0
 |d::l=>d+4294967296*valN l
def Dig (a:List Int):Prop:=∀d∈a,0≤d∧d<4294967296
def Nrm:List Int→Prop
 |[]=>True
 |d::l=>(l=[]→d≠0)∧Nrm l
theorem dig_cons {d:Int} {l:List Int}:Dig (d::l)↔(0≤d∧d<4294967296)∧Dig l:=by simp[Dig]
theorem dig_take {a:List Int} (h:Dig a) (n:Nat):Dig (a.take n):=fun d hd=>h d (List.mem_of_mem_take hd)
theorem val_nonneg:∀{a:List Int},Dig a→0≤valN a
 |[],_=>Int.le_refl _
 |d::l,h=>by
  obtain⟨h1,h2⟩:=dig_cons.1 h
  have:=val_nonneg h2
  simp only[valN]
  omega
theorem val_zero:∀{a:List Int},Dig a→Nrm a→valN a=0→a=[]
 |[],_,_,_=>rfl
 |d::l,h,hn,hz=>by
  obtain⟨h1,h2⟩:=dig_cons.1 h
  have:=val_nonneg h2
  simp only[valN] at hz
  have hl:=val_zero h2 hn.2 (by omega)
  have:=hn.1 hl
  omega
theorem val_inj:∀{a b:List Int},Dig a→Dig b→Nrm a→Nrm b→valN a=valN b→a=b
 |[],b,_,hb,_,nb,h=>(val_zero hb nb h.symm).symm
 |d::l,[],ha,_,na,_,h=>val_zero ha na h
 |d::l,e::m,ha,hb,na,nb,h=>by
  obtain⟨h1,h2⟩:=dig_cons.1 ha
  obtain⟨h3,h4⟩:=dig_cons.1 hb
  have p1:=val_nonneg h2
  have p2:=val_nonneg h4
  simp only[valN] at h
  have hd:d=e:=by omega
  have hv:valN l=valN m:=by omega
  rw[hd,val_inj h2 h4 na.2 nb.2 hv]
theorem val_snoc:∀{a:List Int} {x:Int},valN (a++[x])=valN a+4294967296^a.length*x
 |[],x=>by simp[valN]
 |d::l,x=>by
  simp only[List.cons_append,valN,val_snoc,List.length_cons,Int.pow_succ,Int.mul_add]
  rw[←Int.mul_assoc,Int.mul_comm 4294967296 (4294967296^l.length)]
  omega
theorem nrm_snoc:∀{a:List Int} {x:Int},x≠0→Nrm (a++[x])
 |[],x,h=>⟨fun _=>h,trivial⟩
 |d::l,x,h=>⟨fun he=>by simp at he,nrm_snoc h⟩
theorem take_snoc {a:List Int} {n:Nat} (h:n<a.length):a.take (n+1)=a.take n++[nthD a n 0]:=by
 rw[List.take_succ_eq_append_getElem h,nthD_eq h]
theorem lenT_val {a:List Int}:∀{n:Nat},n≤a.length→valN (a.take (lenT a n))=valN (a.take n)∧Nrm (a.take (lenT a n))
 |0,_=>by simp[lenT,Nrm]
 |n+1,h=>by
  obtain⟨k1,k2⟩:=@lenT_val a n (by omega)
  have ht:=take_snoc (show n<a.length by omega)
  unfold lenT
  split
  ·rename_i hz
   rw[ht,val_snoc,hz]
   exact⟨by simp[k1],k2⟩
  ·rename_i hz
   rw[ht]
   exact⟨rfl,nrm_snoc hz⟩
theorem trim_val {a:List Int}:valN (trimN a)=valN a∧Nrm (trimN a):=by
 have:=@lenT_val a a.length (Nat.le_refl _)
 rw[List.take_length] at this
 exact this
theorem trim_dig {a:List Int} (h:Dig a):Dig (trimN a):=dig_take h _
theorem trim_len {a:List Int}:(trimN a).length≤a.length:=by unfold trimN;simp;omega
def natF:Nat→Int→List Int
 |0,_=>[]
 |k+1,n=>if n≤0 then[] else(n % 4294967296)::natF k (n / 4294967296)
def natL (n:Int):List Int:=natF n.toNat n
theorem natF_ok:∀{k:Nat} {n:Int},0≤n→n.toNat≤k→valN (natF k n)=n∧Dig (natF k n)∧Nrm (natF k n)
 |0,n,h0,h=>by
  have:n=0:=by omega
  subst this
  exact⟨rfl,by simp[natF,Dig],trivial⟩
 |k+1,n,h0,h=>by
  unfold natF
  split
  ·have:n=0:=by omega
   subst this
   exact⟨rfl,by simp[Dig],trivial⟩
  ·obtain⟨k1,k2,k3⟩:=@natF_ok k (n / 4294967296) (by omega) (by omega)
   refine⟨by simp only[valN,k1];omega,dig_cons.2 ⟨by omega,k2⟩,fun he hz=>?_,k3⟩
   rw[he] at k1
   simp only[valN] at k1
   omega
theorem natL_ok {n:Int} (h:0≤n):valN (natL n)=n∧Dig (natL n)∧Nrm (natL n):=natF_ok h (Nat.le_refl _)
theorem natL_val {a:List Int} (h:Dig a) (hn:Nrm a):natL (valN a)=a:=by
 obtain⟨h1,h2,h3⟩:=natL_ok (val_nonneg h)
 exact val_inj h2 h h3 hn h1
theorem trim_eq {a:List Int} (h:Dig a):trimN a=natL (valN a):=by
 obtain⟨h1,h2⟩:=@trim_val a
 rw[←natL_val (trim_dig h) h2,h1]
theorem val_bdN:∀{a:List Int},Dig a→valN a<4294967296^a.length
 |[],_=>by simp[valN]
 |d::l,h=>by
  obtain⟨h1,h2⟩:=dig_cons.1 h
  have:=val_bdN h2
  simp only[valN,List.length_cons,Int.pow_succ]
  omega
theorem len_lt:∀{a b:List Int},Dig a→Dig b→Nrm b→a.length<b.length→valN a<valN b
 |[],b,_,hb,nb,h=>by
  have h0:=val_nonneg hb
  have hz:valN b≠0:=fun hz=>by rw[val_zero hb nb hz] at h;simp at h
  simp only[valN]
  omega
 |d::l,[],_,_,_,h=>by simp at h
 |d::l,e::m,ha,hb,nb,h=>by
  obtain⟨h1,h2⟩:=dig_cons.1 ha
  obtain⟨h3,h4⟩:=dig_cons.1 hb
  simp only[List.length_cons] at h
  have:=len_lt h2 h4 nb.2 (by omega)
  simp only[valN]
  omega
theorem dig_lt:∀{k:Nat} {a b:List Int},Dig a→Dig b→k<a.length→k<b.length→a.drop (k+1)=b.drop (k+1)→nthD a k 0<nthD b k 0→valN a<valN b
 |_,[],_,_,_,h,_,_,_=>by simp at h
 |_,_::_,[],_,_,_,h,_,_=>by simp at h
 |0,d::l,e::m,ha,hb,_,_,h,hk=>by
  simp only[List.drop_succ_cons,List.drop_zero] at h
  subst h
  simp only[nthD,List.getElem?_cons_zero,Option.getD_some] at hk
  simp only[valN]
  omega
 |k+1,d::l,e::m,ha,hb,h1,h2,h,hk=>by
  obtain⟨a1,a2⟩:=dig_cons.1 ha
  obtain⟨b1,b2⟩:=dig_cons.1 hb
  simp only[List.drop_succ_cons] at h
  simp only[nthD,List.getElem?_cons_succ] at hk
  have:=dig_lt (k:=k) a2 b2 (by simpa using h1) (by simpa using h2) h hk
  simp only[valN]
  omega
theorem drop_nthN {a:List Int} {k:Nat} (h:k<a.length):a.drop k=nthD a k 0::a.drop (k+1):=by rw[nthD_eq h];exact List.drop_eq_getElem_cons h
def cmpN (x y:Int):Int:=if x<y then -1 else if y<x then 1 else 0
def r132:SCtr:=⟨132,List Int×List Int,.cons (codR (.i .u32)) (.one (codR (.i .u32))),fun a=>(Dig a.1∧Dig a.2)∧a.1.length≤1000000000000∧a.2.length≤1000000000000,fun a=> .si .i64 (cmpN (valN a.1) (valN a.2))⟩
def Λ132 (a:List Int×List Int):Nat→LoopAnn
 |7=> .inv Int (fun i=>⟨[(0,.row (.i .u32) (trimN a.1)),(1,.row (.i .u32) (trimN a.2)),(22,.si .i64 (trimN a.1).length),(23,.si .i64 i)],[]⟩) (fun s=>iS s 23)
  (fun i=>0≤i∧i≤(trimN a.1).length∧(trimN a.1).drop ((trimN a.1).length - i.toNat)=(trimN a.2).drop ((trimN a.1).length - i.toNat)) (fun i=>((trimN a.1).length - i).toNat) fun _ _=> .look
 |_=> .look
theorem h132:Holds Try.prog r132:=by
 refine con (L:=[r152]) r132 F132 Λ132 (OwnOK.none _) (by simpa using h152) (by kernel_rfl) (by kernel_rfl) (fun _=>rfl) ?_
 rintro⟨a,b⟩ ⟨⟨ha,hb⟩,hla,hlb⟩
 simp only at ha hb hla hlb
 refine vcOf (let z0:=(trimN a).length;let z1:=(↑z0:Int);let z2:=(trimN b).length;let z3:=(↑z2:Int);let z4:=SV.si .i64 (cmpN (valN a) (valN b));let z5:=SV.row (SId.i .u32) (trimN a);let z6:=SV.row (SId.i .u32) (trimN b);let z7:=(trimN a).length;let z8:=(↑z7:Int);let z9:=SV.si .i64 z8;let z10:=SV.il .i64 0;let z11:=z1 - (1:Int);a.length≤1000000000000∧b.length≤1000000000000∧(decide (z1≠z3)=true→(decide (z1<z3)=true→(SV.il .i64 (-1:Int)).same z4)∧(decide (z1<z3)=false→(SV.il .i64 1).same z4))∧(decide (z1≠z3)=false→(((z5.same z5∧z6.same z6∧(SV.si .i64 z1).same z9∧z10.same (SV.si .i64 0)∧True)∧True)∧(0:Int)≤(0:Int)∧(0:Int)≤z8∧List.drop (z7 - 0) (trimN a)=List.drop (z7 - 0) (trimN b))∧∀(x:Int),let z12:=(z11 - x).toNat;let z13:=nthD (trimN a) z12 (0:Int);let z14:=nthD (trimN b) z12 (0:Int);let z15:=x+(1:Int);let z16:=SV.si .i64 z15;(0:Int)≤x∧x≤z8∧List.drop (z7 - x.toNat) (trimN a)=List.drop (z7 - x.toNat) (trimN b)→(decide (x<z8)=true→inR .i64 z11∧inR .i64 (z11 - x)∧(0:Int)≤z11 - x∧z11 - x<z1∧z12<z0∧(0:Int)≤z11 - x∧z11 - x<z3∧z12<z2∧(decide (z13<z14)=true→(SV.il .i64 (-1:Int)).same z4)∧(decide (z13<z14)=false→(0:Int)≤z11 - x∧z11 - x<z1∧z12<z0∧(0:Int)≤z11 - x∧z11 - x<z3∧z12<z2∧(decide (z14<z13)=true→(SV.il .i64 1).same z4)∧(decide (z14<z13)=false→inR .i64 z15∧((z5.same z5∧z6.same z6∧z9.same z9∧z16.same z16∧True)∧True)∧((0:Int)≤z15∧z15≤z8∧List.drop (z7 - z15.toNat) (trimN a)=List.drop (z7 - z15.toNat) (trimN b))∧(z8 - z15).toNat<(z8 - x).toNat)))∧(decide (x<z8)=false→z10.same z4))) (by kernel_rfl) ?_
 simp only[vcs]
 obtain⟨va,na⟩:=@trim_val a
 obtain⟨vb,nb⟩:=@trim_val b
 have da:=trim_dig ha
 have db:=trim_dig hb
 have la:=@trim_len a
 rw[←va,←vb]
 generalize trimN a=s at*
 generalize trimN b=t at*
 have lt:valN s<valN t→ -1=cmpN (valN s) (valN t):=fun h=>by unfold cmpN;rw[if_pos h]
 have gt:valN t<valN s→1=cmpN (valN s) (valN t):=fun h=>by unfold cmpN;rw[if_neg (by omega),if_pos h]
 refine⟨hla,hlb,fun hne=>⟨fun h=>lt (len_lt da db nb (by omega)),fun h=>gt (len_lt db da na (by omega))⟩,fun he=>⟨⟨by omega,by omega,?_⟩,?_⟩⟩
 ·rw[List.drop_of_length_le (by omega),List.drop_of_length_le (by omega)]
 rintro i ⟨i0,i1,hd⟩
 refine⟨fun hlt=>?_,fun hge=>?_⟩
 ·have hk:((s.length:Int) - 1 - i).toNat=s.length - 1 - i.toNat:=by omega
  have hk2:s.length - i.toNat=s.length - 1 - i.toNat+1:=by omega
  rw[hk]
  rw[hk2] at hd
  generalize hm:s.length - 1 - i.toNat=m at*
  refine⟨by omega,by omega,by omega,by omega,by omega,by omega,by omega,by omega,fun h=>lt (dig_lt da db (by omega) (by omega) hd h),fun h=>⟨by omega,by omega,by omega,by omega,by omega,by omega,fun h2=>gt (dig_lt db da (by omega) (by omega) hd.symm h2),fun h2=>⟨by omega,⟨by omega,by omega,?_⟩,by omega⟩⟩⟩
  rw[show s.length - (i+1).toNat=m by omega,drop_nthN (show m<s.length by omega),drop_nthN (show m<t.length by omega),hd,show nthD s m 0=nthD t m 0 by omega]
 ·have hz:s.length - i.toNat=0:=by omega
  rw[hz,List.drop_zero,List.drop_zero] at hd
  subst hd
  unfold cmpN
  rw[if_neg (by omega),if_neg (by omega)]
def r128:SCtr:=⟨128,Int,.one (codI .u64),fun x=>0≤(show Int from x)∧(show Int from x)<18446744073709551616,fun x=> .row (.i .u32) (natL x)⟩
theorem h128:Holds Try.prog r128:=by
 refine con (L:=[r152]) r128 F128 (fun _ _=> .look) (OwnOK.none _) (by simpa using h152) (by kernel_rfl) (by kernel_rfl) (fun _=>rfl) ?_
 intro(x:Int) h
 obtain⟨h0,h1⟩:0≤x∧x<18446744073709551616:=h
 refine vcOf ((0:Int)≤(32:Int)∧(32:Int)≤(64:Int)∧2≤1000000000000∧(SV.row (SId.i .u32) (trimN [x % (4294967296:Int),x / (4294967296:Int) % (4294967296:Int)])).same (SV.row (SId.i .u32) (natL x))) (by kernel_rfl) ?_
 simp only[vcs]
 refine⟨by omega,by omega,by omega,?_⟩
 have hd:Dig [x % 4294967296,x / 4294967296 % 4294967296]:=by
  rw[dig_cons,dig_cons]
  exact⟨by omega,by omega,by simp[Dig]⟩
 rw[trim_eq hd]
 congr 1
 simp only[valN]
 omega
def adC (s t:List Int):Nat→Int
 |0=>0
 |i+1=>(nthD s i 0+adC s t i+nthD t i 0) / 4294967296
def adD (s t:List Int) (i:Nat):Int:=(nthD s i 0+adC s t i+nthD t i 0) % 4294967296
def adR (s t:List Int) (i:Nat):List Int:=(List.range i).map (adD s t)++List.replicate (s.length+1 - i) 0
def big (a:List Int×List Int):List Int:=if a.1.length<a.2.length then a.2 else a.1
def sml (a:List Int×List Int):List Int:=if a.1.length<a.2.length then a.1 else a.2
def r154:SCtr:=⟨154,List Int×List Int,.cons (codR (.i .u32)) (.one (codR (.i .u32))),fun a=>(Dig a.1∧Dig a.2)∧a.1.length≤100000000000∧a.2.length≤100000000000,fun a=> .row (.i .u32) (natL (valN a.1+valN a.2))⟩
def Λ154 (a:List Int×List Int):Nat→LoopAnn
 |6=> .inv Int (fun i=>⟨[(0,.row (.i .u32) (big a)),(1,.row (.i .u32) (sml a)),(5,.ow 0 (adR (big a) (sml a) i.toNat).length 1),(6,.si .u64 (adC (big a) (sml a) i.toNat)),(21,.si .i64 (big a).length),(22,.si .i64 i)],[.row (.i .u32) (adR (big a) (sml a) i.toNat) 126 true]⟩) (fun s=>iS s 22)
  (fun i=>0≤i∧i≤(big a).length) (fun i=>((big a).length - i).toNat) fun _ _=> .look
 |_=> .look
theorem dig_nth {a:List Int} (h:Dig a) (i:Nat):0≤nthD a i 0∧nthD a i 0<4294967296:=by
 by_cases hi:i<a.length
 ·rw[nthD_eq hi];exact h _ (List.getElem_mem hi)
 ·simp[nthD,List.getElem?_eq_none (by omega:a.length≤i)]
theorem nth_out {a:List Int} {i:Nat} (h:a.length≤i):nthD a i 0=0:=by simp[nthD,List.getElem?_eq_none h]
theorem adC_bd {s t:List Int} (hs:Dig s) (ht:Dig t):∀i,0≤adC s t i∧adC s t i≤1
 |0=>by simp[adC]
 |i+1=>by
  have h:=adC_bd hs ht i
  have h1:=dig_nth hs i
  have h2:=dig_nth ht i
  simp only[adC]
  omega
theorem adR_len {s t:List Int} {i:Nat} (h:i≤s.length):(adR s t i).length=s.length+1:=by simp[adR];omega
theorem adR_set {s t:List Int} {i:Nat} {v:Int} (h:i≤s.length):(adR s t i).set i v=(List.range i).map (adD s t)++v::List.replicate (s.length - i) 0:=by
 unfold adR
 have h2:s.length+1 - i=(s.length - i)+1:=by omega
 rw[h2,List.replicate_succ]
 have hl:((List.range i).map (adD s t)).length=i:=by simp
 rw[List.set_append_right _ _ (by omega),hl,Nat.sub_self,List.set_cons_zero]
theorem adR_step {s t:List Int} {i:Nat} (h:i<s.length):adR s t (i+1)=(adR s t i).set i (adD s t i):=by
 rw[adR_set (by omega)]
 unfold adR
 rw[List.range_succ,List.map_append,List.append_assoc]
 congr 1
 have h2:s.length+1 - (i+1)=s.length - i:=by omega
 rw[h2]
 rfl
theorem take_snoc0 {a:List Int} {i:Nat}:valN (a.take (i+1))=valN (a.take i)+4294967296^i*nthD a i 0:=by
 by_cases h:i<a.length
 ·rw[take_snoc h,val_snoc]
  simp[Nat.min_eq_left (Nat.le_of_lt h)]
 ·rw[nth_out (by omega),List.take_of_length_le (by omega),List.take_of_length_le (by omega)]
  simp
theorem ad_val {s t:List Int}:∀i,valN ((List.range i).map (adD s t))+4294967296^i*adC s t i=valN (s.take i)+valN (t.take i)
 |0=>by simp[adC,valN]
 |i+1=>by
  have ih:=@ad_val s t i
  rw[List.range_succ,List.map_append,List.map_cons,List.map_nil,val_snoc,take_snoc0,take_snoc0,Int.pow_succ]
  have hl:((List.range i).map (adD s t)).length=i:=by simp
  rw[hl]
  have hd:adD s t i+4294967296*adC s t (i+1)=nthD s i 0+adC s t i+nthD t i 0:=by
   simp only[adD,adC];omega
  have hm:(4294967296:Int)^i*(adD s t i+4294967296*adC s t (i+1))=4294967296^i*(nthD s i 0+adC s t i+nthD t i 0):=by rw[hd]
  simp only[Int.mul_add] at hm
  rw[←Int.mul_assoc] at hm
  omega
theorem h154:Holds Try.prog r154:=by
 refine con (L:=[r152]) r154 F154 Λ154 (OwnOK.none _) (by simpa using h152) (by kernel_rfl) (by kernel_rfl) (fun _=>rfl) ?_
 rintro⟨a,b⟩ ⟨⟨ha,hb⟩,hla,hlb⟩
 simp only at ha hb hla hlb
 refine vcOf (let z0:=(↑a.length:Int);let z1:=(↑b.length:Int);let z2:=z1+(1:Int);let z3:=SId.i .u32;let z4:=SV.row z3 (big (a,b));let z5:=SV.row z3 (sml (a,b));let z6:=adR (big (a,b)) (sml (a,b)) 0;let z7:=SV.ow 0 z6.length 1;let z8:=(↑(big (a,b)).length:Int);let z9:=SV.si .i64 z8;let z10:=SObj.row z3 z6 126 true;let z11:=(↑(big (a,b)).length:Int);let z12:=(↑(sml (a,b)).length:Int);let z13:=z0+(1:Int);(decide (z0<z1)=true→inR .i64 z2∧(0:Int)≤z2∧z2≤z2∧z2*(4:Int)≤(140737488355328:Int)∧z2≤(1000000000000:Int)∧((((SV.row z3 b).same z4∧(SV.row z3 a).same z5∧(SV.ow 0 z2.toNat 1).same z7∧(SV.il .u64 0).same (SV.si .u64 (adC (big (a,b)) (sml (a,b)) 0))∧(SV.si .i64 z1).same z9∧(SV.il .i64 0).same (SV.si .i64 0)∧True)∧(SObj.row z3 ((0:Int)::List.replicate b.length (0:Int)) 126 true).same z10∧True)∧(0:Int)≤(0:Int)∧(0:Int)≤z8)∧∀(x:Int),let z14:=adR (big (a,b)) (sml (a,b)) x.toNat;let z15:=z14.length;let z16:=x+(1:Int);let z17:=adR (big (a,b)) (sml (a,b)) z16.toNat;let z18:=adC (big (a,b)) (sml (a,b)) x.toNat;let z19:=(nthD (big (a,b)) x.toNat (0:Int) % (18446744073709551616:Int)+z18) % (18446744073709551616:Int);let z20:=(z19+nthD (sml (a,b)) x.toNat (0:Int) % (18446744073709551616:Int)) % (18446744073709551616:Int);let z21:=SV.si .u64 (adC (big (a,b)) (sml (a,b)) z16.toNat);let z22:=SV.si .i64 z16;let z23:=SObj.row z3 z17 126 true;let z24:=z14.set z11.toNat (z18 % (4294967296:Int));(0:Int)≤x∧x≤z8→(decide (x<z8)=true→(0:Int)≤x∧x<z11∧x.toNat<(big (a,b)).length∧(decide (x<z12)=true→(0:Int)≤x∧x<z12∧x.toNat<(sml (a,b)).length∧(0:Int)≤(32:Int)∧(32:Int)≤(64:Int)∧z14.length=z15∧(0:Int)≤x∧x<(↑z15:Int)∧z14.length=z15∧x.toNat<z15∧inR .i64 z16∧((z4.same z4∧z5.same z5∧(SV.ow 0 z14.length 1).same (SV.ow 0 z17.length 1)∧(SV.si .u64 (z20 / (4294967296:Int))).same z21∧z9.same z9∧z22.same z22∧True)∧(SObj.row z3 (z14.set x.toNat (z20 % (4294967296:Int))) 126 true).same z23∧True)∧((0:Int)≤z16∧z16≤z8)∧(z8 - z16).toNat<(z8 - x).toNat)∧(decide (x<z12)=false→(0:Int)≤(32:Int)∧(32:Int)≤(64:Int)∧z14.length=z15∧(0:Int)≤x∧x<(↑z15:Int)∧z14.length=z15∧x.toNat<z15∧inR .i64 z16∧((z4.same z4∧z5.same z5∧(SV.ow 0 z14.length 1).same (SV.ow 0 z17.length 1)∧(SV.si .u64 (z19 / (4294967296:Int))).same z21∧z9.same z9∧z22.same z22∧True)∧(SObj.row z3 (z14.set x.toNat (z19 % (4294967296:Int))) 126 true).same z23∧True)∧((0:Int)≤z16∧z16≤z8)∧(z8 - z16).toNat<(z8 - x).toNat))∧(decide (x<z8)=false→z14.length=z15∧(0:Int)≤z11∧z11<(↑z15:Int)∧z14.length=z15∧z11.toNat<z15∧z14.length=z24.length∧z24.length≤1000000000000∧(SV.row z3 (trimN z24)).same (SV.row z3 (natL (valN a+valN b)))))∧(decide (z0<z1)=false→inR .i64 z13∧(0:Int)≤z13∧z13≤z13∧z13*(4:Int)≤(140737488355328:Int)∧z13≤(1000000000000:Int)∧((((SV.row z3 a).same z4∧(SV.row z3 b).same z5∧(SV.ow 0 z13.toNat 1).same z7∧(SV.il .u64 0).same (SV.si .u64 (adC (big (a,b)) (sml (a,b)) 0))∧(SV.si .i64 z0).same z9∧(SV.il .i64 0).same (SV.si .i64 0)∧True)∧(SObj.row z3 ((0:Int)::List.replicate a.length (0:Int)) 126 true).same z10∧True)∧(0:Int)≤(0:Int)∧(0:Int)≤z8)∧∀(x:Int),let z25:=adR (big (a,b)) (sml (a,b)) x.toNat;let z26:=z25.length;let z27:=x+(1:Int);let z28:=adR (big (a,b)) (sml (a,b)) z27.toNat;let z29:=adC (big (a,b)) (sml (a,b)) x.toNat;let z30:=(nthD (big (a,b)) x.toNat (0:Int) % (18446744073709551616:Int)+z29) % (18446744073709551616:Int);let z31:=(z30+nthD (sml (a,b)) x.toNat (0:Int) % (18446744073709551616:Int)) % (18446744073709551616:Int);let z32:=SV.si .u64 (adC (big (a,b)) (sml (a,b)) z27.toNat);let z33:=SV.si .i64 z27;let z34:=SObj.row z3 z28 126 true;let z35:=z25.set z11.toNat (z29 % (4294967296:Int));(0:Int)≤x∧x≤z8→(decide (x<z8)=true→(0:Int)≤x∧x<z11∧x.toNat<(big (a,b)).length∧(decide (x<z12)=true→(0:Int)≤x∧x<z12∧x.toNat<(sml (a,b)).length∧(0:Int)≤(32:Int)∧(32:Int)≤(64:Int)∧z25.length=z26∧(0:Int)≤x∧x<(↑z26:Int)∧z25.length=z26∧x.toNat<z26∧inR .i64 z27∧((z4.same z4∧z5.same z5∧(SV.ow 0 z25.length 1).same (SV.ow 0 z28.length 1)∧(SV.si .u64 (z31 / (4294967296:Int))).same z32∧z9.same z9∧z33.same z33∧True)∧(SObj.row z3 (z25.set x.toNat (z31 % (4294967296:Int))) 126 true).same z34∧True)∧((0:Int)≤z27∧z27≤z8)∧(z8 - z27).toNat<(z8 - x).toNat)∧(decide (x<z12)=false→(0:Int)≤(32:Int)∧(32:Int)≤(64:Int)∧z25.length=z26∧(0:Int)≤x∧x<(↑z26:Int)∧z25.length=z26∧x.toNat<z26∧inR .i64 z27∧((z4.same z4∧z5.same z5∧(SV.ow 0 z25.length 1).same (SV.ow 0 z28.length 1)∧(SV.si .u64 (z30 / (4294967296:Int))).same z32∧z9.same z9∧z33.same z33∧True)∧(SObj.row z3 (z25.set x.toNat (z30 % (4294967296:Int))) 126 true).same z34∧True)∧((0:Int)≤z27∧z27≤z8)∧(z8 - z27).toNat<(z8 - x).toNat))∧(decide (x<z8)=false→z25.length=z26∧(0:Int)≤z11∧z11<(↑z26:Int)∧z25.length=z26∧z11.toNat<z26∧z25.length=z35.length∧z35.length≤1000000000000∧(SV.row z3 (trimN z35)).same (SV.row z3 (natL (valN a+valN b)))))) (by kernel_rfl) ?_
 simp only[vcs]
 have hbs:(a.length<b.length∧big (a,b)=b∧sml (a,b)=a)∨(¬a.length<b.length∧big (a,b)=a∧sml (a,b)=b):=by
  by_cases h:a.length<b.length
  ·exact .inl ⟨h,if_pos h,if_pos h⟩
  ·exact .inr ⟨h,if_neg h,if_neg h⟩
 generalize big (a,b)=s at*
 generalize sml (a,b)=t at*
 have hrow:∀{u v:List Int},u=v→(SObj.row (.i .u32) u 126 true).same (SObj.row (.i .u32) v 126 true):=by rintro _ _ rfl;rfl
 have how:∀{u v:Nat},u=v→(SV.ow 0 u 1).same (SV.ow 0 v 1):=by rintro _ _ rfl;rfl
 have r0:∀u v:List Int,adR u v 0=0::List.replicate u.length 0:=fun u v=>rfl
 refine⟨fun h=>?_,fun h=>?_⟩
 ·obtain⟨h1,e1,e2⟩:a.length<b.length∧s=b∧t=a:=by
   rcases hbs with h2|h2
   ·exact h2
   ·exact absurd (by omega) h2.1
  subst e1 e2
  have hS:Dig s:=by assumption
  have hT:Dig t:=by assumption
  have hts:t.length≤s.length:=by omega
  have bd:=adC_bd hS hT
  refine⟨⟨by omega,by omega⟩,by omega,by omega,by omega,by omega,⟨⟨⟨rfl,rfl,how (by rw[adR_len (by omega)];omega),rfl,rfl⟩,hrow (r0 s t).symm⟩,by omega,by omega⟩,?_⟩
  rintro i ⟨i0,i1⟩
  have l1:=@adR_len s t i.toNat (by omega)
  have b1:=bd i.toNat
  have d1:=dig_nth hS i.toNat
  have d2:=dig_nth hT i.toNat
  refine⟨fun ilt=>?_,fun ige=>?_⟩
  ·have l2:=@adR_len s t (i.toNat+1) (by omega)
   have e:(i+1).toNat=i.toNat+1:=by omega
   have hst:=adR_step (s:=s) (t:=t) (show i.toNat<s.length by omega)
   refine⟨i0,ilt,by omega,fun ht=>?_,fun ht=>?_⟩
   ·have hv:(((nthD s i.toNat 0 % 18446744073709551616+adC s t i.toNat) % 18446744073709551616+nthD t i.toNat 0 % 18446744073709551616) % 18446744073709551616)=nthD s i.toNat 0+adC s t i.toNat+nthD t i.toNat 0:=by omega
    rw[hv,e]
    exact⟨i0,ht,by omega,by omega,by omega,i0,by omega,by omega,by omega,⟨⟨how (by omega),rfl⟩,hrow hst.symm⟩,by omega,by omega⟩
   ·have hz:=nth_out (a:=t) (i:=i.toNat) (by omega)
    have hv:((nthD s i.toNat 0 % 18446744073709551616+adC s t i.toNat) % 18446744073709551616)=nthD s i.toNat 0+adC s t i.toNat+nthD t i.toNat 0:=by omega
    rw[hv,e]
    exact⟨by omega,by omega,i0,by omega,by omega,by omega,⟨⟨how (by omega),rfl⟩,hrow hst.symm⟩,by omega,by omega⟩
  ·have hi:i.toNat=s.length:=by omega
   have hc:adC s t i.toNat % 4294967296=adC s t i.toNat:=by omega
   rw[hc,Int.toNat_natCast,hi]
   rw[hi] at l1 b1
   refine⟨by omega,by omega,by omega,by simp,by simp;omega,?_⟩
   rw[adR_set (Nat.le_refl _),Nat.sub_self,List.replicate_zero,trim_eq ?_]
   ·rw[val_snoc]
    have hv:=@ad_val s t s.length
    rw[List.take_length,List.take_of_length_le hts] at hv
    have hl:((List.range s.length).map (adD s t)).length=s.length:=by simp
    rw[hl,hv]
    try rw[Int.add_comm]
   ·intro d hd
    rcases List.mem_append.1 hd with hd|hd
    ·obtain⟨j,_,rfl⟩:=List.mem_map.1 hd
     unfold adD
     omega
    ·rw[List.mem_singleton] at hd
     omega
 ·obtain⟨h1,e1,e2⟩:¬a.length<b.length∧s=a∧t=b:=by
   rcases hbs with h2|h2
   ·exact absurd h2.1 (by omega)
   ·exact h2
  subst e1 e2
  have hS:Dig s:=by assumption
  have hT:Dig t:=by assumption
  have hts:t.length≤s.length:=by omega
  have bd:=adC_bd hS hT
  refine⟨⟨by omega,by omega⟩,by omega,by omega,by omega,by omega,⟨⟨⟨rfl,rfl,how (by rw[adR_len (by omega)];omega),rfl,rfl⟩,hrow (r0 s t).symm⟩,by omega,by omega⟩,?_⟩
  rintro i ⟨i0,i1⟩
  have l1:=@adR_len s t i.toNat (by omega)
  have b1:=bd i.toNat
  have d1:=dig_nth hS i.toNat
  have d2:=dig_nth hT i.toNat
  refine⟨fun ilt=>?_,fun ige=>?_⟩
  ·have l2:=@adR_len s t (i.toNat+1) (by omega)
   have e:(i+1).toNat=i.toNat+1:=by omega
   have hst:=adR_step (s:=s) (t:=t) (show i.toNat<s.length by omega)
   refine⟨i0,ilt,by omega,fun ht=>?_,fun ht=>?_⟩
   ·have hv:(((nthD s i.toNat 0 % 18446744073709551616+adC s t i.toNat) % 18446744073709551616+nthD t i.toNat 0 % 18446744073709551616) % 18446744073709551616)=nthD s i.toNat 0+adC s t i.toNat+nthD t i.toNat 0:=by omega
    rw[hv,e]
    exact⟨i0,ht,by omega,by omega,by omega,i0,by omega,by omega,by omega,⟨⟨how (by omega),rfl⟩,hrow hst.symm⟩,by omega,by omega⟩
   ·have hz:=nth_out (a:=t) (i:=i.toNat) (by omega)
    have hv:((nthD s i.toNat 0 % 18446744073709551616+adC s t i.toNat) % 18446744073709551616)=nthD s i.toNat 0+adC s t i.toNat+nthD t i.toNat 0:=by omega
    rw[hv,e]
    exact⟨by omega,by omega,i0,by omega,by omega,by omega,⟨⟨how (by omega),rfl⟩,hrow hst.symm⟩,by omega,by omega⟩
  ·have hi:i.toNat=s.length:=by omega
   have hc:adC s t i.toNat % 4294967296=adC s t i.toNat:=by omega
   rw[hc,Int.toNat_natCast,hi]
   rw[hi] at l1 b1
   refine⟨by omega,by omega,by omega,by simp,by simp;omega,?_⟩
   rw[adR_set (Nat.le_refl _),Nat.sub_self,List.replicate_zero,trim_eq ?_]
   ·rw[val_snoc]
    have hv:=@ad_val s t s.length
    rw[List.take_length,List.take_of_length_le hts] at hv
    have hl:((List.range s.length).map (adD s t)).length=s.length:=by simp
    rw[hl,hv]
    try rw[Int.add_comm]
   ·intro d hd
    rcases List.mem_append.1 hd with hd|hd
    ·obtain⟨j,_,rfl⟩:=List.mem_map.1 hd
     unfold adD
     omega
    ·rw[List.mem_singleton] at hd
     omega
def smQ (d:Int):List Int→List Int×Int
 |[]=>([],0)
 |x::l=>(((smQ d l).2*4294967296+x) / d::(smQ d l).1,((smQ d l).2*4294967296+x) % d)
theorem smQ_len {d:Int}:∀{a:List Int},(smQ d a).1.length=a.length
 |[]=>rfl
 |x::l=>by simp[smQ,smQ_len]
theorem smQ_ok {d:Int} (h0:0<d) (h1:d<4294967296):∀{a:List Int},Dig a→Dig (smQ d a).1∧(0≤(smQ d a).2∧(smQ d a).2<d)∧valN (smQ d a).1*d+(smQ d a).2=valN a
 |[],_=>by simp[smQ,Dig,valN,h0]
 |x::l,h=>by
  obtain⟨h2,h3⟩:=dig_cons.1 h
  obtain⟨i1,⟨i2,i3⟩,i4⟩:=smQ_ok h0 h1 h3
  simp only[smQ]
  generalize (smQ d l).1=q at*
  generalize (smQ d l).2=r at*
  have hm:=Int.emod_nonneg (r*4294967296+x) (show d≠0 by omega)
  have hl:=Int.emod_lt_of_pos (r*4294967296+x) h0
  have hq0:0≤(r*4294967296+x) / d:=Int.ediv_nonneg (by omega) (by omega)
  have hq1:(r*4294967296+x) / d<4294967296:=by
   refine Int.ediv_lt_of_lt_mul h0 ?_
   have:(r+1)*4294967296≤d*4294967296:=by omega
   rw[Int.mul_comm]
   omega
  refine⟨dig_cons.2 ⟨⟨hq0,hq1⟩,i1⟩,⟨hm,hl⟩,?_⟩
  simp only[valN]
  have he:=Int.mul_ediv_add_emod (r*4294967296+x) d
  rw[Int.add_mul,Int.mul_assoc,Int.mul_comm ((r*4294967296+x) / d) d]
  rw[←i4]
  omega
theorem smQ_div {d:Int} (h0:0<d) (h1:d<4294967296) {a:List Int} (ha:Dig a):trimN (smQ d a).1=natL (valN a / d)∧(smQ d a).2=valN a % d:=by
 obtain⟨k1,⟨k2,k3⟩,k4⟩:=smQ_ok h0 h1 ha
 rw[trim_eq k1]
 have hv:=val_nonneg k1
 have e1:valN a / d=valN (smQ d a).1:=by
  rw[←k4,Int.add_comm,Int.add_mul_ediv_right _ _ (by omega),Int.ediv_eq_zero_of_lt k2 k3,Int.zero_add]
 have e2:valN a % d=(smQ d a).2:=by
  rw[←k4,Int.add_comm,Int.add_mul_emod_self_right,Int.emod_eq_of_lt k2 k3]
 rw[e1,e2]
 exact⟨rfl,rfl⟩
theorem or_add {r x:Int} (r0:0≤r) (r1:r<4294967296) (x0:0≤x) (x1:x<4294967296):binK.orI .u64 (r*4294967296) x=r*4294967296+x:=by
 obtain⟨m,rfl⟩:=Int.eq_ofNat_of_zero_le r0
 obtain⟨k,rfl⟩:=Int.eq_ofNat_of_zero_le x0
 have h1:(BitVec.ofInt 64 ((m:Int)*4294967296)).toNat=2^32*m:=by
  simp only[BitVec.toNat_ofInt]
  omega
 have h2:(BitVec.ofInt 64 (k:Int)).toNat=k:=by
  simp only[BitVec.toNat_ofInt]
  omega
 have h3:(BitVec.ofInt 64 ((m:Int)*4294967296) |||BitVec.ofInt 64 (k:Int)).toNat=2^32*m+k:=by
  rw[BitVec.toNat_or,h1,h2,Nat.two_pow_add_eq_or_of_lt (by omega)]
 show wrapI .u64 ((BitVec.ofInt 64 ((m:Int)*4294967296) |||BitVec.ofInt 64 (k:Int)).toNat:Nat)=_
 rw[h3,wrapI_eq]
 simp only[IntKind.wrap,IntKind.bits,IntKind.signed]
 simp
 omega
def r167:SCtr:=⟨167,List Int×Int,.cons (codR (.i .u32)) (.one (codI .u32)),fun a=>Dig a.1∧a.1.length≤100000000000∧0<a.2∧a.2<4294967296,fun a=> .tup [.row (.i .u32) (natL (valN a.1 / a.2)),.si .u32 (valN a.1 % a.2)]⟩
def smR (a:List Int) (d:Int) (i:Nat):List Int:=List.replicate (a.length - i) 0++(smQ d (a.drop (a.length - i))).1
def smC (a:List Int) (d:Int) (i:Nat):Int:=(smQ d (a.drop (a.length - i))).2
def Λ167 (a:List Int×Int):Nat→LoopAnn
 |4=> .inv Int (fun i=>⟨[(0,.row (.i .u32) a.1),(1,.si .u32 a.2),(6,.ow 0 (smR a.1 a.2 i.toNat).length 1),(7,.si .u64 (smC a.1 a.2 i.toNat)),(15,.si .i64 a.1.length),(16,.si .i64 i)],[.row (.i .u32) (smR a.1 a.2 i.toNat) 126 true]⟩) (fun s=>iS s 16)
  (fun i=>0≤i∧i≤a.1.length) (fun i=>(a.1.length - i).toNat) fun _ _=> .look
 |_=> .look
theorem smR_len {a:List Int} {d:Int} {i:Nat} (h:i≤a.length):(smR a d i).length=a.length:=by
 simp only[smR,smQ_len,List.length_append,List.length_replicate,List.length_drop]
 omega
theorem drop_cons {a:List Int} {k:Nat} (h:k<a.length):a.drop k=nthD a k 0::a.drop (k+1):=drop_nthN h
theorem rep_set {q:List Int} {y:Int}:∀k,(List.replicate (k+1) 0++q).set k y=List.replicate k 0++y::q
 |0=>by simp
 |k+1=>by
  have:=@rep_set q y k
  rw[List.replicate_succ,List.cons_append,List.set_cons_succ,this,List.replicate_succ,List.cons_append]
theorem u64_in {n:Int} (h0:0≤n) (h1:n<18446744073709551616):inR .u64 n:=by
 show IntKind.u64.wrap n=n
 simp only[IntKind.wrap,IntKind.bits,IntKind.signed]
 simp
 omega
theorem h167:Holds Try.prog r167:=by
 refine con (L:=[r152]) r167 F167 Λ167 (OwnOK.none _) (by simpa using h152) (by kernel_rfl) (by kernel_rfl) (fun _=>rfl) ?_
 rintro⟨a,d⟩ ⟨ha,hla,d0,d1⟩
 simp only at ha hla d0 d1
 refine vcOf (let z0:=(↑a.length:Int);let z1:=SId.i .u32;let z2:=(↑a.length:Int);let z3:=SV.si .i64 z2;let z4:=d % (18446744073709551616:Int);(0:Int)≤z0∧z0≤z0∧z0*(4:Int)≤(140737488355328:Int)∧z0≤(1000000000000:Int)∧((((SV.row z1 a).same (SV.row z1 a)∧(SV.si .u32 d).same (SV.si .u32 d)∧(SV.ow 0 z0.toNat 1).same (SV.ow 0 (smR a d 0).length 1)∧(SV.il .u64 0).same (SV.si .u64 (smC a d 0))∧(SV.si .i64 z0).same z3∧(SV.il .i64 0).same (SV.si .i64 0)∧True)∧(SObj.row z1 (List.replicate z0.toNat (0:Int)) 126 true).same (SObj.row z1 (smR a d 0) 126 true)∧True)∧(0:Int)≤(0:Int)∧(0:Int)≤z2)∧∀(x:Int),let z5:=z0 - (1:Int) - x;let z6:=binK.orI .u64 (smC a d x.toNat*(4294967296:Int) % (18446744073709551616:Int)) (nthD a z5.toNat (0:Int) % (18446744073709551616:Int));let z7:=smR a d x.toNat;let z8:=x+(1:Int);let z9:=SV.si .i64 z8;(0:Int)≤x∧x≤z2→(decide (x<z2)=true→inR .i64 (z0 - (1:Int))∧inR .i64 z5∧(0:Int)≤(32:Int)∧(32:Int)≤(64:Int)∧(0:Int)≤z5∧z5<z0∧z5.toNat<a.length∧z4≠(0:Int)∧inR .u64 (z6.tdiv z4)∧z4≠(0:Int)∧z7.length=z7.length∧(0:Int)≤z5∧z5<(↑z7.length:Int)∧z7.length=z7.length∧z5.toNat<z7.length∧inR .i64 z8∧(((SV.row z1 a).same (SV.row z1 a)∧(SV.si .u32 d).same (SV.si .u32 d)∧(SV.ow 0 z7.length 1).same (SV.ow 0 (smR a d z8.toNat).length 1)∧(SV.si .u64 (z6.tmod z4)).same (SV.si .u64 (smC a d z8.toNat))∧z3.same z3∧z9.same z9∧True)∧(SObj.row z1 (z7.set z5.toNat (z6.tdiv z4 % (4294967296:Int))) 126 true).same (SObj.row z1 (smR a d z8.toNat) 126 true)∧True)∧((0:Int)≤z8∧z8≤z2)∧(z2 - z8).toNat<(z2 - x).toNat)∧(decide (x<z2)=false→z7.length=z7.length∧z7.length≤1000000000000∧(SV.tup [SV.row z1 (trimN z7),SV.si .u32 (smC a d x.toNat % (4294967296:Int))]).same (SV.tup [SV.row z1 (natL (valN a / d)),SV.si .u32 (valN a % d)]))) (by kernel_rfl) ?_
 simp only[vcs]
 have hrow:∀{u v:List Int},u=v→(SObj.row (.i .u32) u 126 true).same (SObj.row (.i .u32) v 126 true):=by rintro _ _ rfl;rfl
 have how:∀{u v:Nat},u=v→(SV.ow 0 u 1).same (SV.ow 0 v 1):=by rintro _ _ rfl;rfl
 have z1:smR a d 0=List.replicate a.length 0:=by simp[smR,smQ]
 have z2:smC a d 0=0:=by simp[smC,smQ]
 refine⟨by omega,by omega,by omega,by omega,⟨⟨⟨how (by rw[smR_len (by omega)];omega),z2.symm⟩,hrow (by rw[z1,Int.toNat_natCast])⟩,by omega,by omega⟩,?_⟩
 rintro i ⟨i0,i1⟩
 have l1:=@smR_len a d i.toNat (by omega)
 have l2:=fun h=>@smR_len a d (i+1).toNat h
 have dd:d % 18446744073709551616=d:=by omega
 refine⟨fun ilt=>?_,fun ige=>?_⟩
 ·have hx:((a.length:Int) - 1 - i).toNat=a.length - 1 - i.toNat:=by omega
  have hk1:a.length - i.toNat=a.length - 1 - i.toNat+1:=by omega
  have hk2:a.length - (i+1).toNat=a.length - 1 - i.toNat:=by omega
  have hR:smR a d i.toNat=List.replicate (a.length - 1 - i.toNat+1) 0++(smQ d (a.drop (a.length - 1 - i.toNat+1))).1:=by unfold smR;rw[hk1]
  have hC:smC a d i.toNat=(smQ d (a.drop (a.length - 1 - i.toNat+1))).2:=by unfold smC;rw[hk1]
  have hR2:smR a d (i+1).toNat=List.replicate (a.length - 1 - i.toNat) 0++(smQ d (a.drop (a.length - 1 - i.toNat))).1:=by unfold smR;rw[hk2]
  have hC2:smC a d (i+1).toNat=(smQ d (a.drop (a.length - 1 - i.toNat))).2:=by unfold smC;rw[hk2]
  have hlt:a.length - 1 - i.toNat<a.length:=by omega
  rw[hx]
  have l3:=l2 (by omega)
  generalize a.length - 1 - i.toNat=k at*
  have hdr:=drop_cons hlt
  have hdig:Dig (a.drop k):=fun z hz=>ha z (List.mem_of_mem_drop hz)
  obtain⟨q1,q2,q3⟩:=smQ_ok d0 d1 (a:=a.drop (k+1)) (fun z hz=>ha z (List.mem_of_mem_drop hz))
  obtain⟨p1,p2,p3⟩:=smQ_ok d0 d1 hdig
  rw[hdr] at hR2 hC2 p1 p2
  simp only[smQ] at hR2 hC2 p1 p2
  have hxd:=dig_nth ha k
  rw[←hC] at hR2 hC2 p1 p2 q2
  have e1:smC a d i.toNat*4294967296 % 18446744073709551616=smC a d i.toNat*4294967296:=by omega
  have e2:nthD a k 0 % 18446744073709551616=nthD a k 0:=by omega
  rw[e1,e2,dd,or_add (by omega) (by omega) hxd.1 hxd.2]
  have hv0:0≤smC a d i.toNat*4294967296+nthD a k 0:=by omega
  rw[Int.tdiv_eq_ediv_of_nonneg hv0,Int.tmod_eq_emod_of_nonneg hv0]
  have hq:=(dig_cons.1 p1).1
  have hqm:(smC a d i.toNat*4294967296+nthD a k 0) / d % 4294967296=(smC a d i.toNat*4294967296+nthD a k 0) / d:=Int.emod_eq_of_lt hq.1 hq.2
  rw[hqm]
  refine⟨by omega,by omega,by omega,by omega,by omega,by omega,by omega,by omega,u64_in hq.1 (by omega),by omega,by omega,by omega,by omega,by omega,⟨⟨how (by omega),hC2.symm⟩,hrow ?_⟩,by omega,by omega⟩
  rw[hR2,hR,rep_set]
 ·have hi:a.length - i.toNat=0:=by omega
  have hR:smR a d i.toNat=(smQ d a).1:=by unfold smR;rw[hi];simp
  have hC:smC a d i.toNat=(smQ d a).2:=by unfold smC;rw[hi];simp
  obtain⟨k1,k2⟩:=smQ_div d0 d1 ha
  have hm:=Int.emod_nonneg (valN a) (show d≠0 by omega)
  have hl:=Int.emod_lt_of_pos (valN a) d0
  refine⟨by omega,by rw[hR,k1],?_⟩
  rw[hC,k2]
  omega
def gcdN (x y:Int):Int:=(Nat.gcd x.toNat y.toNat:Nat)
theorem gcdN_step {x y:Int} (h0:0≤x) (h1:0<y):gcdN y (x % y)=gcdN x y:=by
 unfold gcdN
 congr 1
 rw[Nat.gcd_comm x.toNat,Nat.gcd_rec y.toNat x.toNat,Nat.gcd_comm,Int.toNat_emod h0 (by omega)]
theorem gcdN_zero {x:Int} (h0:0≤x):gcdN x 0=x:=by unfold gcdN;simp;omega
def digK:Nat→Int→List Int
 |0,_=>[]
 |k+1,x=>x % 4294967296::digK k (x / 4294967296)
theorem digK_len:∀{k:Nat} {x:Int},(digK k x).length=k
 |0,_=>rfl
 |k+1,x=>by simp[digK,digK_len]
theorem digK_dig:∀{k:Nat} {x:Int},Dig (digK k x)
 |0,_=>by simp[digK,Dig]
 |k+1,x=>dig_cons.2 ⟨by omega,digK_dig⟩
theorem digK_eq:∀{l:List Int},Dig l→digK l.length (valN l)=l
 |[],_=>rfl
 |d::l,h=>by
  obtain⟨h1,h2⟩:=dig_cons.1 h
  simp only[List.length_cons,digK,valN]
  have e1:(d+4294967296*valN l) % 4294967296=d:=by omega
  have e2:(d+4294967296*valN l) / 4294967296=valN l:=by omega
  rw[e1,e2,digK_eq h2]
theorem digK_of {l:List Int} {k:Nat} {x:Int} (h:Dig l) (hk:l.length=k) (hx:valN l=x):l=digK k x:=by
 subst hk hx
 exact(digK_eq h).symm
theorem pow_pos (k:Nat):(0:Int)<4294967296^k:=Int.pow_pos (by decide)
theorem digK_val:∀{k:Nat} {x:Int},0≤x→x<4294967296^k→valN (digK k x)=x
 |0,x,h0,h1=>by simp only[Int.pow_zero] at h1;simp only[digK,valN];omega
 |k+1,x,h0,h1=>by
  rw[Int.pow_succ] at h1
  simp only[digK,valN]
  rw[digK_val (k:=k) (x:=x / 4294967296) (by omega) (by omega)]
  omega
theorem val_app:∀{a b:List Int},valN (a++b)=valN a+4294967296^a.length*valN b
 |[],b=>by simp[valN]
 |d::l,b=>by
  simp only[List.cons_append,valN,val_app,List.length_cons,Int.pow_succ,Int.mul_add]
  rw[←Int.mul_assoc,Int.mul_comm 4294967296 (4294967296^l.length)]
  omega
theorem val_set:∀{l:List Int} {j:Nat} {v:Int},j<l.length→valN (l.set j v)=valN l+4294967296^j*(v - nthD l j 0)
 |[],_,_,h=>by simp at h
 |d::l,0,v,_=>by simp[valN,nthD];omega
 |d::l,j+1,v,h=>by
  have ih:=@val_set l j v (by simpa using h)
  have hn:nthD (d::l) (j+1) 0=nthD l j 0:=by simp[nthD]
  simp only[List.set_cons_succ,valN,ih,hn,Int.pow_succ,Int.mul_add]
  rw[←Int.mul_assoc,Int.mul_comm 4294967296 (4294967296^j)]
  omega
theorem dig_set {l:List Int} {j:Nat} {v:Int} (h:Dig l) (h0:0≤v) (h1:v<4294967296):Dig (l.set j v):=by
 intro d hd
 rcases List.mem_or_eq_of_mem_set hd with hd|rfl
 ·exact h d hd
 ·exact⟨h0,h1⟩
theorem dig_drop {a:List Int} (h:Dig a) (n:Nat):Dig (a.drop n):=fun d hd=>h d (List.mem_of_mem_drop hd)
theorem dig_app {a b:List Int} (ha:Dig a) (hb:Dig b):Dig (a++b):=fun d hd=>by
 rcases List.mem_append.1 hd with h|h
 ·exact ha d h
 ·exact hb d h
theorem dig_one {x:Int} (h0:0≤x) (h1:x<4294967296):Dig [x]:=dig_cons.2 ⟨⟨h0,h1⟩,by simp[Dig]⟩
theorem nth_set_self {l:List Int} {j:Nat} {v:Int} (h:j<l.length):nthD (l.set j v) j 0=v:=by
 unfold nthD
 rw[List.getElem?_set_self h];rfl
theorem nth_set_ne {l:List Int} {i j:Nat} {v:Int} (h:i≠j):nthD (l.set i v) j 0=nthD l j 0:=by
 unfold nthD
 rw[List.getElem?_set_ne h]
theorem nth_small:∀{l:List Int} {i j:Nat},Dig l→valN l<4294967296^i→i≤j→nthD l j 0=0
 |[],_,_,_,_,_=>by simp[nthD]
 |d::l,0,j,h,hv,hj=>by
  obtain⟨h1,h2⟩:=dig_cons.1 h
  have:=val_nonneg h2
  simp only[valN,Int.pow_zero] at hv
  have hd:d=0:=by omega
  have hl:valN l=0:=by omega
  cases j with
  |zero=>simp[nthD,hd]
  |succ j=>
   have:=nth_small (l:=l) (i:=0) (j:=j) h2 (by simp;omega) (by omega)
   simpa[nthD] using this
 |d::l,i+1,j,h,hv,hj=>by
  obtain⟨h1,h2⟩:=dig_cons.1 h
  cases j with
  |zero=>omega
  |succ j=>
   rw[Int.pow_succ] at hv
   simp only[valN] at hv
   have:=nth_small (l:=l) (i:=i) (j:=j) h2 (by omega) (by omega)
   simpa[nthD] using this
def mulI (o b:List Int) (x:Int) (i:Nat):Nat→List Int×Int
 |0=>(o,0)
 |k+1=>((mulI o b x i k).1.set (i+k) ((x*nthD b k 0+nthD (mulI o b x i k).1 (i+k) 0+(mulI o b x i k).2) % 4294967296),(x*nthD b k 0+nthD (mulI o b x i k).1 (i+k) 0+(mulI o b x i k).2) / 4294967296)
theorem mulI_ok {o b:List Int} {x:Int} {i:Nat} (ho:Dig o) (hb:Dig b) (x0:0≤x) (x1:x<4294967296):∀{k:Nat},i+k≤o.length→
  Dig (mulI o b x i k).1∧(mulI o b x i k).1.length=o.length∧(0≤(mulI o b x i k).2∧(mulI o b x i k).2<4294967296)∧(∀j,i+k≤j→nthD (mulI o b x i k).1 j 0=nthD o j 0)∧
  valN (mulI o b x i k).1+4294967296^(i+k)*(mulI o b x i k).2=valN o+4294967296^i*(x*valN (b.take k))
 |0,h=>by simp[mulI,ho,valN]
 |k+1,h=>by
  obtain⟨h1,h2,⟨h3,h4⟩,h5,h6⟩:=@mulI_ok o b x i ho hb x0 x1 k (by omega)
  simp only[mulI]
  generalize (mulI o b x i k).1=p at*
  generalize (mulI o b x i k).2=c at*
  have b1:=dig_nth hb k
  have p1:=dig_nth h1 (i+k)
  have hxb:0≤x*nthD b k 0:=Int.mul_nonneg x0 b1.1
  have hxb2:x*nthD b k 0≤4294967295*4294967295:=Int.mul_le_mul (by omega) (by omega) b1.1 (by omega)
  have hlt:i+k<p.length:=by omega
  refine⟨dig_set h1 (by omega) (by omega),by simp[h2],⟨by omega,by omega⟩,fun j hj=>?_,?_⟩
  ·rw[nth_set_ne (by omega)];exact h5 j (by omega)
  ·rw[val_set hlt,take_snoc0,show i+(k+1)=i+k+1 by omega,Int.pow_succ]
   generalize ht:x*nthD b k 0+nthD p (i+k) 0+c=t at*
   have ht2:x*nthD b k 0=t - nthD p (i+k) 0 - c:=by omega
   have e1:4294967296^i*(x*(valN (b.take k)+4294967296^k*nthD b k 0))=4294967296^i*(x*valN (b.take k))+4294967296^(i+k)*(x*nthD b k 0):=by
    rw[Int.pow_add,Int.mul_add,Int.mul_add]
    congr 1
    rw[Int.mul_left_comm x,Int.mul_assoc]
   rw[e1,ht2]
   generalize (4294967296:Int)^(i+k)=B at*
   have e2:B*4294967296*(t / 4294967296)=B*(t - t % 4294967296):=by
    rw[Int.mul_assoc];congr 1;omega
   rw[e2]
   simp only[Int.mul_sub]
   omega
end Go.Vi
