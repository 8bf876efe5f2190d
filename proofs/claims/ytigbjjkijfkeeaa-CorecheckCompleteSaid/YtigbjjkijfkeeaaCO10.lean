/-
  Contracts: the coalition that blocks the payments the most (the program and the reference).
  Conditions: none.
-/
import Derived.Test.YtigbjjkijfkeeaaCO06
import Derived.Test.YtigbjjkijfkeeaaCO07
import Derived.Test.YtigbjjkijfkeeaaCO08
import Derived.Test.YtigbjjkijfkeeaaCO09
set_option maxRecDepth 100000
set_option maxHeartbeats 4000000
set_option linter.unusedSimpArgs false
set_option linter.unusedVariables false
namespace Go.Vi
open Go.Proofs.Ytigbjjkijfkeeaa.Ir
open Go.Proofs
structure Blk where
 m:Int
 w:Int
 g:Rat
def blkU (V T:List Int) (l:List Fra) (k:Nat):Blk:=(List.range k).foldl (fun(s:Blk) (m:Nat)=>if s.g<gainQ V l m (nthD T m 0) then⟨m,nthD T m 0,gainQ V l m (nthD T m 0)⟩ else s) ⟨0,0,0⟩
theorem blkU_succ {V T:List Int} {l:List Fra} {k:Nat}:blkU V T l (k+1)=if(blkU V T l k).g<gainQ V l k (nthD T k 0) then⟨k,nthD T k 0,gainQ V l k (nthD T k 0)⟩ else blkU V T l k:=by
 unfold blkU
 rw[List.range_succ,List.foldl_append]
 rfl
def blkE (p:Prob) (c:List Int) (l:List Fra):Int:=if faultC p c≠0 then faultC p c else if l.length≠p.classes.length then 3 else 0
def blkS (p:Prob) (c:List Int) (l:List Fra):Blk:=blkU (valsS p c) (tabS p) l (tabS p).length
def r44:SCtr:=⟨44,Prob×Alloc×List Fra,.cons codP (.cons codA (.one (codR sF))),fun a=>a.2.1.chosen.length≤9223372036854775807∧payOk a.2.2,
 fun a=> .tup [.agg [.si .i64 (if blkE a.1 a.2.1.chosen a.2.2=0 then(blkS a.1 a.2.1.chosen a.2.2).m else 0),.si .i64 (if blkE a.1 a.2.1.chosen a.2.2=0 then(blkS a.1 a.2.1.chosen a.2.2).w else 0)],.agg (encS sF (if blkE a.1 a.2.1.chosen a.2.2=0 then frE (blkS a.1 a.2.1.chosen a.2.2).g else(false,([],[])))),.si .i64 (blkE a.1 a.2.1.chosen a.2.2)]⟩
def st44 (a:Prob×Alloc×List Fra) (x:Int×Int×Fra):SStore:=[.cells a.1.ss 27 20 false,.cells [.row (.i .i64) a.2.1.chosen,.si .i64 a.2.1.value] 31 2 false,.cells [.row sF a.2.2] 59 1 false,.cells [.il .i64 0,.il .i64 0] 62 2 false,nilF,
 .cells [.si .i64 x.1,.si .i64 x.2.1] 62 2 false,fCells x.2.2,
 .cells [.row (.i .i64) (if faultC a.1 a.2.1.chosen=0 then tabS a.1 else[])] 32 1 false,.cells [.row (.i .i64) (if faultC a.1 a.2.1.chosen=0 then valsS a.1 a.2.1.chosen else[])] 32 1 false]
def Λ44 (a:Prob×Alloc×List Fra):Nat→LoopAnn
 |1001=> .inv (Int×Int×Int×Fra) (fun x=>⟨[(0,.fn (.yield 0) [] []),(2,.ptr 8 0 1),(9,.row (.i .i64) (if faultC a.1 a.2.1.chosen=0 then tabS a.1 else[])),(10,.si .i64 (if faultC a.1 a.2.1.chosen=0 then tabS a.1 else[]).length),(11,.si .i64 x.1)],st44 a x.2⟩)
   (fun s=>(iS s 11,cS (.i .i64) s 5 0,cS (.i .i64) s 5 1,cS sF s 6 0)) (fun x=>(0≤x.1∧x.1≤(tabS a.1).length)∧x.2.1=(blkU (valsS a.1 a.2.1.chosen) (tabS a.1) a.2.2 x.1.toNat).m∧x.2.2.1=(blkU (valsS a.1 a.2.1.chosen) (tabS a.1) a.2.2 x.1.toNat).w∧x.2.2.2=frE (blkU (valsS a.1 a.2.1.chosen) (tabS a.1) a.2.2 x.1.toNat).g) (fun x=>((tabS a.1).length - x.1).toNat) fun x k=>match k with
    |5=> .inv (Int×Int×Int) (fun y=>⟨[(0,.fn (.yield 0) [] []),(2,.ptr 8 0 1),(4,.si .i64 x.1),(6,.ptr 9 0 4),(9,.row (.i .i64) (if faultC a.1 a.2.1.chosen=0 then tabS a.1 else[])),(10,.si .i64 (if faultC a.1 a.2.1.chosen=0 then tabS a.1 else[]).length),(11,.si .i64 x.1),
      (22,.row (.i .i64) (if faultC a.1 a.2.1.chosen=0 then valsS a.1 a.2.1.chosen else[])),(23,.si .i64 (if faultC a.1 a.2.1.chosen=0 then valsS a.1 a.2.1.chosen else[]).length),(24,.si .i64 y.1)],
      st44 a x.2++[.cells [.si .i64 x.1,.si .i64 (nthD (if faultC a.1 a.2.1.chosen=0 then tabS a.1 else[]) x.1.toNat 0),.si .i64 y.2.1,.si .i64 y.2.2] 120 4 false]⟩)
      (fun s=>(iS s 24,cS (.i .i64) s 9 2,cS (.i .i64) s 9 3)) (fun y=>(0≤y.1∧y.1≤(valsS a.1 a.2.1.chosen).length)∧y.2.1=payU (valsS a.1 a.2.1.chosen) x.1 y.1.toNat∧y.2.2=leastU (valsS a.1 a.2.1.chosen) x.1 (nthD (tabS a.1) x.1.toNat 0) y.1.toNat) (fun y=>((valsS a.1 a.2.1.chosen).length - y.1).toNat) fun _ _=> .look
    |_=> .look
 |_=> .look
theorem cmpQ_pos {p q:Rat}:0<cmpQ p q↔q<p:=by
 unfold cmpQ
 by_cases h1:p<q
 ·rw[if_pos h1]
  constructor
  ·intro h;omega
  ·intro h;exact absurd h1 (by grind)
 ·rw[if_neg h1]
  by_cases h2:q<p
  ·rw[if_pos h2];simp[h2]
  ·rw[if_neg h2];simp[h2]
theorem faultC_len {p:Prob} {c:List Int} {l:List Fra} (hz:faultC p c=0) (hl:l.length=p.classes.length):blkE p c l=0:=by
 unfold blkE
 rw[if_neg (by omega),if_neg (by omega)]
theorem szI {W:Int} (h1: -9223372036854775808≤W) (h2:W≤9223372036854775807):Sz 2 (W:Rat):=by
 unfold Sz
 simp
 omega
theorem gainQ_sz {V T:List Int} {l:List Fra} {m w:Int} (hl:payOk l) (hv:∀v∈V,0≤v∧v≤1000000000000000) (h8:V.length≤8) (w0: -1000000000000000000≤w) (w1:w≤1000000000000000000):Sz 44 (gainQ V l m w):=by
 have hll:=hl.1
 have hb:=@leastU_bd V m w hv V.length (by omega)
 unfold gainQ
 rw[Rat.sub_eq_add_neg]
 exact(sz_add (szI (W:=lU V m w) (by unfold lU;omega) (by unfold lU;omega)) (sz_neg (paidQ_sz hl (Nat.le_refl _)))).mono (by omega)
theorem blkU_sz {V T:List Int} {l:List Fra} (hl:payOk l) (hv:∀v∈V,0≤v∧v≤1000000000000000) (h8:V.length≤8) (ht:∀m:Nat,0≤nthD T m 0∧nthD T m 0≤8000000):∀{k:Nat},Sz 44 (blkU V T l k).g
 |0=>sz_zero.mono (by omega)
 |k+1=>by
  have:=@blkU_sz V T l hl hv h8 ht k
  have hk:=ht k
  rw[blkU_succ]
  split
  ·exact gainQ_sz (T:=T) hl hv h8 (by omega) (by omega)
  ·exact this
theorem h44:Holds Try.prog r44:=by
 refine con (L:=[r87,r94,r96,r95,r97]) (W:=ownT [r88]) r44 F44 Λ44 (ownT_ok (by simpa using h88)) (by simpa using⟨h87,h94,h96,h95,h97⟩) (by kernel_rfl) (by kernel_rfl) (fun _=>rfl) ?_
 rintro⟨p,⟨c,v⟩,l⟩ ⟨h,hl⟩
 refine vcOf (let z0:=decide (faultC p c≠(0:Int));let z1:=SV.il .i64 0;let z2:=SId.i .i64;let z3:=SV.agg [SV.bl false,SV.row z2 [],SV.row z2 []];let z4:=if blkE p c l=(0:Int) then frE (blkS p c l).g else(false,[],[]);let z5:=SId.i .u32;let z6:=SV.tup [SV.agg [SV.si .i64 (if blkE p c l=(0:Int) then(blkS p c l).m else(0:Int)),SV.si .i64 (if blkE p c l=(0:Int) then(blkS p c l).w else(0:Int))],SV.agg [SV.sb z4.fst,SV.row z5 z4.snd.fst,SV.row z5 z4.snd.snd],SV.si .i64 (blkE p c l)];let z7:=if faultC p c=(0:Int) then valsS p c else[];let z8:=decide ((↑l.length:Int)≠(↑z7.length:Int));let z9:=SV.fn (Fn.yield 0) [] [];let z10:=SV.ptr 8 0 1;let z11:=if faultC p c=(0:Int) then tabS p else[];let z12:=if faultC p c=(0:Int) then tabS p else[];let z13:=SV.row z2 z12;let z14:=if faultC p c=(0:Int) then tabS p else[];let z15:=SV.si .i64 (↑z14.length:Int);let z16:=SV.si .i64 0;let z17:=SObj.cells [SV.si .i64 p.supply.a0,SV.si .i64 p.supply.a1,SV.si .i64 p.supply.a2,SV.si .i64 p.supply.a3,SV.si .i64 p.supply.a4,SV.si .i64 p.supply.a5,SV.si .i64 p.opn.a0,SV.si .i64 p.opn.a1,SV.si .i64 p.opn.a2,SV.si .i64 p.opn.a3,SV.si .i64 p.opn.a4,SV.si .i64 p.opn.a5,SV.si .i64 p.cls.a0,SV.si .i64 p.cls.a1,SV.si .i64 p.cls.a2,SV.si .i64 p.cls.a3,SV.si .i64 p.cls.a4,SV.si .i64 p.cls.a5,SV.row z2 p.classes,SV.row SId.off p.offers] 27 20 false;let z18:=SObj.cells [SV.row z2 c,SV.si .i64 v] 31 2 false;let z19:=SObj.cells [SV.row sF l] 59 1 false;let z20:=SObj.cells [z1,z1] 62 2 false;let z21:=SV.sc (Value.slice none 0 0);let z22:=SObj.cells [SV.bl false,z21,z21] 66 3 false;let z23:=frE (IntCast.intCast (0:Int));let z24:=SObj.cells [SV.sb z23.fst,SV.row z5 z23.snd.fst,SV.row z5 z23.snd.snd] 66 3 false;let z25:=SObj.cells [z13] 32 1 false;let z26:=if faultC p c=(0:Int) then valsS p c else[];let z27:=SV.row z2 z26;let z28:=SObj.cells [z27] 32 1 false;let z29:=(↑(tabS p).length:Int);let z30:=blkU (valsS p c) (tabS p) l 0;let z31:=SV.ptr 9 0 4;let z32:=(↑(if faultC p c=(0:Int) then valsS p c else[]).length:Int);let z33:=SV.si .i64 z32;let z34:=(↑(valsS p c).length:Int);c.length≤9223372036854775807∧(z0=true→(SV.tup [SV.agg [z1,z1],z3,SV.si .i64 (faultC p c)]).same z6)∧(z0=false→(z8=true→(SV.tup [SV.agg [z1,z1],z3,SV.il .i64 3]).same z6)∧(z8=false→((-9223372036854775808:Int)≤(0:Int)∧(0:Int)≤(9223372036854775807:Int))∧True∧(((z9.same z9∧z10.same z10∧(SV.row z2 z11).same z13∧(SV.si .i64 (↑z11.length:Int)).same z15∧z1.same z16∧True)∧z17.same z17∧z18.same z18∧z19.same z19∧z20.same z20∧z22.same z22∧z20.same (SObj.cells [z16,z16] 62 2 false)∧z24.same z24∧(SObj.cells [SV.row z2 z11] 32 1 false).same z25∧(SObj.cells [SV.row z2 z7] 32 1 false).same z28∧True)∧((0:Int)≤(0:Int)∧(0:Int)≤z29)∧(0:Int)=z30.m∧(0:Int)=z30.w∧(z23.fst,z23.snd.fst,z23.snd.snd)=frE z30.g)∧∀(x:Int×Int×Int×Fra),let z35:=x.fst.toNat;let z36:=blkU (valsS p c) (tabS p) l z35;let z37:=x.snd.snd.fst;let z38:=x.snd.snd.snd;let z39:=decide (x.fst<(↑z14.length:Int));let z40:=SV.si .i64 x.fst;let z41:=[SV.si .i64 x.snd.fst,SV.si .i64 z37];let z42:=SObj.cells z41 62 2 false;let z43:=[SV.sb z38.fst,SV.row z5 z38.snd.fst,SV.row z5 z38.snd.snd];let z44:=SObj.cells z43 66 3 false;let z45:=nthD z12 z35 (0:Int);let z46:=SV.si .i64 z45;let z47:=nthD z14 z35 (0:Int);let z48:=SV.si .i64 z47;let z49:=nthD (tabS p) z35 (0:Int);let z50:=(z38.fst,z38.snd.fst,z38.snd.snd);let z51:=x.fst+(1:Int);let z52:=SV.si .i64 z51;let z53:=SObj.cells [z40,z48] 62 2 false;let z54:=blkU (valsS p c) (tabS p) l z51.toNat;((0:Int)≤x.fst∧x.fst≤z29)∧x.snd.fst=z36.m∧z37=z36.w∧z38=frE z36.g→(z39=true→(0:Int)≤x.fst∧x.fst<(↑z12.length:Int)∧z35<z12.length∧(((z9.same z9∧z10.same z10∧z40.same z40∧z31.same z31∧z13.same z13∧z15.same z15∧z40.same z40∧z27.same z27∧(SV.si .i64 (↑z26.length:Int)).same z33∧z1.same z16∧True)∧z17.same z17∧z18.same z18∧z19.same z19∧z20.same z20∧z22.same z22∧z42.same z42∧z44.same z44∧z25.same z25∧z28.same z28∧(SObj.cells [z40,z46,z1,z46] 120 4 false).same (SObj.cells [z40,z48,z16,z46] 120 4 false)∧True)∧((0:Int)≤(0:Int)∧(0:Int)≤z34)∧(0:Int)=payU (valsS p c) x.fst 0∧z45=leastU (valsS p c) x.fst z49 0)∧∀(x_1:Int×Int×Int),let z55:=x_1.fst.toNat;let z56:=decide (x_1.fst<z32);let z57:=decide (binK.andI .i64 (x.fst / (2:Int)^z55) (1:Int)=(1:Int));let z58:=nthD z26 z55 (0:Int);let z59:=x_1.snd.snd - z58;let z60:=x_1.fst+(1:Int);let z61:=SV.si .i64 z60;let z62:=SV.si .i64 x_1.snd.fst;let z63:=SObj.cells [z40,z48,z62,SV.si .i64 z59] 120 4 false;let z64:=payU (valsS p c) x.fst z60.toNat;let z65:=leastU (valsS p c) x.fst z49 z60.toNat;let z66:=decide ((0:Int)<z58);let z67:=(1:Int)*(2:Int)^z55;let z68:=binK.orI .i64 x_1.snd.fst z67;let z69:=[SV.si .i64 x_1.snd.snd];let z70:=SObj.cells (z40::z48::SV.si .i64 z68::z69) 120 4 false;let z71:=SObj.cells (z40::z48::z62::z69) 120 4 false;let z72:=frE (IntCast.intCast x_1.snd.snd);let z73:=(z72.fst,z72.snd.fst,z72.snd.snd);let z74:=frE (paidQ l x_1.snd.fst l.length);let z75:=(z74.fst,z74.snd.fst,z74.snd.snd);let z76:=frE (valF z73 - valF z75);let z77:=(z76.fst,z76.snd.fst,z76.snd.snd);let z78:=decide ((0:Int)<cmpQ (valF z77) (valF z50));let z79:=SObj.cells [SV.sb z76.fst,SV.row z5 z76.snd.fst,SV.row z5 z76.snd.snd] 66 3 false;((0:Int)≤x_1.fst∧x_1.fst≤z34)∧x_1.snd.fst=payU (valsS p c) x.fst z55∧x_1.snd.snd=leastU (valsS p c) x.fst z49 z55→(z56=true→(0:Int)≤x_1.fst∧x_1.fst<(↑z26.length:Int)∧z55<z26.length∧(0:Int)≤x_1.fst∧x_1.fst≤(64:Int)∧(z57=true→inR .i64 z59∧inR .i64 z60∧((z9.same z9∧z10.same z10∧z40.same z40∧z31.same z31∧z13.same z13∧z15.same z15∧z40.same z40∧z27.same z27∧z33.same z33∧z61.same z61∧True)∧z17.same z17∧z18.same z18∧z19.same z19∧z20.same z20∧z22.same z22∧z42.same z42∧z44.same z44∧z25.same z25∧z28.same z28∧z63.same z63∧True)∧(((0:Int)≤z60∧z60≤z34)∧x_1.snd.fst=z64∧z59=z65)∧(z34 - z60).toNat<(z34 - x_1.fst).toNat)∧(z57=false→(z66=true→(0:Int)≤x_1.fst∧x_1.fst≤(64:Int)∧inR .i64 z67∧inR .i64 z60∧((z9.same z9∧z10.same z10∧z40.same z40∧z31.same z31∧z13.same z13∧z15.same z15∧z40.same z40∧z27.same z27∧z33.same z33∧z61.same z61∧True)∧z17.same z17∧z18.same z18∧z19.same z19∧z20.same z20∧z22.same z22∧z42.same z42∧z44.same z44∧z25.same z25∧z28.same z28∧z70.same z70∧True)∧(((0:Int)≤z60∧z60≤z34)∧z68=z64∧x_1.snd.snd=z65)∧(z34 - z60).toNat<(z34 - x_1.fst).toNat)∧(z66=false→inR .i64 z60∧((z9.same z9∧z10.same z10∧z40.same z40∧z31.same z31∧z13.same z13∧z15.same z15∧z40.same z40∧z27.same z27∧z33.same z33∧z61.same z61∧True)∧z17.same z17∧z18.same z18∧z19.same z19∧z20.same z20∧z22.same z22∧z42.same z42∧z44.same z44∧z25.same z25∧z28.same z28∧z71.same z71∧True)∧(((0:Int)≤z60∧z60≤z34)∧x_1.snd.fst=z64∧x_1.snd.snd=z65)∧(z34 - z60).toNat<(z34 - x_1.fst).toNat)))∧(z56=false→((-9223372036854775808:Int)≤x_1.snd.snd∧x_1.snd.snd≤(9223372036854775807:Int))∧(payOk l∧(0:Int)≤x_1.snd.fst∧x_1.snd.fst≤(9223372036854775807:Int))∧(isF z73∧isF z75)∧(isF z77∧isF z50)∧(z78=true→inR .i64 z51∧((z9.same z9∧z10.same z10∧z13.same z13∧z15.same z15∧z52.same z52∧True)∧z17.same z17∧z18.same z18∧z19.same z19∧z20.same z20∧z22.same z22∧z53.same z53∧z79.same z79∧z25.same z25∧z28.same z28∧True)∧(((0:Int)≤z51∧z51≤z29)∧x.fst=z54.m∧z47=z54.w∧z77=frE z54.g)∧(z29 - z51).toNat<(z29 - x.fst).toNat)∧(z78=false→inR .i64 z51∧((z9.same z9∧z10.same z10∧z13.same z13∧z15.same z15∧z52.same z52∧True)∧z17.same z17∧z18.same z18∧z19.same z19∧z20.same z20∧z22.same z22∧z42.same z42∧z44.same z44∧z25.same z25∧z28.same z28∧True)∧(((0:Int)≤z51∧z51≤z29)∧x.snd.fst=z54.m∧z37=z54.w∧z50=frE z54.g)∧(z29 - z51).toNat<(z29 - x.fst).toNat)))∧(z39=false→(SV.tup [SV.agg z41,SV.agg z43,z1]).same z6)))) (by kernel_rfl) ?_
 simp only[vcs]
 have hl:payOk l:=hl
 have hll:=hl.1
 have h:c.length≤9223372036854775807:=h
 refine⟨h,fun hne=>?_,fun hz=>?_⟩
 ·have hb:blkE p c l=faultC p c:=by unfold blkE;rw[if_pos hne]
  rw[hb,if_neg hne,if_neg hne,if_neg hne]
  repeat' refine And.intro ?_ ?_
  all_goals first|rfl|trivial
 have hz:faultC p c=0:=by simpa using hz
 obtain⟨hf,hc⟩:=faultC_zero hz
 have hg:=good_of hc
 obtain⟨hV,h8,hv⟩:=vals_good hf
 obtain⟨hT,ht⟩:=tabS_ok hg
 have hp8:=pow8 h8
 simp only[hz,if_true]
 refine⟨fun hne=>?_,fun hle=>?_⟩
 ·have hb:blkE p c l=3:=by unfold blkE;rw[if_neg (by omega),if_pos (by omega)]
  rw[hb]
  repeat' refine And.intro ?_ ?_
  all_goals first|rfl|trivial
 have hle:l.length=p.classes.length:=by omega
 have hb:blkE p c l=0:=faultC_len hz hle
 have hsz:=fun k=>@blkU_sz (valsS p c) (tabS p) l hl hv (by omega) ht k
 simp only[hb,if_true,blkS]
 generalize tabS p=T at*
 generalize valsS p c=V at*
 refine⟨by omega,?_,?_⟩
 ·repeat' refine And.intro ?_ ?_
  all_goals first|omega|rfl|exact congrArg frE (show((0:Int):Rat)=(0:Rat) from rfl)|(simp[blkU];done)
 rintro⟨m,bm,bw,bg⟩ ⟨⟨m0,m1⟩,hbm,hbw,hbg⟩
 simp only at m0 m1 hbm hbw hbg ⊢
 subst hbm
 subst hbw
 subst hbg
 have hw:=ht m.toNat
 have em:((m.toNat:Nat):Int)=m:=by omega
 have em1:(m+1).toNat=m.toNat+1:=by omega
 refine⟨fun hm=>⟨by omega,by omega,by omega,?_,?_⟩,fun hm=>?_⟩
 ·repeat' refine And.intro ?_ ?_
  all_goals first|omega|rfl
 ·rintro⟨i,q,y⟩ ⟨⟨i0,i1⟩,hq,hy⟩
  simp only at i0 i1 hq hy ⊢
  subst hq
  subst hy
  have e:(i+1).toNat=i.toNat+1:=by omega
  have ei:((i.toNat:Nat):Int)=i:=by omega
  have hsp:=@payU_succ V m i.toNat
  have hsl:=@leastU_succ V m (nthD T m.toNat 0) i.toNat
  rw[ei] at hsp hsl
  have hb:=@payU_bd V m i.toNat
  have hl2:=@leastU_bd V m (nthD T m.toNat 0) hv i.toNat (by omega)
  obtain⟨n0,n1⟩:=half_nn (i:=i.toNat) m0
  have ha:binK.andI .i64 (m / 2^i.toNat) 1=m / 2^i.toNat % 2:=and_one n0 (by omega)
  have hI:hasI m i=decide (m / 2^i.toNat % 2=1):=rfl
  rw[ha]
  refine⟨fun hi=>?_,fun hi=>?_⟩
  ·have hx:=hv _ (nthD_mem (d:=0) (show i.toNat<V.length by omega))
   have hp:=pow8 (n:=i.toNat) (by omega)
   rw[e,hsp,hsl,hI]
   refine⟨by omega,by omega,by omega,by omega,by omega,fun h1=>?_,fun h1=>⟨fun h2=>?_,fun h2=>?_⟩⟩
   ·have h1':decide (m / 2^i.toNat % 2=1)=true:=by simpa using h1
    rw[if_neg (fun h=>by rw[h1'] at h;exact absurd h.2 (by decide)),if_pos h1']
    repeat' refine And.intro ?_ ?_
    all_goals first|omega|rfl
   ·have h1':decide (m / 2^i.toNat % 2=1)=false:=by simpa using h1
    have ho:=or_pow hb.1 hb.2 (show i.toNat≤8 by omega)
    rw[ho,if_pos ⟨h2,h1'⟩,if_neg (fun h=>by rw[h1'] at h;exact absurd h (by decide))]
    repeat' refine And.intro ?_ ?_
    all_goals first|omega|rfl
   ·have h1':decide (m / 2^i.toNat % 2=1)=false:=by simpa using h1
    rw[if_neg (fun h=>h2 h.1),if_neg (fun h=>by rw[h1'] at h;exact absurd h (by decide))]
    repeat' refine And.intro ?_ ?_
    all_goals first|omega|rfl
  ·have hiV:i.toNat=V.length:=by omega
   rw[hiV] at hb hl2 ⊢
   have hp9:=pow8 (n:=V.length) (by omega)
   have hP:payU V m V.length<256:=by omega
   have hgs:Sz 44 (gainQ V l m (nthD T m.toNat 0)):=gainQ_sz (T:=T) hl hv (by omega) (by omega) (by omega)
   have e1:valF ((frE (IntCast.intCast (leastU V m (nthD T m.toNat 0) V.length):Rat)).1,(frE (IntCast.intCast (leastU V m (nthD T m.toNat 0) V.length):Rat)).2.1,(frE (IntCast.intCast (leastU V m (nthD T m.toNat 0) V.length):Rat)).2.2) - valF ((frE (paidQ l (payU V m V.length) l.length)).1,(frE (paidQ l (payU V m V.length) l.length)).2.1,(frE (paidQ l (payU V m V.length) l.length)).2.2)=gainQ V l m (nthD T m.toNat 0):=by
    show valF (frE (IntCast.intCast (leastU V m (nthD T m.toNat 0) V.length):Rat)) - valF (frE (paidQ l (payU V m V.length) l.length))=_
    rw[valF_frE,valF_frE]
    rfl
   have e2:∀q:Rat,valF ((frE q).1,(frE q).2.1,(frE q).2.2)=q:=valF_frE
   have hsu:=@blkU_succ V T l m.toNat
   rw[em] at hsu
   have hs2:=hsz m.toNat
   rw[e1]
   simp only[e2,cmpQ_pos]
   rw[em1,hsu]
   refine⟨⟨by omega,by omega⟩,⟨hl,by omega,by omega⟩,⟨⟨_,2,rfl,szI (by omega) (by omega),by omega⟩,⟨_,_,rfl,paidQ_sz hl (Nat.le_refl _),by omega⟩⟩,⟨⟨_,44,rfl,hgs,by omega⟩,⟨_,44,rfl,hs2,by omega⟩⟩,fun hc2=>?_,fun hc2=>?_⟩
   ·rw[if_pos hc2]
    repeat' refine And.intro ?_ ?_
    all_goals first|omega|rfl
   ·rw[if_neg hc2]
    repeat' refine And.intro ?_ ?_
    all_goals first|omega|rfl
 ·rw[show m.toNat=T.length by omega]
  repeat' refine And.intro ?_ ?_
  all_goals first|omega|rfl|trivial
def rat1 (V:List Int) (l:List Fra) (j:Nat):Bool:=decide (0≤valF (nthD l j sF.dflt))&&decide (valF (nthD l j sF.dflt)≤((nthD V j 0:Int):Rat))
def ratB (p:Prob) (c:List Int) (l:List Fra):Bool:=decide (feasE p c=0)&&decide (l.length=p.classes.length)&&(List.range l.length).all (rat1 (valsS p c) l)
theorem ratB_iff {p:Prob} {c:List Int} {l:List Fra}:ratB p c l=true↔feasE p c=0∧l.length=p.classes.length∧∀j:Nat,j<l.length→rat1 (valsS p c) l j=true:=by
 unfold ratB
 simp only[Bool.and_eq_true,decide_eq_true_eq,List.all_eq_true,List.mem_range,and_assoc]
theorem sgn_neg {q:Rat}:sgnQ q<0↔¬0≤q:=by
 unfold sgnQ
 by_cases h1:q<0
 ·rw[if_pos h1]
  have:¬0≤q:=by grind
  simp[this]
 ·rw[if_neg h1]
  have:0≤q:=by grind
  by_cases h2:0<q
  ·rw[if_pos h2];simp[this]
  ·rw[if_neg h2];simp[this]
def r49:SCtr:=⟨49,Prob×Alloc×List Fra,.cons codP (.cons codA (.one (codR sF))),fun a=>a.2.1.chosen.length≤9223372036854775807∧payOk a.2.2,fun a=> .sb (ratB a.1 a.2.1.chosen a.2.2)⟩
def Λ49 (a:Prob×Alloc×List Fra):Nat→LoopAnn
 |7=> .inv Int (fun x=>⟨[(7,.row (.i .i64) (if feasE a.1 a.2.1.chosen=0 then valsS a.1 a.2.1.chosen else[])),(23,.row sF a.2.2),(24,.si .i64 a.2.2.length),(25,.si .i64 x)],[.cells a.1.ss 27 20 false,.cells [.row (.i .i64) a.2.1.chosen,.si .i64 a.2.1.value] 31 2 false]⟩)
   (fun s=>iS s 25) (fun x=>(0≤x∧x≤a.2.2.length)∧∀j:Nat,(j:Int)<x→rat1 (valsS a.1 a.2.1.chosen) a.2.2 j=true) (fun x=>(a.2.2.length - x).toNat) fun _ _=> .look
 |_=> .look
theorem h49:Holds Try.prog r49:=by
 refine con (L:=[r100,r101,r99,r94,r97]) r49 F49 Λ49 (OwnOK.none _) (by simpa using⟨h100,h101,h99,h94,h97⟩) (by kernel_rfl) (by kernel_rfl) (fun _=>rfl) ?_
 rintro⟨p,⟨c,v⟩,l⟩ ⟨h,hl⟩
 refine vcOf (let z0:=decide (feasE p c≠(0:Int));let z1:=(↑l.length:Int);let z2:=if feasE p c=(0:Int) then valsS p c else[];let z3:=decide (z1≠(↑z2.length:Int));let z4:=SId.i .i64;let z5:=if feasE p c=(0:Int) then valsS p c else[];let z6:=SV.row z4 z5;let z7:=(↑l.length:Int);let z8:=SV.si .i64 z7;let z9:=SObj.cells [SV.si .i64 p.supply.a0,SV.si .i64 p.supply.a1,SV.si .i64 p.supply.a2,SV.si .i64 p.supply.a3,SV.si .i64 p.supply.a4,SV.si .i64 p.supply.a5,SV.si .i64 p.opn.a0,SV.si .i64 p.opn.a1,SV.si .i64 p.opn.a2,SV.si .i64 p.opn.a3,SV.si .i64 p.opn.a4,SV.si .i64 p.opn.a5,SV.si .i64 p.cls.a0,SV.si .i64 p.cls.a1,SV.si .i64 p.cls.a2,SV.si .i64 p.cls.a3,SV.si .i64 p.cls.a4,SV.si .i64 p.cls.a5,SV.row z4 p.classes,SV.row SId.off p.offers] 27 20 false;let z10:=SObj.cells [SV.row z4 c,SV.si .i64 v] 31 2 false;c.length≤9223372036854775807∧(z0=true→(SV.bl false).same (SV.sb (ratB p c l)))∧(z0=false→c.length≤9223372036854775807∧(z3=true→(SV.bl false).same (SV.sb (ratB p c l)))∧(z3=false→((((SV.row z4 z2).same z6∧(SV.row sF l).same (SV.row sF l)∧(SV.si .i64 z1).same z8∧(SV.il .i64 0).same (SV.si .i64 0)∧True)∧z9.same z9∧z10.same z10∧True)∧((0:Int)≤(0:Int)∧(0:Int)≤z7)∧∀(j:Nat),(↑j:Int)<(0:Int)→rat1 (valsS p c) l j=true)∧∀(x:Int),let z11:=nthD l x.toNat sF.dflt;let z12:=(z11.fst,z11.snd.fst,z11.snd.snd);let z13:=decide (sgnQ (valF z12)<(0:Int));let z14:=nthD z5 x.toNat (0:Int);let z15:=frE (IntCast.intCast z14);let z16:=(z15.fst,z15.snd.fst,z15.snd.snd);let z17:=decide ((0:Int)<cmpQ (valF z12) (valF z16));let z18:=x+(1:Int);let z19:=SV.si .i64 z18;(((0:Int)≤x∧x≤z7)∧∀(j:Nat),(↑j:Int)<x→rat1 (valsS p c) l j=true)→(decide (x<z7)=true→(0:Int)≤x∧x<z1∧x.toNat<l.length∧isF z12∧(z13=true→(SV.bl false).same (SV.sb (ratB p c l)))∧(z13=false→(0:Int)≤x∧x<(↑z5.length:Int)∧x.toNat<z5.length∧((-9223372036854775808:Int)≤z14∧z14≤(9223372036854775807:Int))∧(isF z12∧isF z16)∧(z17=true→(SV.bl false).same (SV.sb (ratB p c l)))∧(z17=false→inR .i64 z18∧((z6.same z6∧(SV.row sF l).same (SV.row sF l)∧z8.same z8∧z19.same z19∧True)∧z9.same z9∧z10.same z10∧True)∧(((0:Int)≤z18∧z18≤z7)∧∀(j:Nat),(↑j:Int)<z18→rat1 (valsS p c) l j=true)∧(z7 - z18).toNat<(z7 - x).toNat)))∧(decide (x<z7)=false→(SV.bl true).same (SV.sb (ratB p c l)))))) (by kernel_rfl) ?_
 simp only[vcs]
 have hl:payOk l:=hl
 have hll:=hl.1
 have h:c.length≤9223372036854775807:=h
 have nope:(¬(feasE p c=0∧l.length=p.classes.length∧∀j:Nat,j<l.length→rat1 (valsS p c) l j=true))→ratB p c l=false:=fun hn=>by
  cases hb:ratB p c l with
  |false=>rfl
  |true=>exact absurd (ratB_iff.1 hb) hn
 refine⟨h,fun hne=>?_,fun hz=>?_⟩
 ·exact(nope fun h=>hne h.1).symm
 have hz:feasE p c=0:=by simpa using hz
 obtain⟨hV,h8,hv⟩:=vals_good hz
 simp only[hz,if_true]
 refine⟨h,fun hne=>?_,fun hle=>?_⟩
 ·exact(nope fun h=>by omega).symm
 have hle:l.length=p.classes.length:=by omega
 refine⟨⟨⟨by omega,by omega⟩,fun j hj=>by omega⟩,?_⟩
 rintro i ⟨⟨i0,i1⟩,hj⟩
 refine⟨fun hi=>?_,fun hi=>?_⟩
 ·obtain⟨q,hq,hsz⟩:=payOk_get hl (show i.toNat<l.length by omega)
  have hx:=hv _ (nthD_mem (d:=0) (show i.toNat<(valsS p c).length by omega))
  have e1:valF ((nthD l i.toNat sF.dflt).1,(nthD l i.toNat sF.dflt).2.1,(nthD l i.toNat sF.dflt).2.2)=valF (nthD l i.toNat sF.dflt):=rfl
  have e2:∀q:Rat,valF ((frE q).1,(frE q).2.1,(frE q).2.2)=q:=valF_frE
  simp only[e1,e2,cmpQ_pos,sgn_neg]
  have hF:isF ((nthD l i.toNat sF.dflt).1,(nthD l i.toNat sF.dflt).2.1,(nthD l i.toNat sF.dflt).2.2):=⟨q,3,hq,hsz,by omega⟩
  refine⟨by omega,by omega,by omega,hF,fun h1=>?_,fun h1=>⟨by omega,by omega,by omega,⟨by omega,by omega⟩,⟨hF,⟨_,2,rfl,szI (by omega) (by omega),by omega⟩⟩,fun h2=>?_,fun h2=>?_⟩⟩
  ·refine(nope fun h=>h1 ?_).symm
   have:=h.2.2 i.toNat (by omega)
   unfold rat1 at this
   simp only[Bool.and_eq_true,decide_eq_true_eq] at this
   exact this.1
  ·refine(nope fun h=>?_).symm
   have:=h.2.2 i.toNat (by omega)
   unfold rat1 at this
   simp only[Bool.and_eq_true,decide_eq_true_eq] at this
   have h2:((nthD (valsS p c) i.toNat 0:Int):Rat)<valF (nthD l i.toNat sF.dflt):=h2
   have h3:=this.2
   grind
  ·refine⟨by omega,⟨⟨by omega,by omega⟩,fun j hj2=>?_⟩,by omega⟩
   by_cases hji:(j:Int)<i
   ·exact hj j hji
   ·have:j=i.toNat:=by omega
    subst this
    unfold rat1
    simp only[Bool.and_eq_true,decide_eq_true_eq]
    have h1:¬¬0≤valF (nthD l i.toNat sF.dflt):=by simpa using h1
    have h2:¬((nthD (valsS p c) i.toNat 0:Int):Rat)<valF (nthD l i.toNat sF.dflt):=h2
    exact⟨by grind,by grind⟩
 ·exact(ratB_iff.2 ⟨hz,hle,fun j h=>hj j (by omega)⟩).symm
theorem blkE_zero {p:Prob} {c:List Int} {l:List Fra} (h:blkE p c l=0):faultC p c=0∧l.length=p.classes.length:=by
 unfold blkE at h
 split at h
 ·rename_i h1;exact absurd h h1
 ·rename_i h1
  split at h
  ·cases h
  ·rename_i h2
   exact⟨by omega,by omega⟩
theorem blkS_sz {p:Prob} {c:List Int} {l:List Fra} (h:blkE p c l=0) (hl:payOk l):Sz 44 (blkS p c l).g:=by
 obtain⟨hz,_⟩:=blkE_zero h
 obtain⟨hf,hc⟩:=faultC_zero hz
 obtain⟨hV,h8,hv⟩:=vals_good hf
 obtain⟨hT,ht⟩:=tabS_ok (good_of hc)
 exact blkU_sz hl hv (by omega) ht
def coreE (p:Prob) (c:List Int) (l:List Fra):Int:=if blkE p c l≠0 then blkE p c l else if ratB p c l=false then 4 else if((blkS p c l).m≠0∨(blkS p c l).w≠0)∨0<(blkS p c l).g then 13 else 0
theorem sgn_pos {q:Rat}:0<sgnQ q↔0<q:=by
 unfold sgnQ
 by_cases h1:q<0
 ·rw[if_pos h1]
  have:¬0<q:=by grind
  simp[this]
 ·rw[if_neg h1]
  by_cases h2:0<q
  ·rw[if_pos h2];simp[h2]
  ·rw[if_neg h2];simp[h2]
def r47:SCtr:=⟨47,Prob×Alloc×List Fra,.cons codP (.cons codA (.one (codR sF))),fun a=>a.2.1.chosen.length≤9223372036854775807∧payOk a.2.2,fun a=> .si .i64 (coreE a.1 a.2.1.chosen a.2.2)⟩
theorem h47:Holds Try.prog r47:=by
 refine con (L:=[r44,r49,r99]) r47 F47 (fun _ _=> .look) (OwnOK.none _) (by simpa using⟨h44,h49,h99⟩) (by kernel_rfl) (by kernel_rfl) (fun _=>rfl) ?_
 rintro⟨p,⟨c,v⟩,l⟩ ⟨h,hl⟩
 refine vcOf (let z0:=decide (blkE p c l≠(0:Int));let z1:=SV.si .i64 (coreE p c l);let z2:=!(decide ((if blkE p c l=(0:Int) then(blkS p c l).m else(0:Int))=(0:Int))&&(decide ((if blkE p c l=(0:Int) then(blkS p c l).w else(0:Int))=(0:Int))&&true));let z3:=if blkE p c l=(0:Int) then frE (blkS p c l).g else(false,[],[]);let z4:=(z3.fst,z3.snd.fst,z3.snd.snd);let z5:=decide ((0:Int)<sgnQ (valF z4));(c.length≤9223372036854775807∧payOk l)∧(z0=true→(SV.si .i64 (blkE p c l)).same z1)∧(z0=false→(c.length≤9223372036854775807∧payOk l)∧((!ratB p c l)=true→(SV.il .i64 4).same z1)∧((!ratB p c l)=false→(z2=true→(SV.il .i64 13).same z1)∧(z2=false→isF z4∧(z5=true→(SV.il .i64 13).same z1)∧(z5=false→(SV.il .i64 0).same z1))))) (by kernel_rfl) ?_
 simp only[vcs]
 have hl:payOk l:=hl
 have h:c.length≤9223372036854775807:=h
 refine⟨⟨h,hl⟩,fun hne=>?_,fun hz=>?_⟩
 ·unfold coreE
  rw[if_pos hne]
 have hz:blkE p c l=0:=by simpa using hz
 have hsz:=blkS_sz hz hl
 have e2:∀q:Rat,valF ((frE q).1,(frE q).2.1,(frE q).2.2)=q:=valF_frE
 simp only[hz,if_true,e2,sgn_pos]
 unfold coreE
 rw[if_neg (by omega)]
 refine⟨⟨h,hl⟩,fun h1=>?_,fun h1=>⟨fun h2=>?_,fun h2=>⟨⟨_,44,rfl,hsz,by omega⟩,fun h3=>?_,fun h3=>?_⟩⟩⟩
 ·rw[if_pos (by simpa using h1)]
 ·have h1':ratB p c l=true:=by simpa using h1
  rw[if_neg (by rw[h1'];decide),if_pos]
  by_cases hm:(blkS p c l).m=0
  ·by_cases hw:(blkS p c l).w=0
   ·simp[hm,hw] at h2
   ·exact .inl (.inr hw)
  ·exact .inl (.inl hm)
 ·have h1':ratB p c l=true:=by simpa using h1
  rw[if_neg (by rw[h1'];decide),if_pos (.inr h3)]
 ·have h1':ratB p c l=true:=by simpa using h1
  rw[if_neg (by rw[h1'];decide),if_neg]
  rintro((hm|hw)|hg)
  ·exact hm h2.1
  ·exact hw h2.2
  ·exact h3 hg
def intsF (l:List Int):List Fra:=l.map fun(n:Int)=>frE ((n:Int):Rat)
def Λ56 (a:List Int):Nat→LoopAnn
 |3=> .inv (Int×List Fra) (fun x=>⟨[(3,.ow 0 x.2.length 3),(6,.row (.i .i64) a),(7,.si .i64 a.length),(8,.si .i64 x.1)],[.row sF x.2 66 false]⟩) (fun s=>(iS s 8,oS sF s 0))
   (fun x=>(0≤x.1∧x.1≤a.length)∧x.2=intsF (a.take x.1.toNat)) (fun x=>(a.length - x.1).toNat) fun _ _=> .look
 |_=> .look
def r56:SCtr:=⟨56,List Int,.one (codR (.i .i64)),fun a=>(show List Int from a).length≤1000∧∀n∈(show List Int from a), -9223372036854775808≤n∧n≤9223372036854775807,fun a=> .row sF (intsF a)⟩
theorem h56:Holds Try.prog r56:=by
 refine con (L:=[r51]) r56 F56 Λ56 (OwnOK.none _) (by simpa using h51) (by kernel_rfl) (by kernel_rfl) (fun _=>rfl) ?_
 rintro(l:List Int) ⟨hl,hn⟩
 refine vcOf (let z0:=SV.ow 0 0 3;let z1:=SV.row (SId.i .i64) l;let z2:=(↑l.length:Int);let z3:=SV.si .i64 z2;let z4:=(SId.i .u32).lst;let z5:=SId.b.pair (z4.pair z4);(((z0.same z0∧z1.same z1∧(SV.si .i64 (↑l.length:Int)).same z3∧(SV.il .i64 0).same (SV.si .i64 0)∧True)∧(SObj.row z5 [] 66 false).same (SObj.row sF [] 66 false)∧True)∧((0:Int)≤(0:Int)∧(0:Int)≤z2)∧[]=intsF [])∧∀(x:Int×List Fra),let z6:=nthD l x.fst.toNat (0:Int);let z7:=x.snd.length+1;let z8:=x.fst+(1:Int);let z9:=frE (IntCast.intCast z6);let z10:=x.snd++[(z9.fst,z9.snd.fst,z9.snd.snd)];let z11:=SV.si .i64 z8;((0:Int)≤x.fst∧x.fst≤z2)∧x.snd=intsF (List.take x.fst.toNat l)→(decide (x.fst<z2)=true→(0:Int)≤x.fst∧x.fst<(↑l.length:Int)∧x.fst.toNat<l.length∧((-9223372036854775808:Int)≤z6∧z6≤(9223372036854775807:Int))∧x.snd.length=x.snd.length∧z7*56≤140737488355328∧z7≤1000000000000∧inR .i64 z8∧(((SV.ow 0 z10.length 3).same (SV.ow 0 z10.length 3)∧z1.same z1∧z3.same z3∧z11.same z11∧True)∧(SObj.row z5 z10 66 false).same (SObj.row sF z10 66 false)∧True)∧(((0:Int)≤z8∧z8≤z2)∧z10=intsF (List.take z8.toNat l))∧(z2 - z8).toNat<(z2 - x.fst).toNat)∧(decide (x.fst<z2)=false→x.snd.length=x.snd.length∧(SV.row sF x.snd).same (SV.row sF (intsF l)))) (by kernel_rfl) ?_
 simp only[vcs]
 have hl:l.length≤1000:=hl
 have hn:∀n∈l, -9223372036854775808≤n∧n≤9223372036854775807:=hn
 refine⟨⟨⟨by omega,by omega⟩,rfl⟩,?_⟩
 rintro⟨i,out⟩ ⟨⟨i0,i1⟩,ho⟩
 simp only at i0 i1 ho ⊢
 subst ho
 have hol:(intsF (l.take i.toNat)).length≤1000:=by unfold intsF;rw[List.length_map,List.length_take];omega
 refine⟨fun hi=>?_,fun hi=>?_⟩
 ·have hx:=hn _ (nthD_mem (d:=0) (show i.toNat<l.length by omega))
  have hs:intsF (l.take (i+1).toNat)=intsF (l.take i.toNat)++[frE ((nthD l i.toNat 0:Int):Rat)]:=by
   rw[show(i+1).toNat=i.toNat+1 by omega,take_snoc (show i.toNat<l.length by omega)]
   unfold intsF
   rw[List.map_append]
   rfl
  rw[hs]
  repeat' refine And.intro ?_ ?_
  all_goals first|omega|rfl
 ·rw[show i.toNat=l.length by omega,List.take_length]
  repeat' refine And.intro ?_ ?_
  all_goals first|omega|rfl
def p3:Prob:=⟨⟨1,1,0,0,0,0⟩,⟨1,1,0,0,0,0⟩,⟨0,0,0,0,0,0⟩,[0,0,0],[⟨0,⟨1,1,0,0,0,0⟩,10⟩,⟨1,⟨1,0,0,0,0,0⟩,6⟩,⟨2,⟨0,1,0,0,0,0⟩,6⟩]⟩
def r86:SCtr:=⟨86,Unit,.nil,fun _=>True,fun _=> .tup [codP.put p3,codA.put ⟨[1,2],12⟩]⟩
theorem h86:Holds Try.prog r86:=by
 refine con (L:=[]) r86 F86 (fun _ _=> .look) (OwnOK.none _) (by simp) (by kernel_rfl) (by kernel_rfl) (fun _=>rfl) ?_
 rintro _ -
 refine vcOf (let z0:=SV.il .i64 1;let z1:=SV.il .i64 0;let z2:=SId.i .i64;let z3:=SV.row z2 [(1:Int),(2:Int)];(SV.tup [SV.agg [z0,z0,z1,z1,z1,z1,z0,z0,z1,z1,z1,z1,z1,z1,z1,z1,z1,z1,SV.row z2 [(0:Int),(0:Int),(0:Int)],SV.row SId.off [Off.mk (0:Int) (Bun.mk (1:Int) (1:Int) (0:Int) (0:Int) (0:Int) (0:Int)) (10:Int),Off.mk (1:Int) (Bun.mk (1:Int) (0:Int) (0:Int) (0:Int) (0:Int) (0:Int)) (6:Int),Off.mk (2:Int) (Bun.mk (0:Int) (1:Int) (0:Int) (0:Int) (0:Int) (0:Int)) (6:Int)]],SV.agg [z3,SV.il .i64 12]]).same (SV.tup [SV.agg [SV.si .i64 p3.supply.a0,SV.si .i64 p3.supply.a1,SV.si .i64 p3.supply.a2,SV.si .i64 p3.supply.a3,SV.si .i64 p3.supply.a4,SV.si .i64 p3.supply.a5,SV.si .i64 p3.opn.a0,SV.si .i64 p3.opn.a1,SV.si .i64 p3.opn.a2,SV.si .i64 p3.opn.a3,SV.si .i64 p3.opn.a4,SV.si .i64 p3.opn.a5,SV.si .i64 p3.cls.a0,SV.si .i64 p3.cls.a1,SV.si .i64 p3.cls.a2,SV.si .i64 p3.cls.a3,SV.si .i64 p3.cls.a4,SV.si .i64 p3.cls.a5,SV.row z2 p3.classes,SV.row SId.off p3.offers],SV.agg [z3,SV.si .i64 12]])) (by kernel_rfl) ?_
 conv=>zeta
 rfl
def Λ46 (a:Fra×Fra):Nat→LoopAnn
 |4=> .inv Int (fun x=>⟨[(2,.ptr 0 0 3),(3,.ptr 1 0 3),(5,.si .i64 x)],[fCells a.1,fCells a.2]⟩) (fun s=>iS s 5) (fun x=>(0≤x∧x≤a.1.2.1.length)∧∀j:Nat,(j:Int)<x→nthD a.1.2.1 j 0=nthD a.2.2.1 j 0) (fun x=>(a.1.2.1.length - x).toNat) fun _ _=> .look
 |9=> .inv Int (fun x=>⟨[(2,.ptr 0 0 3),(3,.ptr 1 0 3),(6,.si .i64 x)],[fCells a.1,fCells a.2]⟩) (fun s=>iS s 6) (fun x=>((0≤x∧x≤a.1.2.2.length)∧a.1.2.1=a.2.2.1)∧∀j:Nat,(j:Int)<x→nthD a.1.2.2 j 0=nthD a.2.2.2 j 0) (fun x=>(a.1.2.2.length - x).toNat) fun _ _=> .look
 |_=> .look
def r46:SCtr:=⟨46,Fra×Fra,.cons (codE sF) (.one (codE sF)),fun a=>(a.1.2.1.length≤1000000000∧a.1.2.2.length≤1000000000)∧a.2.2.1.length≤1000000000∧a.2.2.2.length≤1000000000,fun a=> .sb (decide (a.1=a.2))⟩
theorem h46:Holds Try.prog r46:=by
 refine con (L:=[]) r46 F46 Λ46 (OwnOK.none _) (by simp) (by kernel_rfl) (by kernel_rfl) (fun _=>rfl) ?_
 rintro⟨⟨s,n,d⟩,⟨s',n',d'⟩⟩ ⟨⟨hn,hd⟩,hn',hd'⟩
 refine vcOf (let z0:=SV.sb (decide ((s,n,d)=(s',n',d')));let z1:=(↑n.length:Int);let z2:=decide (z1≠(↑n'.length:Int));let z3:=(↑d.length:Int);let z4:=decide (z3≠(↑d'.length:Int));let z5:=SV.ptr 0 0 3;let z6:=SV.ptr 1 0 3;let z7:=SId.i .u32;let z8:=SObj.cells [SV.sb s,SV.row z7 n,SV.row z7 d] 66 3 false;let z9:=SObj.cells [SV.sb s',SV.row z7 n',SV.row z7 d'] 66 3 false;let z10:=(↑n.length:Int);let z11:=(↑d.length:Int);((!s==s')=true→(SV.bl false).same z0)∧((!s==s')=false→(z2=true→(SV.bl false).same z0)∧(z2=false→(z4=true→(SV.bl false).same z0)∧(z4=false→(((z5.same z5∧z6.same z6∧(SV.il .i64 0).same (SV.si .i64 0)∧True)∧z8.same z8∧z9.same z9∧True)∧((0:Int)≤(0:Int)∧(0:Int)≤z10)∧∀(j:Nat),(↑j:Int)<(0:Int)→nthD n j (0:Int)=nthD n' j (0:Int))∧∀(x:Int),let z12:=decide (nthD n x.toNat (0:Int)≠nthD n' x.toNat (0:Int));let z13:=x+(1:Int);let z14:=SV.si .i64 z13;(((0:Int)≤x∧x≤z10)∧∀(j:Nat),(↑j:Int)<x→nthD n j (0:Int)=nthD n' j (0:Int))→(decide (x<z1)=true→(0:Int)≤x∧x<z1∧x.toNat<n.length∧(0:Int)≤x∧x<(↑n'.length:Int)∧x.toNat<n'.length∧(z12=true→(SV.bl false).same z0)∧(z12=false→inR .i64 z13∧((z5.same z5∧z6.same z6∧z14.same z14∧True)∧z8.same z8∧z9.same z9∧True)∧(((0:Int)≤z13∧z13≤z10)∧∀(j:Nat),(↑j:Int)<z13→nthD n j (0:Int)=nthD n' j (0:Int))∧(z10 - z13).toNat<(z10 - x).toNat))∧(decide (x<z1)=false→(((z5.same z5∧z6.same z6∧(SV.il .i64 0).same (SV.si .i64 0)∧True)∧z8.same z8∧z9.same z9∧True)∧(((0:Int)≤(0:Int)∧(0:Int)≤z11)∧n=n')∧∀(j:Nat),(↑j:Int)<(0:Int)→nthD d j (0:Int)=nthD d' j (0:Int))∧∀(x:Int),let z15:=decide (nthD d x.toNat (0:Int)≠nthD d' x.toNat (0:Int));let z16:=x+(1:Int);let z17:=SV.si .i64 z16;((((0:Int)≤x∧x≤z11)∧n=n')∧∀(j:Nat),(↑j:Int)<x→nthD d j (0:Int)=nthD d' j (0:Int))→(decide (x<z3)=true→(0:Int)≤x∧x<z3∧x.toNat<d.length∧(0:Int)≤x∧x<(↑d'.length:Int)∧x.toNat<d'.length∧(z15=true→(SV.bl false).same z0)∧(z15=false→inR .i64 z16∧((z5.same z5∧z6.same z6∧z17.same z17∧True)∧z8.same z8∧z9.same z9∧True)∧((((0:Int)≤z16∧z16≤z11)∧n=n')∧∀(j:Nat),(↑j:Int)<z16→nthD d j (0:Int)=nthD d' j (0:Int))∧(z11 - z16).toNat<(z11 - x).toNat))∧(decide (x<z3)=false→(SV.bl true).same z0)))))) (by kernel_rfl) ?_
 simp only[vcs]
 have hn:n.length≤1000000000:=hn
 have hd:d.length≤1000000000:=hd
 have hn':n'.length≤1000000000:=hn'
 have hd':d'.length≤1000000000:=hd'
 have ext:∀{a b:List Int},a.length=b.length→(∀j:Nat,(j:Int)<a.length→nthD a j 0=nthD b j 0)→a=b:=fun hl hj=>
  List.ext_getElem hl fun j h1 h2=>by
   have:=hj j (by omega)
   simpa[nthD,h1,h2] using this
 have nope:∀{b:Bool},¬((s,n,d)=(s',n',d'))→b=false→b=decide ((s,n,d)=(s',n',d')):=fun h hb=>by
  rw[hb,decide_eq_false h]
 refine⟨fun h1=>nope (fun h=>?_) rfl,fun h1=>⟨fun h2=>nope (fun h=>?_) rfl,fun h2=>⟨fun h3=>nope (fun h=>?_) rfl,fun h3=>⟨⟨⟨by omega,by omega⟩,fun j hj=>by omega⟩,?_⟩⟩⟩⟩
 ·injection h with h4 h5
  subst h4
  simp at h1
 ·injection h with h4 h5
  injection h5 with h5 h6
  subst h5
  omega
 ·injection h with h4 h5
  injection h5 with h5 h6
  subst h6
  omega
 rintro x ⟨⟨x0,x1⟩,hx⟩
 refine⟨fun hi=>⟨by omega,by omega,by omega,by omega,by omega,by omega,fun hne=>nope (fun h=>?_) rfl,fun he=>⟨by omega,⟨⟨by omega,by omega⟩,fun j hj=>?_⟩,by omega⟩⟩,fun hi=>?_⟩
 ·injection h with h4 h5
  injection h5 with h5 h6
  subst h5
  exact hne rfl
 ·by_cases hji:(j:Int)<x
  ·exact hx j hji
  ·have:j=x.toNat:=by omega
   subst this
   simpa using he
 ·have hnn:n=n':=ext (by omega) fun j hj=>hx j (by omega)
  refine⟨⟨⟨⟨by omega,by omega⟩,hnn⟩,fun j hj=>by omega⟩,?_⟩
  rintro y ⟨⟨⟨y0,y1⟩,_⟩,hy⟩
  refine⟨fun hi2=>⟨by omega,by omega,by omega,by omega,by omega,by omega,fun hne=>nope (fun h=>?_) rfl,fun he=>⟨by omega,⟨⟨⟨by omega,by omega⟩,hnn⟩,fun j hj=>?_⟩,by omega⟩⟩,fun hi2=>?_⟩
  ·injection h with h4 h5
   injection h5 with h5 h6
   subst h6
   exact hne rfl
  ·by_cases hji:(j:Int)<y
   ·exact hy j hji
   ·have:j=y.toNat:=by omega
    subst this
    simpa using he
  ·have hdd:d=d':=ext (by omega) fun j hj=>hy j (by omega)
   have hs:s=s':=by simpa using h1
   rw[hs,hnn,hdd]
   simp
theorem pay_ints {l:List Int} (h:l.length≤10) (hn:∀n∈l, -9223372036854775808≤n∧n≤9223372036854775807):payOk (intsF l):=by
 refine⟨by unfold intsF;rw[List.length_map];exact h,fun x hx=>?_⟩
 unfold intsF at hx
 obtain⟨n,hm,rfl⟩:=List.mem_map.1 hx
 exact⟨_,rfl,(szI (hn n hm).1 (hn n hm).2).mono (by omega)⟩
def r39:SCtr:=⟨39,Unit,.nil,fun _=>True,fun _=> .sb true⟩
theorem h39:Holds Try.prog r39:=by
 refine con (L:=[r86,r40,r56,r44,r42,r46,r51,r47,r49]) r39 F39 (fun _ _=> .look) (OwnOK.none _) (by simpa using⟨h86,h40,h56,h44,h42,h46,h51,h47,h49⟩) (by kernel_rfl) (by kernel_rfl) (fun _=>rfl) ?_
 rintro _ -
 refine vcOf (let z0:=[(0:Int),(4:Int),(4:Int)];let z1:=[(1:Int),(2:Int)];let z2:=(frE (blkS p3 z1 (intsF z0)).g).snd;let z3:=(frE (IntCast.intCast (2:Int))).snd;let z4:=[(5:Int),(5:Int)];let z5:=[(0:Int),(7:Int),(5:Int)];let z6:=[(0:Int),(6:Int),(0:Int)];let z7:=ratB p3 z1 (intsF z6);let z8:=intsF ((1:Int)::z4);True∧2≤9223372036854775807∧(3≤1000∧∀(n:Int),n∈z0→(-9223372036854775808:Int)≤n∧n≤(9223372036854775807:Int))∧(2≤9223372036854775807∧payOk (intsF z0))∧(true=true→((needS p3 z1).length≤1000000000∧3≤1000000000)∧(true=true→(true=true→(true=true→((-9223372036854775808:Int)≤(2:Int)∧(2:Int)≤(9223372036854775807:Int))∧((List.length z2.fst≤1000000000∧List.length z2.snd≤1000000000)∧List.length z3.fst≤1000000000∧List.length z3.snd≤1000000000)∧(true=true→(3≤1000∧∀(n:Int),n∈(0:Int)::z4→(-9223372036854775808:Int)≤n∧n≤(9223372036854775807:Int))∧(2≤9223372036854775807∧payOk (intsF ((0:Int)::z4)))∧(true=true→(3≤1000∧∀(n:Int),n∈z0→(-9223372036854775808:Int)≤n∧n≤(9223372036854775807:Int))∧(2≤9223372036854775807∧payOk (intsF z0))∧(true=true→(3≤1000∧∀(n:Int),n∈z5→(-9223372036854775808:Int)≤n∧n≤(9223372036854775807:Int))∧(2≤9223372036854775807∧payOk (intsF z5))∧(true=true→(3≤1000∧∀(n:Int),n∈z6→(-9223372036854775808:Int)≤n∧n≤(9223372036854775807:Int))∧(2≤9223372036854775807∧payOk (intsF z6))∧(z7=true→(3≤1000∧∀(n:Int),n∈(1:Int)::z4→(-9223372036854775808:Int)≤n∧n≤(9223372036854775807:Int))∧(2≤9223372036854775807∧payOk z8)∧(SV.sb !ratB p3 z1 z8).same (SV.sb true))∧(z7=false→(SV.bl false).same (SV.sb true)))∧(true=false→(SV.bl false).same (SV.sb true)))∧(true=false→(SV.bl false).same (SV.sb true)))∧(true=false→(SV.bl false).same (SV.sb true)))∧(true=false→(SV.bl false).same (SV.sb true)))∧(true=false→(SV.bl false).same (SV.sb true)))∧(true=false→(SV.bl false).same (SV.sb true)))∧(true=false→(SV.bl false).same (SV.sb true)))∧(true=false→(SV.bl false).same (SV.sb true))) (by kernel_rfl) ?_
 conv=>zeta
 have k1:(needS p3 [1,2]).length=3:=by kernel_rfl
 have i1:∀n∈[(0:Int),4,4], -9223372036854775808≤n∧n≤9223372036854775807:=by decide
 have i2:∀n∈[(0:Int),5,5], -9223372036854775808≤n∧n≤9223372036854775807:=by decide
 have i3:∀n∈[(0:Int),7,5], -9223372036854775808≤n∧n≤9223372036854775807:=by decide
 have i4:∀n∈[(0:Int),6,0], -9223372036854775808≤n∧n≤9223372036854775807:=by decide
 have i5:∀n∈[(1:Int),5,5], -9223372036854775808≤n∧n≤9223372036854775807:=by decide
 have k2:blkE p3 [1,2] (intsF [0,4,4])=0:=by kernel_rfl
 have k3:ratB p3 [1,2] (intsF [0,6,0])=true:=by kernel_rfl
 have k4:ratB p3 [1,2] (intsF [1,5,5])=false:=by kernel_rfl
 have s1:=frE_len (blkS_sz k2 (pay_ints (by decide) i1))
 have s2:=frE_len (szI (W:=2) (by omega) (by omega))
 have ab:∀{X:Prop},true=false→X:=fun h=>absurd h (by decide)
 rw[k1,k3,k4]
 simp only[forall_const,reduceCtorEq,false_implies,true_implies,and_true,true_and]
 repeat' refine And.intro ?_ ?_
 all_goals first|omega|exact i1|exact i2|exact i3|exact i4|exact i5|exact(pay_ints (by decide) i1).1|exact(pay_ints (by decide) i1).2|exact(pay_ints (by decide) i2).1|exact(pay_ints (by decide) i2).2|exact(pay_ints (by decide) i3).1|exact(pay_ints (by decide) i3).2|exact(pay_ints (by decide) i4).1|exact(pay_ints (by decide) i4).2|exact(pay_ints (by decide) i5).1|exact(pay_ints (by decide) i5).2|exact Nat.le_trans s2.1 (by omega)|exact Nat.le_trans s2.2 (by omega)|rfl
theorem need_len {p:Prob} {c:List Int} (h:faultC p c=0):(needS p c).length≤256:=by
 obtain⟨hf,hc⟩:=faultC_zero h
 have hg:=good_of hc
 obtain⟨hT,_⟩:=tabS_ok hg
 have hp:=pow8 hg.1
 unfold needS needU
 refine Nat.le_trans (List.length_filterMap_le _ _) ?_
 rw[List.length_range]
 omega
theorem natL_one {g:Int} (h:0≤g):natL g=[1]↔g=1:=by
 constructor
 ·intro hg
  have:=(natL_ok h).1
  rw[hg] at this
  simp[valN] at this
  omega
 ·rintro rfl
  rfl
theorem val_pos {a:List Int} (h:Dig a) (hn:Nrm a) (hne:a≠[]):0<valN a:=by
 have:=val_nonneg h
 by_cases hz:valN a=0
 ·exact absurd (val_zero h hn hz) hne
 ·omega
def okF (x:Fra):Bool:=decide (frE (valF x)=x)
theorem gcdN_pos {n d:Int} (h:0<d):0<gcdN n d:=by
 unfold gcdN
 have:0<Nat.gcd n.toNat d.toNat:=Nat.gcd_pos_of_pos_right _ (by omega)
 omega
theorem okF_nrm {s:Bool} {n d:List Int} (h:okF (s,(n,d))=true):Nrm n∧Nrm d∧d≠[]:=by
 have h:=of_decide_eq_true h
 have h1:=natL_ok (show(0:Int)≤((valF (s,(n,d))).num.natAbs:Int) by omega)
 have h2:=natL_ok (show(0:Int)≤((valF (s,(n,d))).den:Int) by omega)
 have e1:natL ((valF (s,(n,d))).num.natAbs:Int)=n:=congrArg (fun x=>x.2.1) h
 have e2:natL ((valF (s,(n,d))).den:Int)=d:=congrArg (fun x=>x.2.2) h
 rw[e1] at h1
 rw[e2] at h2
 refine⟨h1.2.2,h2.2.2,fun hd=>?_⟩
 have h3:=h2.1
 rw[hd] at h3
 have:=(valF (s,(n,d))).den_pos
 simp only[valN] at h3
 rw[hd] at this
 omega
theorem okF_eq {s:Bool} {n d:List Int} (hn:Dig n) (hd:Dig d) (nn:Nrm n) (nd:Nrm d) (hd0:d≠[]):
  okF (s,(n,d))=if n=[] then !s&&decide (d=[1]) else decide (gcdN (valN n) (valN d)=1):=by
 have dp:=val_pos hd nd hd0
 have n0:=val_nonneg hn
 have hv:valF (s,(n,d))=mkRat (if s then -valN n else valN n) (valN d).toNat:=rfl
 have hm:=@frE_mk s (valN n) (valN d) n0 dp
 have gp:=@gcdN_pos (valN n) (valN d) dp
 unfold okF
 rw[hv,hm]
 by_cases h0:n=[]
 ·rw[if_pos h0,h0]
  have hg:gcdN (valN []) (valN d)=valN d:=by unfold gcdN;simp[valN];omega
  have e1:natL (valN d / gcdN (valN []) (valN d))=[1]:=by rw[hg,Int.ediv_self (by omega)];rfl
  have e2:natL (valN [] / gcdN (valN []) (valN d))=[]:=by
   have:valN []=0:=rfl
   rw[this,Int.zero_ediv];rfl
  rw[e1,e2]
  have e3:decide (0<valN [])=false:=rfl
  rw[e3,Bool.and_false]
  rw[Bool.eq_iff_iff,Bool.and_eq_true,decide_eq_true_eq,decide_eq_true_eq,Bool.not_eq_true']
  constructor
  ·intro h
   injection h with h1 h2
   injection h2 with h2 h3
   exact⟨h1.symm,h3.symm⟩
  ·rintro⟨h1,h2⟩
   rw[h1,h2]
 ·rw[if_neg h0]
  have np:=val_pos hn nn h0
  rw[decide_eq_true (show 0<valN n from np),Bool.and_true]
  rw[Bool.eq_iff_iff,decide_eq_true_eq,decide_eq_true_eq]
  constructor
  ·intro h
   injection h with h1 h2
   injection h2 with h2 h3
   have h4:=(natL_ok (show 0≤valN d / gcdN (valN n) (valN d) from Int.ediv_nonneg (by omega) (by omega))).1
   rw[h3] at h4
   by_cases h5:gcdN (valN n) (valN d)=1
   ·exact h5
   ·have:=Int.ediv_lt_self_of_pos_of_ne_one dp (by omega:gcdN (valN n) (valN d)≠1)
    omega
  ·intro h
   rw[h,Int.ediv_one,Int.ediv_one,natL_val hn nn,natL_val hd nd]
def r93:SCtr:=⟨93,Fra,.one (codE sF),fun x=>(Dig x.2.1∧Dig x.2.2)∧x.2.1.length≤1000000∧x.2.2.length≤1000000,fun x=> .sb (okF x)⟩
theorem h93:Holds Try.prog r93:=by
 refine con (L:=[r124,r125]) r93 F93 (fun _ _=> .look) (OwnOK.none _) (by simpa using⟨h124,h125⟩) (by kernel_rfl) (by kernel_rfl) (fun _=>rfl) ?_
 rintro⟨s,n,d⟩ ⟨⟨hn,hd⟩,hl1,hl2⟩
 refine vcOf (let z0:=SV.sb (okF (s,n,d));let z1:=(↑d.length:Int);let z2:=decide (z1=(0:Int));let z3:=decide ((↑n.length:Int)=(0:Int));let z4:=decide (z1=(1:Int));let z5:=natL (gcdN (valN n) (valN d));let z6:=decide ((↑z5.length:Int)=(1:Int));n.length≤1000000000∧((!nrmB n)=true→(SV.bl false).same z0)∧((!nrmB n)=false→d.length≤1000000000∧((!nrmB d)=true→(SV.bl false).same z0)∧((!nrmB d)=false→(z2=true→(SV.bl false).same z0)∧(z2=false→(z3=true→((!s)=true→(z4=true→(0:Int)≤(0:Int)∧(0:Int)<z1∧0<d.length∧(SV.sb (decide (nthD d 0 (0:Int)=(1:Int)))).same z0)∧(z4=false→(SV.bl false).same z0))∧((!s)=false→(SV.bl false).same z0))∧(z3=false→((Dig n∧Dig d)∧(n.length≤100000000∧d.length≤100000000)∧Nrm d)∧(z6=true→(0:Int)≤(0:Int)∧(0:Int)<(↑z5.length:Int)∧0<z5.length∧(SV.sb (decide (nthD z5 0 (0:Int)=(1:Int)))).same z0)∧(z6=false→(SV.bl false).same z0)))))) (by kernel_rfl) ?_
 simp only[vcs]
 have hn:Dig n:=hn
 have hd:Dig d:=hd
 have hl1:n.length≤1000000:=hl1
 have hl2:d.length≤1000000:=hl2
 have nope:¬(Nrm n∧Nrm d∧d≠[])→false=okF (s,n,d):=fun h=>by
  cases hb:okF (s,n,d) with
  |false=>rfl
  |true=>exact absurd (okF_nrm hb) h
 have nil_of:∀{a:List Int},((a.length:Nat):Int)=0→a=[]:=fun h=>List.eq_nil_of_length_eq_zero (by omega)
 have ne_of:∀{a:List Int},¬((a.length:Nat):Int)=0→a≠[]:=fun h h2=>h (by rw[h2];rfl)
 refine⟨by omega,fun h1=>nope fun h=>?_,fun h1=>⟨by omega,fun h2=>nope fun h=>?_,fun h2=>⟨fun h3=>nope fun h=>h.2.2 (nil_of h3),fun h3=>?_⟩⟩⟩
 ·have:=nrmB_iff.2 h.1
  rw[h1] at this
  cases this
 ·have:=nrmB_iff.2 h.2.1
  rw[h2] at this
  cases this
 have he:=okF_eq (s:=s) hn hd (nrmB_iff.1 h1) (nrmB_iff.1 h2) (ne_of h3)
 have hg:=@gcdN_pos (valN n) (valN d) (val_pos hd (nrmB_iff.1 h2) (ne_of h3))
 obtain⟨g1,g2,g3⟩:=natL_ok (show 0≤gcdN (valN n) (valN d) by omega)
 rw[he]
 have one:∀{a:List Int},((a.length:Nat):Int)=1→a=[nthD a 0 0]:=fun {a} h=>by
  match a,h with
  |[x],_=>rfl
  |[],h=>simp at h
  |_::_::_,h=>simp at h;omega
 refine⟨fun h4=>?_,fun h4=>?_⟩
 ·rw[if_pos (nil_of h4)]
  refine⟨fun h5=>⟨fun h6=>⟨by omega,by omega,by omega,?_⟩,fun h6=>?_⟩,fun h5=>?_⟩
  ·rw[h5]
   have:=one h6
   rw[this]
   simp[nthD]
  ·have:¬d=[1]:=fun h=>h6 (by rw[h];rfl)
   rw[h5]
   simp[this]
  ·rw[h5]
   rfl
 ·rw[if_neg (ne_of h4)]
  refine⟨⟨⟨hn,hd⟩,⟨by omega,by omega⟩,nrmB_iff.1 h2⟩,fun h5=>⟨by omega,by omega,by omega,?_⟩,fun h5=>?_⟩
  ·have h6:=one h5
   have h7:=@natL_one (gcdN (valN n) (valN d)) (by omega)
   rw[Bool.eq_iff_iff,decide_eq_true_eq,decide_eq_true_eq,←h7]
   constructor
   ·intro h8
    rw[h6,h8]
   ·intro h8
    rw[h8]
    rfl
  ·have h7:¬gcdN (valN n) (valN d)=1:=fun h8=>h5 (by rw[(natL_one (by omega)).2 h8];rfl)
   simp[h7]
def okS (x:Fra):Bool:=decide (x.2.1.length≤3)&&decide (x.2.2.length≤3)&&okF x
def smallB (l:List Fra):Bool:=l.all okS&&decide (l.length≤10)
def rowD (l:List Fra):Prop:=∀x∈l,Dig x.2.1∧Dig x.2.2
theorem small_pay {l:List Fra} (hd:rowD l) (h:smallB l=true):payOk l:=by
 unfold smallB at h
 rw[Bool.and_eq_true,decide_eq_true_eq,List.all_eq_true] at h
 refine⟨h.2,fun x hx=>⟨valF x,?_,?_⟩⟩
 ·have:=h.1 x hx
  unfold okS at this
  simp only[Bool.and_eq_true,decide_eq_true_eq] at this
  exact(of_decide_eq_true this.2).symm
 ·have:=h.1 x hx
  unfold okS at this
  simp only[Bool.and_eq_true,decide_eq_true_eq] at this
  obtain⟨⟨l1,l2⟩,l3⟩:=this
  have l3:=of_decide_eq_true l3
  obtain⟨d1,d2⟩:=hd x hx
  have e1:natL ((valF x).num.natAbs:Int)=x.2.1:=congrArg (fun x=>x.2.1) l3
  have e2:natL ((valF x).den:Int)=x.2.2:=congrArg (fun x=>x.2.2) l3
  have v1:=(natL_ok (show(0:Int)≤((valF x).num.natAbs:Int) by omega)).1
  have v2:=(natL_ok (show(0:Int)≤((valF x).den:Int) by omega)).1
  rw[e1] at v1
  rw[e2] at v2
  have b1:=lt_of_len d1 l1
  have b2:=lt_of_len d2 l2
  exact⟨by omega,by omega⟩
def r43:SCtr:=⟨43,List Fra,.one (codR sF),fun l=>rowD (show List Fra from l)∧(show List Fra from l).length≤9223372036854775807,fun l=> .sb (smallB l)⟩
def Λ43 (a:List Fra):Nat→LoopAnn
 |2=> .inv Int (fun x=>⟨[(0,.row sF a),(5,.row sF a),(6,.si .i64 a.length),(7,.si .i64 x)],[]⟩) (fun s=>iS s 7) (fun x=>(0≤x∧x≤a.length)∧∀j:Nat,(j:Int)<x→okS (nthD a j sF.dflt)=true) (fun x=>(a.length - x).toNat) fun _ _=> .look
 |_=> .look
theorem h43:Holds Try.prog r43:=by
 refine con (L:=[r93]) r43 F43 Λ43 (OwnOK.none _) (by simpa using h93) (by kernel_rfl) (by kernel_rfl) (fun _=>rfl) ?_
 rintro(l:List Fra) ⟨hd,hl⟩
 refine vcOf (let z0:=(↑l.length:Int);let z1:=(↑l.length:Int);let z2:=SV.si .i64 z1;((((SV.row sF l).same (SV.row sF l)∧(SV.row sF l).same (SV.row sF l)∧(SV.si .i64 z0).same z2∧(SV.il .i64 0).same (SV.si .i64 0)∧True)∧True)∧((0:Int)≤(0:Int)∧(0:Int)≤z1)∧∀(j:Nat),(↑j:Int)<(0:Int)→okS (nthD l j sF.dflt)=true)∧∀(x:Int),let z3:=nthD l x.toNat sF.dflt;let z4:=z3.snd.fst;let z5:=decide ((3:Int)<(↑(List.length z4):Int));let z6:=z3.snd.snd;let z7:=decide ((3:Int)<(↑(List.length z6):Int));let z8:=!okF (z3.fst,z4,z6);let z9:=x+(1:Int);let z10:=SV.si .i64 z9;(((0:Int)≤x∧x≤z1)∧∀(j:Nat),(↑j:Int)<x→okS (nthD l j sF.dflt)=true)→(decide (x<z1)=true→(0:Int)≤x∧x<z0∧x.toNat<l.length∧(z5=true→(SV.bl false).same (SV.sb (smallB l)))∧(z5=false→(z7=true→(SV.bl false).same (SV.sb (smallB l)))∧(z7=false→((Dig z4∧Dig z6)∧List.length z4≤1000000∧List.length z6≤1000000)∧(z8=true→(SV.bl false).same (SV.sb (smallB l)))∧(z8=false→inR .i64 z9∧(((SV.row sF l).same (SV.row sF l)∧(SV.row sF l).same (SV.row sF l)∧z2.same z2∧z10.same z10∧True)∧True)∧(((0:Int)≤z9∧z9≤z1)∧∀(j:Nat),(↑j:Int)<z9→okS (nthD l j sF.dflt)=true)∧(z1 - z9).toNat<(z1 - x).toNat))))∧(decide (x<z1)=false→(SV.sb (decide (z0≤(10:Int)))).same (SV.sb (smallB l)))) (by kernel_rfl) ?_
 simp only[vcs]
 have hd:rowD l:=hd
 have hl:l.length≤9223372036854775807:=hl
 have nope:(∃x∈l,okS x=false)→false=smallB l:=fun⟨x,hx,h⟩=>by
  cases hb:smallB l with
  |false=>rfl
  |true=>
   unfold smallB at hb
   rw[Bool.and_eq_true,List.all_eq_true] at hb
   have:=hb.1 x hx
   rw[h] at this
   cases this
 refine⟨⟨⟨by omega,by omega⟩,fun j hj=>by omega⟩,?_⟩
 rintro i ⟨⟨i0,i1⟩,hj⟩
 refine⟨fun hi=>?_,fun hi=>?_⟩
 ·have hm:=nthD_mem (d:=sF.dflt) (show i.toNat<l.length by omega)
  obtain⟨d1,d2⟩:=hd _ hm
  have e3:((nthD l i.toNat sF.dflt).1,(nthD l i.toNat sF.dflt).2.1,(nthD l i.toNat sF.dflt).2.2)=nthD l i.toNat sF.dflt:=rfl
  rw[e3]
  generalize hx:nthD l i.toNat sF.dflt=x at*
  refine⟨by omega,by omega,by omega,fun h1=>nope ⟨x,hm,?_⟩,fun h1=>⟨fun h2=>nope ⟨x,hm,?_⟩,fun h2=>⟨⟨⟨d1,d2⟩,by omega,by omega⟩,fun h3=>nope ⟨x,hm,?_⟩,fun h3=>⟨by omega,⟨⟨by omega,by omega⟩,fun j hj2=>?_⟩,by omega⟩⟩⟩⟩
  ·have:¬x.2.1.length≤3:=by omega
   simp[okS,this]
  ·have:¬x.2.2.length≤3:=by omega
   simp[okS,this]
  ·simp[okS,h3]
  ·by_cases hji:(j:Int)<i
   ·exact hj j hji
   ·have:j=i.toNat:=by omega
    subst this
    rw[hx]
    have h4:x.2.1.length≤3:=by omega
    have h5:x.2.2.length≤3:=by omega
    simp[okS,h3,h4,h5]
 ·unfold smallB
  have:l.all okS=true:=by
   rw[List.all_eq_true]
   intro x hx
   obtain⟨j,hj2,rfl⟩:=List.getElem_of_mem hx
   have:=hj j (by omega)
   rwa [nthD_eq hj2] at this
  rw[this,Bool.true_and,Bool.eq_iff_iff,decide_eq_true_eq,decide_eq_true_eq]
  omega
theorem blk_top {V T:List Int} {l:List Fra}:∀{k:Nat},(((blkU V T l k).g=0∧(blkU V T l k).m=0∧(blkU V T l k).w=0)∨(0<(blkU V T l k).g∧∃j,j<k∧(blkU V T l k).g=gainQ V l j (nthD T j 0)))∧∀j:Nat,j<k→gainQ V l j (nthD T j 0)≤(blkU V T l k).g
 |0=>⟨.inl ⟨rfl,rfl,rfl⟩,fun j hj=>absurd hj (Nat.not_lt_zero _)⟩
 |k+1=>by
  obtain⟨h1,h2⟩:=@blk_top V T l k
  have h0:0≤(blkU V T l k).g:=by
   rcases h1 with h|h
   ·rw[h.1];exact Rat.le_refl
   ·have:=h.1;grind
  rw[blkU_succ]
  by_cases h:(blkU V T l k).g<gainQ V l k (nthD T k 0)
  ·rw[if_pos h]
   refine⟨.inr ⟨by simp only;grind,k,by omega,rfl⟩,fun j hj=>?_⟩
   simp only
   by_cases hjk:j=k
   ·subst hjk;exact Rat.le_refl
   ·have:=h2 j (by omega)
    grind
  ·rw[if_neg h]
   refine⟨?_,fun j hj=>?_⟩
   ·rcases h1 with h1|⟨h3,j,h4,h5⟩
    ·exact .inl h1
    ·exact .inr ⟨h3,j,by omega,h5⟩
   ·by_cases hjk:j=k
    ·subst hjk;grind
    ·exact h2 j (by omega)
theorem core_iff {p:Prob} {c:List Int} {l:List Fra} (hb:blkE p c l=0):coreE p c l=0↔ratB p c l=true∧¬0<(blkS p c l).g:=by
 unfold coreE
 rw[if_neg (by omega)]
 by_cases hr:ratB p c l=true
 ·rw[if_neg (by rw[hr];decide)]
  have ht:=(@blk_top (valsS p c) (tabS p) l (tabS p).length).1
  by_cases hg:0<(blkS p c l).g
  ·rw[if_pos (.inr hg)]
   constructor
   ·intro h;omega
   ·intro h;exact absurd hg h.2
  ·have hx:¬(((blkS p c l).m≠0∨(blkS p c l).w≠0)∨0<(blkS p c l).g):=by
    rcases ht with ht|ht
    ·rintro((h|h)|h)
     ·exact h ht.2.1
     ·exact h ht.2.2
     ·exact hg h
    ·exact absurd ht.1 hg
   rw[if_neg hx]
   simp[hr,hg]
 ·have hr':ratB p c l=false:=by simpa using hr
  rw[if_pos hr']
  constructor
  ·intro h;omega
  ·intro h;exact absurd h.1 hr
theorem lst_top {V T:List Int} {q:Int}:∀{k:Nat},(lstU V T q k=0∨(0<lstU V T q k∧∃m,m<k∧pU V m=q∧lstU V T q k=lU V m (nthD T m 0)))∧∀m:Nat,m<k→pU V m=q→lU V m (nthD T m 0)≤lstU V T q k
 |0=>⟨.inl rfl,fun j hj=>absurd hj (Nat.not_lt_zero _)⟩
 |k+1=>by
  obtain⟨h1,h2⟩:=@lst_top V T q k
  have h0:0≤lstU V T q k:=by
   rcases h1 with h|h
   ·omega
   ·omega
  rw[lstU_succ]
  by_cases h:pU V k=q
  ·rw[if_pos h]
   refine⟨?_,fun m hm hq=>?_⟩
   ·by_cases hle:lU V k (nthD T k 0)≤lstU V T q k
    ·rw[Int.max_eq_left hle]
     rcases h1 with h1|⟨h3,j,h4,h5⟩
     ·exact .inl h1
     ·exact .inr ⟨h3,j,by omega,h5⟩
    ·rw[Int.max_eq_right (by omega)]
     exact .inr ⟨by omega,k,by omega,h,rfl⟩
   ·by_cases hmk:m=k
    ·subst hmk;omega
    ·have:=h2 m (by omega) hq
     omega
  ·rw[if_neg h]
   refine⟨?_,fun m hm hq=>?_⟩
   ·rcases h1 with h1|⟨h3,j,h4,h5⟩
    ·exact .inl h1
    ·exact .inr ⟨h3,j,by omega,h5⟩
   ·by_cases hmk:m=k
    ·subst hmk;exact absurd hq h
    ·exact h2 m (by omega) hq
def holdsB (N:List Need) (l:List Fra):Bool:=N.all fun n=>decide (((n.least:Int):Rat)≤paidQ l n.payers l.length)
theorem need_mem {V T:List Int} {n:Nat} {x:Need}:x∈needU V T n↔∃q:Nat,q<n∧0<lstU V T q T.length∧x=⟨(q:Int),lstU V T q T.length⟩:=by
 unfold needU
 rw[List.mem_filterMap]
 constructor
 ·rintro⟨q,hq,h⟩
  split at h
  ·rename_i h1
   simp only[Option.some.injEq] at h
   exact⟨q,List.mem_range.1 hq,h1,h.symm⟩
  ·cases h
 ·rintro⟨q,hq,h1,rfl⟩
  exact⟨q,List.mem_range.2 hq,by rw[if_pos h1]⟩
theorem paid_nn {l:List Fra} {m:Int} (h:∀j:Nat,j<l.length→0≤valF (nthD l j sF.dflt)):∀{n:Nat},n≤l.length→0≤paidQ l m n
 |0,_=>by
  show(0:Rat)≤0
  exact Rat.le_refl
 |n+1,hn=>by
  have h1:=@paid_nn l m h n (by omega)
  have h2:=h n (by omega)
  rw[paidQ_succ]
  split
  ·grind
  ·exact h1
theorem rat_nn {p:Prob} {c:List Int} {l:List Fra} (h:ratB p c l=true):∀j:Nat,j<l.length→0≤valF (nthD l j sF.dflt):=fun j hj=>by
 have:=(ratB_iff.1 h).2.2 j hj
 unfold rat1 at this
 simp only[Bool.and_eq_true,decide_eq_true_eq] at this
 exact this.1
theorem holds_iff {p:Prob} {c:List Int} {l:List Fra} (hb:blkE p c l=0) (hr:ratB p c l=true):holdsB (needS p c) l=true↔¬0<(blkS p c l).g:=by
 obtain⟨hz,hl⟩:=blkE_zero hb
 obtain⟨hf,hc⟩:=faultC_zero hz
 obtain⟨hV,h8,hv⟩:=vals_good hf
 obtain⟨hT,ht⟩:=tabS_ok (good_of hc)
 obtain⟨t1,t2⟩:=@blk_top (valsS p c) (tabS p) l (tabS p).length
 have hnn:=rat_nn hr
 have hpn:=fun q=>@paid_nn l q hnn l.length (Nat.le_refl _)
 unfold holdsB
 rw[List.all_eq_true]
 constructor
 ·intro h hg
  rcases t1 with t1|⟨_,j,hj,he⟩
  ·have:(blkS p c l).g=0:=t1.1
   rw[this] at hg
   exact absurd hg (by decide)
  ·have he:(blkS p c l).g=gainQ (valsS p c) l j (nthD (tabS p) j 0):=he
   rw[he] at hg
   unfold gainQ at hg
   have hq:=@payU_bd (valsS p c) j (valsS p c).length
   rw[hV] at hq
   have hq0:(((pU (valsS p c) j).toNat:Nat):Int)=pU (valsS p c) j:=by unfold pU;rw[hV];omega
   have l2:=(@lst_top (valsS p c) (tabS p) (pU (valsS p c) j) (tabS p).length).2 j hj rfl
   by_cases h0:lU (valsS p c) j (nthD (tabS p) j 0)≤0
   ·have h1:=hpn (pU (valsS p c) j)
    have h2:((lU (valsS p c) j (nthD (tabS p) j 0):Int):Rat)≤((0:Int):Rat):=Rat.intCast_le_intCast.2 h0
    have h3:((0:Int):Rat)=0:=rfl
    grind
   ·have h4:=h ⟨pU (valsS p c) j,lstU (valsS p c) (tabS p) (pU (valsS p c) j) (tabS p).length⟩ (need_mem.2 ⟨(pU (valsS p c) j).toNat,by unfold pU;rw[hV];omega,by rw[hq0];omega,by rw[hq0]⟩)
    have h4:=of_decide_eq_true h4
    have h5:((lU (valsS p c) j (nthD (tabS p) j 0):Int):Rat)≤((lstU (valsS p c) (tabS p) (pU (valsS p c) j) (tabS p).length:Int):Rat):=Rat.intCast_le_intCast.2 l2
    simp only at h4
    grind
 ·intro hg x hx
  obtain⟨q,hq,h0,rfl⟩:=need_mem.1 hx
  refine decide_eq_true ?_
  simp only
  rcases(@lst_top (valsS p c) (tabS p) q (tabS p).length).1 with h1|⟨_,m,hm,hpm,he⟩
  ·omega
  ·have h2:=t2 m hm
   have h3:gainQ (valsS p c) l m (nthD (tabS p) m 0)≤(blkS p c l).g:=h2
   unfold gainQ at h3
   rw[hpm] at h3
   rw[he]
   grind
theorem cmpQ_neg {p q:Rat}:cmpQ p q<0↔p<q:=by
 unfold cmpQ
 by_cases h1:p<q
 ·rw[if_pos h1];simp[h1]
 ·rw[if_neg h1]
  by_cases h2:q<p
  ·rw[if_pos h2];simp[h1]
  ·rw[if_neg h2];simp[h1]
def Λ50 (a:List Need×List Fra):Nat→LoopAnn
 |2=> .inv Int (fun x=>⟨[(0,.row .need a.1),(1,.row sF a.2),(5,.si .i64 x)],[]⟩) (fun s=>iS s 5) (fun x=>(0≤x∧x≤a.1.length)∧∀j:Nat,(j:Int)<x→(((nthD a.1 j SId.need.dflt).least:Int):Rat)≤paidQ a.2 (nthD a.1 j SId.need.dflt).payers a.2.length) (fun x=>(a.1.length - x).toNat) fun x k=>match k with
   |6=> .inv (Int×Fra) (fun y=>⟨[(0,.row .need a.1),(1,.row sF a.2),(5,.si .i64 x),(6,.ptr 0 0 3),(7,.si .i64 y.1)],[fCells y.2]⟩) (fun s=>(iS s 7,cS sF s 0 0))
     (fun y=>(0≤y.1∧y.1≤a.2.length)∧y.2=frE (paidQ a.2 (nthD a.1 x.toNat SId.need.dflt).payers y.1.toNat)) (fun y=>(a.2.length - y.1).toNat) fun _ _=> .look
   |_=> .look
 |_=> .look
def needD (N:List Need):Prop:=N.length≤1000∧∀n∈N,(0≤n.payers∧n.payers≤9223372036854775807)∧ -9223372036854775808≤n.least∧n.least≤9223372036854775807
def r50:SCtr:=⟨50,List Need×List Fra,.cons (codR .need) (.one (codR sF)),fun a=>needD a.1∧payOk a.2,fun a=> .sb (holdsB a.1 a.2)⟩
theorem h50:Holds Try.prog r50:=by
 refine con (L:=[r51,r102,r52,r53]) r50 F50 Λ50 (OwnOK.none _) (by simpa using⟨h51,h102,h52,h53⟩) (by kernel_rfl) (by kernel_rfl) (fun _=>rfl) ?_
 rintro⟨N,l⟩ ⟨hN,hl⟩
 refine vcOf (let z0:=(↑N.length:Int);let z1:=SId.need.dflt;let z2:=SV.ptr 0 0 3;let z3:=frE (IntCast.intCast (0:Int));let z4:=SId.i .u32;let z5:=SObj.cells [SV.sb z3.fst,SV.row z4 z3.snd.fst,SV.row z4 z3.snd.snd] 66 3 false;let z6:=(↑l.length:Int);((((SV.row SId.need N).same (SV.row SId.need N)∧(SV.row sF l).same (SV.row sF l)∧(SV.il .i64 0).same (SV.si .i64 0)∧True)∧True)∧((0:Int)≤(0:Int)∧(0:Int)≤z0)∧∀(j:Nat),(↑j:Int)<(0:Int)→IntCast.intCast (nthD N j z1).least≤paidQ l (nthD N j z1).payers l.length)∧∀(x:Int),let z7:=decide (x<(↑N.length:Int));let z8:=(nthD N x.toNat z1).payers;let z9:=(nthD N x.toNat z1).least;let z10:=frE (IntCast.intCast z9);let z11:=(z10.fst,z10.snd.fst,z10.snd.snd);let z12:=x+(1:Int);let z13:=SV.si .i64 z12;(((0:Int)≤x∧x≤z0)∧∀(j:Nat),(↑j:Int)<x→IntCast.intCast (nthD N j z1).least≤paidQ l (nthD N j z1).payers l.length)→(z7=true→((-9223372036854775808:Int)≤(0:Int)∧(0:Int)≤(9223372036854775807:Int))∧((((SV.row SId.need N).same (SV.row SId.need N)∧(SV.row sF l).same (SV.row sF l)∧(SV.si .i64 x).same (SV.si .i64 x)∧z2.same z2∧(SV.il .i64 0).same (SV.si .i64 0)∧True)∧z5.same z5∧True)∧((0:Int)≤(0:Int)∧(0:Int)≤z6)∧(z3.fst,z3.snd.fst,z3.snd.snd)=frE (paidQ l z8 0))∧∀(x_1:Int×Fra),let z14:=decide (x_1.fst<(↑l.length:Int));let z15:=(x_1.snd.fst,x_1.snd.snd.fst,x_1.snd.snd.snd);let z16:=nthD l x_1.fst.toNat sF.dflt;let z17:=(z16.fst,z16.snd.fst,z16.snd.snd);let z18:=x_1.fst+(1:Int);let z19:=SV.si .i64 x;let z20:=SV.si .i64 z18;let z21:=frE (valF z15+valF z17);let z22:=SObj.cells [SV.sb z21.fst,SV.row z4 z21.snd.fst,SV.row z4 z21.snd.snd] 66 3 false;let z23:=frE (paidQ l z8 z18.toNat);let z24:=SObj.cells [SV.sb x_1.snd.fst,SV.row z4 x_1.snd.snd.fst,SV.row z4 x_1.snd.snd.snd] 66 3 false;let z25:=decide (cmpQ (valF z15) (valF z11)<(0:Int));((0:Int)≤x_1.fst∧x_1.fst≤z6)∧x_1.snd=frE (paidQ l z8 x_1.fst.toNat)→(z14=true→(0:Int)≤x∧x<(↑N.length:Int)∧x.toNat<N.length∧(((0:Int)≤z8∧z8≤(9223372036854775807:Int))∧(0:Int)≤x_1.fst∧x_1.fst≤(9223372036854775806:Int))∧(hasI z8 x_1.fst=true→(0:Int)≤x_1.fst∧x_1.fst<(↑l.length:Int)∧x_1.fst.toNat<l.length∧(isG z15∧isG z17)∧inR .i64 z18∧(((SV.row SId.need N).same (SV.row SId.need N)∧(SV.row sF l).same (SV.row sF l)∧z19.same z19∧z2.same z2∧z20.same z20∧True)∧z22.same z22∧True)∧(((0:Int)≤z18∧z18≤z6)∧(z21.fst,z21.snd.fst,z21.snd.snd)=z23)∧(z6 - z18).toNat<(z6 - x_1.fst).toNat)∧(hasI z8 x_1.fst=false→inR .i64 z18∧(((SV.row SId.need N).same (SV.row SId.need N)∧(SV.row sF l).same (SV.row sF l)∧z19.same z19∧z2.same z2∧z20.same z20∧True)∧z24.same z24∧True)∧(((0:Int)≤z18∧z18≤z6)∧z15=z23)∧(z6 - z18).toNat<(z6 - x_1.fst).toNat))∧(z14=false→(0:Int)≤x∧x<(↑N.length:Int)∧x.toNat<N.length∧((-9223372036854775808:Int)≤z9∧z9≤(9223372036854775807:Int))∧(isG z15∧isG z11)∧(z25=true→(SV.bl false).same (SV.sb (holdsB N l)))∧(z25=false→inR .i64 z12∧(((SV.row SId.need N).same (SV.row SId.need N)∧(SV.row sF l).same (SV.row sF l)∧z13.same z13∧True)∧True)∧(((0:Int)≤z12∧z12≤z0)∧∀(j:Nat),(↑j:Int)<z12→IntCast.intCast (nthD N j z1).least≤paidQ l (nthD N j z1).payers l.length)∧(z0 - z12).toNat<(z0 - x).toNat)))∧(z7=false→(SV.bl true).same (SV.sb (holdsB N l)))) (by kernel_rfl) ?_
 simp only[vcs]
 have hN:needD N:=hN
 have hl:payOk l:=hl
 have hll:=hl.1
 have hNl:=hN.1
 have e2:∀q:Rat,valF ((frE q).1,(frE q).2.1,(frE q).2.2)=q:=valF_frE
 have e3:∀q:Rat,((frE q).1,(frE q).2.1,(frE q).2.2)=frE q:=fun _=>rfl
 have nope:(∃x∈N,¬((x.least:Int):Rat)≤paidQ l x.payers l.length)→false=holdsB N l:=fun⟨x,hx,h⟩=>by
  cases hb:holdsB N l with
  |false=>rfl
  |true=>
   unfold holdsB at hb
   rw[List.all_eq_true] at hb
   exact absurd (of_decide_eq_true (hb x hx)) h
 refine⟨⟨⟨by omega,by omega⟩,fun j hj=>by omega⟩,?_⟩
 rintro i ⟨⟨i0,i1⟩,hj⟩
 refine⟨fun hi=>?_,fun hi=>?_⟩
 ·have hm:=nthD_mem (d:=SId.need.dflt) (show i.toNat<N.length by omega)
  obtain⟨⟨q0,q1⟩,w0,w1⟩:=hN.2 _ hm
  generalize hx:nthD N i.toNat SId.need.dflt=x at*
  refine⟨by omega,⟨⟨by omega,by omega⟩,?_⟩,?_⟩
  ·rw[e3]
   rfl
  rintro⟨k,s⟩ ⟨⟨k0,k1⟩,hs⟩
  simp only at k0 k1 hs ⊢
  subst hs
  have e:(k+1).toNat=k.toNat+1:=by omega
  have ek:((k.toNat:Nat):Int)=k:=by omega
  have hsu:=@paidQ_succ l x.payers k.toNat
  rw[ek] at hsu
  have hz:=@paidQ_sz l x.payers hl k.toNat (by omega)
  simp only[e2,e3]
  refine⟨fun hk=>⟨by omega,by omega,by omega,⟨⟨q0,q1⟩,by omega,by omega⟩,fun h1=>?_,fun h1=>?_⟩,fun hk=>?_⟩
  ·obtain⟨q,hq,hsz⟩:=payOk_get hl (show k.toNat<l.length by omega)
   rw[if_pos h1] at hsu
   have e4:((nthD l k.toNat sF.dflt).1,(nthD l k.toNat sF.dflt).2.1,(nthD l k.toNat sF.dflt).2.2)=nthD l k.toNat sF.dflt:=rfl
   rw[e4,e,hsu]
   refine⟨by omega,by omega,by omega,⟨⟨_,_,rfl,hz,by omega⟩,⟨q,3,hq,hsz,by omega⟩⟩,by omega,⟨⟨by omega,by omega⟩,rfl⟩,by omega⟩
  ·rw[if_neg (by rw[h1];decide)] at hsu
   rw[e,hsu]
   refine⟨by omega,⟨⟨by omega,by omega⟩,rfl⟩,by omega⟩
  ·rw[show k.toNat=l.length by omega] at hz ⊢
   refine⟨by omega,by omega,by omega,⟨w0,w1⟩,⟨⟨_,_,rfl,hz,by omega⟩,⟨_,2,rfl,szI w0 w1,by omega⟩⟩,fun h2=>nope ⟨x,hm,fun h3=>?_⟩,fun h2=>⟨by omega,⟨⟨by omega,by omega⟩,fun j hj2=>?_⟩,by omega⟩⟩
   ·rw[cmpQ_neg] at h2
    exact absurd h2 (Rat.not_lt.2 h3)
   ·by_cases hji:(j:Int)<i
    ·exact hj j hji
    ·have:j=i.toNat:=by omega
     subst this
     rw[hx]
     rw[cmpQ_neg] at h2
     exact Rat.not_lt.1 h2
 ·unfold holdsB
  symm
  rw[List.all_eq_true]
  intro x hx
  obtain⟨j,hj2,rfl⟩:=List.getElem_of_mem hx
  have:=hj j (by omega)
  rw[nthD_eq hj2] at this
  exact decide_eq_true this
theorem need_dom {p:Prob} {c:List Int} (hz:faultC p c=0):needD (needS p c):=by
 have h1:=need_len hz
 obtain⟨hf,hc⟩:=faultC_zero hz
 obtain⟨hV,h8,hv⟩:=vals_good hf
 obtain⟨hT,ht⟩:=tabS_ok (good_of hc)
 have hp8:=pow8 h8
 refine⟨by omega,fun x hx=>?_⟩
 obtain⟨q,hq,h0,rfl⟩:=need_mem.1 hx
 simp only
 refine⟨⟨by omega,by omega⟩,by omega,?_⟩
 rcases(@lst_top (valsS p c) (tabS p) q (tabS p).length).1 with h2|⟨_,m,hm,hpm,he⟩
 ·omega
 ·have hw:=ht m
  have:=(@leastU_bd (valsS p c) m (nthD (tabS p) m 0) hv (valsS p c).length (by omega)).2
  rw[he]
  unfold lU
  omega
def r12:SCtr:=⟨12,Prob×Alloc×List Fra,.cons codP (.cons codA (.one (codR sF))),fun a=>a.2.1.chosen.length≤9223372036854775807∧rowD a.2.2∧a.2.2.length≤9223372036854775807,fun _=> .sb true⟩
theorem h12:Holds Try.prog r12:=by
 refine con (L:=[r38,r43,r39,r44,r47,r40,r48,r49,r50]) r12 F12 (fun _ _=> .look) (OwnOK.none _) (by simpa using⟨h38,h43,h39,h44,h47,h40,h48,h49,h50⟩) (by kernel_rfl) (by kernel_rfl) (fun _=>rfl) ?_
 rintro⟨p,⟨c,v⟩,l⟩ ⟨h,hd,hl⟩
 refine vcOf (let z0:=!(decide (p.offers.length≤12)&&decide (p.classes.length≤6));let z1:=decide (blkE p c l≠(0:Int));let z2:=decide (coreE p c l=blkE p c l);let z3:=if blkE p c l=(0:Int) then frE (blkS p c l).g else(false,[],[]);let z4:=(z3.fst,z3.snd.fst,z3.snd.snd);let z5:=decide (faultC p c=(0:Int));let z6:=decide ((0:Int)<sgnQ (valF z4));let z7:=decide (coreE p c l=(0:Int));let z8:=if faultC p c=(0:Int) then needS p c else[];let z9:=decide ((if blkE p c l=(0:Int) then(blkS p c l).m else(0:Int))=(0:Int))&&(decide ((if blkE p c l=(0:Int) then(blkS p c l).w else(0:Int))=(0:Int))&&true);True∧(z0=true→True∧(SV.sb true).same (SV.sb true))∧(z0=false→(rowD l∧l.length≤9223372036854775807)∧((!smallB l)=true→True∧(SV.sb true).same (SV.sb true))∧((!smallB l)=false→(c.length≤9223372036854775807∧payOk l)∧(z1=true→(c.length≤9223372036854775807∧payOk l)∧(z2=true→True∧(SV.sb true).same (SV.sb true))∧(z2=false→(SV.bl false).same (SV.sb true)))∧(z1=false→c.length≤9223372036854775807∧(c.length≤9223372036854775807∧payOk l)∧isF z4∧(z5=true→(z6=true→(c.length≤9223372036854775807∧payOk l)∧(ratB p c l=true→((z7==!z6)=true→(c.length≤9223372036854775807∧payOk l)∧(ratB p c l=true→(needD z8∧payOk l)∧((z7==holdsB z8 l)=true→True∧(SV.sb true).same (SV.sb true))∧((z7==holdsB z8 l)=false→(SV.bl false).same (SV.sb true)))∧(ratB p c l=false→((z7==false)=true→True∧(SV.sb true).same (SV.sb true))∧((z7==false)=false→(SV.bl false).same (SV.sb true))))∧((z7==!z6)=false→(SV.bl false).same (SV.sb true)))∧(ratB p c l=false→((z7==false)=true→(c.length≤9223372036854775807∧payOk l)∧(ratB p c l=true→(needD z8∧payOk l)∧((z7==holdsB z8 l)=true→True∧(SV.sb true).same (SV.sb true))∧((z7==holdsB z8 l)=false→(SV.bl false).same (SV.sb true)))∧(ratB p c l=false→((z7==false)=true→True∧(SV.sb true).same (SV.sb true))∧((z7==false)=false→(SV.bl false).same (SV.sb true))))∧((z7==false)=false→(SV.bl false).same (SV.sb true))))∧(z6=false→(z9=true→(c.length≤9223372036854775807∧payOk l)∧(ratB p c l=true→((z7==!z6)=true→(c.length≤9223372036854775807∧payOk l)∧(ratB p c l=true→(needD z8∧payOk l)∧((z7==holdsB z8 l)=true→True∧(SV.sb true).same (SV.sb true))∧((z7==holdsB z8 l)=false→(SV.bl false).same (SV.sb true)))∧(ratB p c l=false→((z7==false)=true→True∧(SV.sb true).same (SV.sb true))∧((z7==false)=false→(SV.bl false).same (SV.sb true))))∧((z7==!z6)=false→(SV.bl false).same (SV.sb true)))∧(ratB p c l=false→((z7==false)=true→(c.length≤9223372036854775807∧payOk l)∧(ratB p c l=true→(needD z8∧payOk l)∧((z7==holdsB z8 l)=true→True∧(SV.sb true).same (SV.sb true))∧((z7==holdsB z8 l)=false→(SV.bl false).same (SV.sb true)))∧(ratB p c l=false→((z7==false)=true→True∧(SV.sb true).same (SV.sb true))∧((z7==false)=false→(SV.bl false).same (SV.sb true))))∧((z7==false)=false→(SV.bl false).same (SV.sb true))))∧(z9=false→(SV.bl false).same (SV.sb true))))∧(z5=false→(SV.bl false).same (SV.sb true)))))) (by kernel_rfl) ?_
 simp only[vcs]
 have h:c.length≤9223372036854775807:=h
 have hd:rowD l:=hd
 have hl:l.length≤9223372036854775807:=hl
 refine⟨fun _=>trivial,fun hf=>⟨⟨hd,hl⟩,fun _=>trivial,fun hs=>?_⟩⟩
 have hp:=small_pay hd hs
 by_cases hb:blkE p c l=0
 ·have hz:=(blkE_zero hb).1
  have hE:=core_iff hb
  have hsz:=blkS_sz hb hp
  have hF:isF ((frE (blkS p c l).g).1,(frE (blkS p c l).g).2.1,(frE (blkS p c l).g).2.2):=⟨_,44,rfl,hsz,by omega⟩
  have hN:=need_dom hz
  have ht:=(@blk_top (valsS p c) (tabS p) l (tabS p).length).1
  have e2:∀q:Rat,valF ((frE q).1,(frE q).2.1,(frE q).2.2)=q:=valF_frE
  simp only[hb,hz,if_true,e2,sgn_pos]
  by_cases hr:ratB p c l=true
  ·have hH:=holds_iff hb hr
   by_cases hg:0<(blkS p c l).g
   ·have h1:¬coreE p c l=0:=fun h=>(hE.1 h).2 hg
    have h2:holdsB (needS p c) l=false:=by
     cases hq:holdsB (needS p c) l with
     |false=>rfl
     |true=>exact absurd hg (hH.1 hq)
    simp[h,hp,hF,hN,hr,hg,h1,h2]
   ·have h1:coreE p c l=0:=hE.2 ⟨hr,hg⟩
    have h2:holdsB (needS p c) l=true:=hH.2 hg
    have h3:(blkS p c l).m=0∧(blkS p c l).w=0:=by
     rcases ht with ht|ht
     ·exact ht.2
     ·exact absurd ht.1 hg
    simp[h,hp,hF,hN,hr,hg,h1,h2,h3.1,h3.2]
  ·have h1:¬coreE p c l=0:=fun h=>hr (hE.1 h).1
   have hr':ratB p c l=false:=by simpa using hr
   by_cases hg:0<(blkS p c l).g
   ·simp[h,hp,hF,hN,hr',hg,h1]
   ·have h3:(blkS p c l).m=0∧(blkS p c l).w=0:=by
     rcases ht with ht|ht
     ·exact ht.2
     ·exact absurd ht.1 hg
    simp[h,hp,hF,hN,hr',hg,h1,h3.1,h3.2]
 ·have hc:coreE p c l=blkE p c l:=by
   unfold coreE
   rw[if_pos hb]
  refine⟨⟨h,hp⟩,fun _=>⟨⟨h,hp⟩,fun _=>trivial,fun hh=>absurd hc hh⟩,fun hh=>absurd hb (by simpa using hh)⟩
end Go.Vi
