/-
  Contracts: the coalition that blocks the payments the most (the program and the reference).
  Conditions: none.
-/
import Derived.Test.YtigbjjkijfkeeaaOW06
import Derived.Test.YtigbjjkijfkeeaaOW07
import Derived.Test.YtigbjjkijfkeeaaOW08
import Derived.Test.YtigbjjkijfkeeaaOW09
set_option maxRecDepth 100000
set_option maxHeartbeats 4000000
set_option linter.unusedSimpArgs false
set_option linter.unusedVariables false
namespace Go.Vi
open Go.Proofs.Ytigbjjkijfkeeaa.Ir
open Go.Proofs
structure Blk where
 m:Int
 w:Int
 g:Rat
def blkU (V T:List Int) (l:List Fra) (k:Nat):Blk:=(List.range k).foldl (fun(s:Blk) (m:Nat)=>if s.g<gainQ V l m (nthD T m 0) then⟨m,nthD T m 0,gainQ V l m (nthD T m 0)⟩ else s) ⟨0,0,0⟩
theorem blkU_succ {V T:List Int} {l:List Fra} {k:Nat}:blkU V T l (k+1)=if(blkU V T l k).g<gainQ V l k (nthD T k 0) then⟨k,nthD T k 0,gainQ V l k (nthD T k 0)⟩ else blkU V T l k:=by
 unfold blkU
 rw[List.range_succ,List.foldl_append]
 rfl
def blkE (p:Prob) (c:List Int) (l:List Fra):Int:=if faultC p c≠0 then faultC p c else if l.length≠p.classes.length then 3 else 0
def blkS (p:Prob) (c:List Int) (l:List Fra):Blk:=blkU (valsS p c) (tabS p) l (tabS p).length
def r44:SCtr:=⟨44,Prob×Alloc×List Fra,.cons codP (.cons codA (.one (codR sF))),fun a=>a.2.1.chosen.length≤9223372036854775807∧payOk a.2.2,
 fun a=> .tup [.agg [.si .i64 (if blkE a.1 a.2.1.chosen a.2.2=0 then(blkS a.1 a.2.1.chosen a.2.2).m else 0),.si .i64 (if blkE a.1 a.2.1.chosen a.2.2=0 then(blkS a.1 a.2.1.chosen a.2.2).w else 0)],.agg (encS sF (if blkE a.1 a.2.1.chosen a.2.2=0 then frE (blkS a.1 a.2.1.chosen a.2.2).g else(false,([],[])))),.si .i64 (blkE a.1 a.2.1.chosen a.2.2)]⟩
def st44 (a:Prob×Alloc×List Fra) (x:Int×Int×Fra):SStore:=[.cells a.1.ss 27 20 false,.cells [.row (.i .i64) a.2.1.chosen,.si .i64 a.2.1.value] 31 2 false,.cells [.row sF a.2.2] 59 1 false,.cells [.il .i64 0,.il .i64 0] 62 2 false,nilF,
 .cells [.si .i64 x.1,.si .i64 x.2.1] 62 2 false,fCells x.2.2,
 .cells [.row (.i .i64) (if faultC a.1 a.2.1.chosen=0 then tabS a.1 else[])] 32 1 false,.cells [.row (.i .i64) (if faultC a.1 a.2.1.chosen=0 then valsS a.1 a.2.1.chosen else[])] 32 1 false]
def Λ44 (a:Prob×Alloc×List Fra):Nat→LoopAnn
 |1001=> .inv (Int×Int×Int×Fra) (fun x=>⟨[(0,.fn (.yield 0) [] []),(2,.ptr 8 0 1),(9,.row (.i .i64) (if faultC a.1 a.2.1.chosen=0 then tabS a.1 else[])),(10,.si .i64 (if faultC a.1 a.2.1.chosen=0 then tabS a.1 else[]).length),(11,.si .i64 x.1)],st44 a x.2⟩)
   (fun s=>(iS s 11,cS (.i .i64) s 5 0,cS (.i .i64) s 5 1,cS sF s 6 0)) (fun x=>(0≤x.1∧x.1≤(tabS a.1).length)∧x.2.1=(blkU (valsS a.1 a.2.1.chosen) (tabS a.1) a.2.2 x.1.toNat).m∧x.2.2.1=(blkU (valsS a.1 a.2.1.chosen) (tabS a.1) a.2.2 x.1.toNat).w∧x.2.2.2=frE (blkU (valsS a.1 a.2.1.chosen) (tabS a.1) a.2.2 x.1.toNat).g) (fun x=>((tabS a.1).length - x.1).toNat) fun x k=>match k with
    |5=> .inv (Int×Int×Int) (fun y=>⟨[(0,.fn (.yield 0) [] []),(2,.ptr 8 0 1),(4,.si .i64 x.1),(6,.ptr 9 0 4),(9,.row (.i .i64) (if faultC a.1 a.2.1.chosen=0 then tabS a.1 else[])),(10,.si .i64 (if faultC a.1 a.2.1.chosen=0 then tabS a.1 else[]).length),(11,.si .i64 x.1),
      (22,.row (.i .i64) (if faultC a.1 a.2.1.chosen=0 then valsS a.1 a.2.1.chosen else[])),(23,.si .i64 (if faultC a.1 a.2.1.chosen=0 then valsS a.1 a.2.1.chosen else[]).length),(24,.si .i64 y.1)],
      st44 a x.2++[.cells [.si .i64 x.1,.si .i64 (nthD (if faultC a.1 a.2.1.chosen=0 then tabS a.1 else[]) x.1.toNat 0),.si .i64 y.2.1,.si .i64 y.2.2] 120 4 false]⟩)
      (fun s=>(iS s 24,cS (.i .i64) s 9 2,cS (.i .i64) s 9 3)) (fun y=>(0≤y.1∧y.1≤(valsS a.1 a.2.1.chosen).length)∧y.2.1=payU (valsS a.1 a.2.1.chosen) x.1 y.1.toNat∧y.2.2=leastU (valsS a.1 a.2.1.chosen) x.1 (nthD (tabS a.1) x.1.toNat 0) y.1.toNat) (fun y=>((valsS a.1 a.2.1.chosen).length - y.1).toNat) fun _ _=> .look
    |_=> .look
 |_=> .look
theorem cmpQ_pos {p q:Rat}:0<cmpQ p q↔q<p:=by
 unfold cmpQ
 by_cases h1:p<q
 ·rw[if_pos h1]
  constructor
  ·intro h;omega
  ·intro h;exact absurd h1 (by grind)
 ·rw[if_neg h1]
  by_cases h2:q<p
  ·rw[if_pos h2];simp[h2]
  ·rw[if_neg h2];simp[h2]
theorem faultC_len {p:Prob} {c:List Int} {l:List Fra} (hz:faultC p c=0) (hl:l.length=p.classes.length):blkE p c l=0:=by
 unfold blkE
 rw[if_neg (by omega),if_neg (by omega)]
theorem szI {W:Int} (h1: -9223372036854775808≤W) (h2:W≤9223372036854775807):Sz 2 (W:Rat):=by
 unfold Sz
 simp
 omega
theorem gainQ_sz {V T:List Int} {l:List Fra} {m w:Int} (hl:payOk l) (hv:∀v∈V,0≤v∧v≤1000000000000000) (h8:V.length≤8) (w0: -1000000000000000000≤w) (w1:w≤1000000000000000000):Sz 44 (gainQ V l m w):=by
 have hll:=hl.1
 have hb:=@leastU_bd V m w hv V.length (by omega)
 unfold gainQ
 rw[Rat.sub_eq_add_neg]
 exact(sz_add (szI (W:=lU V m w) (by unfold lU;omega) (by unfold lU;omega)) (sz_neg (paidQ_sz hl (Nat.le_refl _)))).mono (by omega)
theorem blkU_sz {V T:List Int} {l:List Fra} (hl:payOk l) (hv:∀v∈V,0≤v∧v≤1000000000000000) (h8:V.length≤8) (ht:∀m:Nat,0≤nthD T m 0∧nthD T m 0≤8000000):∀{k:Nat},Sz 44 (blkU V T l k).g
 |0=>sz_zero.mono (by omega)
 |k+1=>by
  have:=@blkU_sz V T l hl hv h8 ht k
  have hk:=ht k
  rw[blkU_succ]
  split
  ·exact gainQ_sz (T:=T) hl hv h8 (by omega) (by omega)
  ·exact this
theorem h44:Holds Try.prog r44:=by
 refine con (L:=[r87,r94,r96,r95,r97]) (W:=ownT [r88]) r44 F44 Λ44 (ownT_ok (by simpa using h88)) (by simpa using⟨h87,h94,h96,h95,h97⟩) (by kernel_rfl) (by kernel_rfl) (fun _=>rfl) ?_
 rintro⟨p,⟨c,v⟩,l⟩ ⟨h,hl⟩
 refine vcOf (let z0:=decide (faultC p c≠(0:Int));let z1:=SV.il .i64 0;let z2:=SId.i .i64;let z3:=SV.agg [SV.bl false,SV.row z2 [],SV.row z2 []];let z4:=if blkE p c l=(0:Int) then frE (blkS p c l).g else(false,[],[]);let z5:=SId.i .u32;let z6:=SV.tup [SV.agg [SV.si .i64 (if blkE p c l=(0:Int) then(blkS p c l).m else(0:Int)),SV.si .i64 (if blkE p c l=(0:Int) then(blkS p c l).w else(0:Int))],SV.agg [SV.sb z4.fst,SV.row z5 z4.snd.fst,SV.row z5 z4.snd.snd],SV.si .i64 (blkE p c l)];let z7:=if faultC p c=(0:Int) then valsS p c else[];let z8:=decide ((↑l.length:Int)≠(↑z7.length:Int));let z9:=SV.fn (Fn.yield 0) [] [];let z10:=SV.ptr 8 0 1;let z11:=if faultC p c=(0:Int) then tabS p else[];let z12:=if faultC p c=(0:Int) then tabS p else[];let z13:=SV.row z2 z12;let z14:=if faultC p c=(0:Int) then tabS p else[];let z15:=SV.si .i64 (↑z14.length:Int);let z16:=SV.si .i64 0;let z17:=SObj.cells [SV.si .i64 p.supply.a0,SV.si .i64 p.supply.a1,SV.si .i64 p.supply.a2,SV.si .i64 p.supply.a3,SV.si .i64 p.supply.a4,SV.si .i64 p.supply.a5,SV.si .i64 p.opn.a0,SV.si .i64 p.opn.a1,SV.si .i64 p.opn.a2,SV.si .i64 p.opn.a3,SV.si .i64 p.opn.a4,SV.si .i64 p.opn.a5,SV.si .i64 p.cls.a0,SV.si .i64 p.cls.a1,SV.si .i64 p.cls.a2,SV.si .i64 p.cls.a3,SV.si .i64 p.cls.a4,SV.si .i64 p.cls.a5,SV.row z2 p.classes,SV.row SId.off p.offers] 27 20 false;let z18:=SObj.cells [SV.row z2 c,SV.si .i64 v] 31 2 false;let z19:=SObj.cells [SV.row sF l] 59 1 false;let z20:=SObj.cells [z1,z1] 62 2 false;let z21:=SV.sc (Value.slice none 0 0);let z22:=SObj.cells [SV.bl false,z21,z21] 66 3 false;let z23:=frE (IntCast.intCast (0:Int));let z24:=SObj.cells [SV.sb z23.fst,SV.row z5 z23.snd.fst,SV.row z5 z23.snd.snd] 66 3 false;let z25:=SObj.cells [z13] 32 1 false;let z26:=if faultC p c=(0:Int) then valsS p c else[];let z27:=SV.row z2 z26;let z28:=SObj.cells [z27] 32 1 false;let z29:=(↑(tabS p).length:Int);let z30:=blkU (valsS p c) (tabS p) l 0;let z31:=SV.ptr 9 0 4;let z32:=(↑(if faultC p c=(0:Int) then valsS p c else[]).length:Int);let z33:=SV.si .i64 z32;let z34:=(↑(valsS p c).length:Int);c.length≤9223372036854775807∧(z0=true→(SV.tup [SV.agg [z1,z1],z3,SV.si .i64 (faultC p c)]).same z6)∧(z0=false→(z8=true→(SV.tup [SV.agg [z1,z1],z3,SV.il .i64 3]).same z6)∧(z8=false→((-9223372036854775808:Int)≤(0:Int)∧(0:Int)≤(9223372036854775807:Int))∧True∧(((z9.same z9∧z10.same z10∧(SV.row z2 z11).same z13∧(SV.si .i64 (↑z11.length:Int)).same z15∧z1.same z16∧True)∧z17.same z17∧z18.same z18∧z19.same z19∧z20.same z20∧z22.same z22∧z20.same (SObj.cells [z16,z16] 62 2 false)∧z24.same z24∧(SObj.cells [SV.row z2 z11] 32 1 false).same z25∧(SObj.cells [SV.row z2 z7] 32 1 false).same z28∧True)∧((0:Int)≤(0:Int)∧(0:Int)≤z29)∧(0:Int)=z30.m∧(0:Int)=z30.w∧(z23.fst,z23.snd.fst,z23.snd.snd)=frE z30.g)∧∀(x:Int×Int×Int×Fra),let z35:=x.fst.toNat;let z36:=blkU (valsS p c) (tabS p) l z35;let z37:=x.snd.snd.fst;let z38:=x.snd.snd.snd;let z39:=decide (x.fst<(↑z14.length:Int));let z40:=SV.si .i64 x.fst;let z41:=[SV.si .i64 x.snd.fst,SV.si .i64 z37];let z42:=SObj.cells z41 62 2 false;let z43:=[SV.sb z38.fst,SV.row z5 z38.snd.fst,SV.row z5 z38.snd.snd];let z44:=SObj.cells z43 66 3 false;let z45:=nthD z12 z35 (0:Int);let z46:=SV.si .i64 z45;let z47:=nthD z14 z35 (0:Int);let z48:=SV.si .i64 z47;let z49:=nthD (tabS p) z35 (0:Int);let z50:=(z38.fst,z38.snd.fst,z38.snd.snd);let z51:=x.fst+(1:Int);let z52:=SV.si .i64 z51;let z53:=SObj.cells [z40,z48] 62 2 false;let z54:=blkU (valsS p c) (tabS p) l z51.toNat;((0:Int)≤x.fst∧x.fst≤z29)∧x.snd.fst=z36.m∧z37=z36.w∧z38=frE z36.g→(z39=true→(0:Int)≤x.fst∧x.fst<(↑z12.length:Int)∧z35<z12.length∧(((z9.same z9∧z10.same z10∧z40.same z40∧z31.same z31∧z13.same z13∧z15.same z15∧z40.same z40∧z27.same z27∧(SV.si .i64 (↑z26.length:Int)).same z33∧z1.same z16∧True)∧z17.same z17∧z18.same z18∧z19.same z19∧z20.same z20∧z22.same z22∧z42.same z42∧z44.same z44∧z25.same z25∧z28.same z28∧(SObj.cells [z40,z46,z1,z46] 120 4 false).same (SObj.cells [z40,z48,z16,z46] 120 4 false)∧True)∧((0:Int)≤(0:Int)∧(0:Int)≤z34)∧(0:Int)=payU (valsS p c) x.fst 0∧z45=leastU (valsS p c) x.fst z49 0)∧∀(x_1:Int×Int×Int),let z55:=x_1.fst.toNat;let z56:=decide (x_1.fst<z32);let z57:=decide (binK.andI .i64 (x.fst / (2:Int)^z55) (1:Int)=(1:Int));let z58:=nthD z26 z55 (0:Int);let z59:=x_1.snd.snd - z58;let z60:=x_1.fst+(1:Int);let z61:=SV.si .i64 z60;let z62:=SV.si .i64 x_1.snd.fst;let z63:=SObj.cells [z40,z48,z62,SV.si .i64 z59] 120 4 false;let z64:=payU (valsS p c) x.fst z60.toNat;let z65:=leastU (valsS p c) x.fst z49 z60.toNat;let z66:=decide ((0:Int)<z58);let z67:=(1:Int)*(2:Int)^z55;let z68:=binK.orI .i64 x_1.snd.fst z67;let z69:=[SV.si .i64 x_1.snd.snd];let z70:=SObj.cells (z40::z48::SV.si .i64 z68::z69) 120 4 false;let z71:=SObj.cells (z40::z48::z62::z69) 120 4 false;let z72:=frE (IntCast.intCast x_1.snd.snd);let z73:=(z72.fst,z72.snd.fst,z72.snd.snd);let z74:=frE (paidQ l x_1.snd.fst l.length);let z75:=(z74.fst,z74.snd.fst,z74.snd.snd);let z76:=frE (valF z73 - valF z75);let z77:=(z76.fst,z76.snd.fst,z76.snd.snd);let z78:=decide ((0:Int)<cmpQ (valF z77) (valF z50));let z79:=SObj.cells [SV.sb z76.fst,SV.row z5 z76.snd.fst,SV.row z5 z76.snd.snd] 66 3 false;((0:Int)≤x_1.fst∧x_1.fst≤z34)∧x_1.snd.fst=payU (valsS p c) x.fst z55∧x_1.snd.snd=leastU (valsS p c) x.fst z49 z55→(z56=true→(0:Int)≤x_1.fst∧x_1.fst<(↑z26.length:Int)∧z55<z26.length∧(0:Int)≤x_1.fst∧x_1.fst≤(64:Int)∧(z57=true→inR .i64 z59∧inR .i64 z60∧((z9.same z9∧z10.same z10∧z40.same z40∧z31.same z31∧z13.same z13∧z15.same z15∧z40.same z40∧z27.same z27∧z33.same z33∧z61.same z61∧True)∧z17.same z17∧z18.same z18∧z19.same z19∧z20.same z20∧z22.same z22∧z42.same z42∧z44.same z44∧z25.same z25∧z28.same z28∧z63.same z63∧True)∧(((0:Int)≤z60∧z60≤z34)∧x_1.snd.fst=z64∧z59=z65)∧(z34 - z60).toNat<(z34 - x_1.fst).toNat)∧(z57=false→(z66=true→(0:Int)≤x_1.fst∧x_1.fst≤(64:Int)∧inR .i64 z67∧inR .i64 z60∧((z9.same z9∧z10.same z10∧z40.same z40∧z31.same z31∧z13.same z13∧z15.same z15∧z40.same z40∧z27.same z27∧z33.same z33∧z61.same z61∧True)∧z17.same z17∧z18.same z18∧z19.same z19∧z20.same z20∧z22.same z22∧z42.same z42∧z44.same z44∧z25.same z25∧z28.same z28∧z70.same z70∧True)∧(((0:Int)≤z60∧z60≤z34)∧z68=z64∧x_1.snd.snd=z65)∧(z34 - z60).toNat<(z34 - x_1.fst).toNat)∧(z66=false→inR .i64 z60∧((z9.same z9∧z10.same z10∧z40.same z40∧z31.same z31∧z13.same z13∧z15.same z15∧z40.same z40∧z27.same z27∧z33.same z33∧z61.same z61∧True)∧z17.same z17∧z18.same z18∧z19.same z19∧z20.same z20∧z22.same z22∧z42.same z42∧z44.same z44∧z25.same z25∧z28.same z28∧z71.same z71∧True)∧(((0:Int)≤z60∧z60≤z34)∧x_1.snd.fst=z64∧x_1.snd.snd=z65)∧(z34 - z60).toNat<(z34 - x_1.fst).toNat)))∧(z56=false→((-9223372036854775808:Int)≤x_1.snd.snd∧x_1.snd.snd≤(9223372036854775807:Int))∧(payOk l∧(0:Int)≤x_1.snd.fst∧x_1.snd.fst≤(9223372036854775807:Int))∧(isF z73∧isF z75)∧(isF z77∧isF z50)∧(z78=true→inR .i64 z51∧((z9.same z9∧z10.same z10∧z13.same z13∧z15.same z15∧z52.same z52∧True)∧z17.same z17∧z18.same z18∧z19.same z19∧z20.same z20∧z22.same z22∧z53.same z53∧z79.same z79∧z25.same z25∧z28.same z28∧True)∧(((0:Int)≤z51∧z51≤z29)∧x.fst=z54.m∧z47=z54.w∧z77=frE z54.g)∧(z29 - z51).toNat<(z29 - x.fst).toNat)∧(z78=false→inR .i64 z51∧((z9.same z9∧z10.same z10∧z13.same z13∧z15.same z15∧z52.same z52∧True)∧z17.same z17∧z18.same z18∧z19.same z19∧z20.same z20∧z22.same z22∧z42.same z42∧z44.same z44∧z25.same z25∧z28.same z28∧True)∧(((0:Int)≤z51∧z51≤z29)∧x.snd.fst=z54.m∧z37=z54.w∧z50=frE z54.g)∧(z29 - z51).toNat<(z29 - x.fst).toNat)))∧(z39=false→(SV.tup [SV.agg z41,SV.agg z43,z1]).same z6)))) (by kernel_rfl) ?_
 simp only[vcs]
 have hl:payOk l:=hl
 have hll:=hl.1
 have h:c.length≤9223372036854775807:=h
 refine⟨h,fun hne=>?_,fun hz=>?_⟩
 ·have hb:blkE p c l=faultC p c:=by unfold blkE;rw[if_pos hne]
  rw[hb,if_neg hne,if_neg hne,if_neg hne]
  repeat' refine And.intro ?_ ?_
  all_goals first|rfl|trivial
 have hz:faultC p c=0:=by simpa using hz
 obtain⟨hf,hc⟩:=faultC_zero hz
 have hg:=good_of hc
 obtain⟨hV,h8,hv⟩:=vals_good hf
 obtain⟨hT,ht⟩:=tabS_ok hg
 have hp8:=pow8 h8
 simp only[hz,if_true]
 refine⟨fun hne=>?_,fun hle=>?_⟩
 ·have hb:blkE p c l=3:=by unfold blkE;rw[if_neg (by omega),if_pos (by omega)]
  rw[hb]
  repeat' refine And.intro ?_ ?_
  all_goals first|rfl|trivial
 have hle:l.length=p.classes.length:=by omega
 have hb:blkE p c l=0:=faultC_len hz hle
 have hsz:=fun k=>@blkU_sz (valsS p c) (tabS p) l hl hv (by omega) ht k
 simp only[hb,if_true,blkS]
 generalize tabS p=T at*
 generalize valsS p c=V at*
 refine⟨by omega,?_,?_⟩
 ·repeat' refine And.intro ?_ ?_
  all_goals first|omega|rfl|exact congrArg frE (show((0:Int):Rat)=(0:Rat) from rfl)|(simp[blkU];done)
 rintro⟨m,bm,bw,bg⟩ ⟨⟨m0,m1⟩,hbm,hbw,hbg⟩
 simp only at m0 m1 hbm hbw hbg ⊢
 subst hbm
 subst hbw
 subst hbg
 have hw:=ht m.toNat
 have em:((m.toNat:Nat):Int)=m:=by omega
 have em1:(m+1).toNat=m.toNat+1:=by omega
 refine⟨fun hm=>⟨by omega,by omega,by omega,?_,?_⟩,fun hm=>?_⟩
 ·repeat' refine And.intro ?_ ?_
  all_goals first|omega|rfl
 ·rintro⟨i,q,y⟩ ⟨⟨i0,i1⟩,hq,hy⟩
  simp only at i0 i1 hq hy ⊢
  subst hq
  subst hy
  have e:(i+1).toNat=i.toNat+1:=by omega
  have ei:((i.toNat:Nat):Int)=i:=by omega
  have hsp:=@payU_succ V m i.toNat
  have hsl:=@leastU_succ V m (nthD T m.toNat 0) i.toNat
  rw[ei] at hsp hsl
  have hb:=@payU_bd V m i.toNat
  have hl2:=@leastU_bd V m (nthD T m.toNat 0) hv i.toNat (by omega)
  obtain⟨n0,n1⟩:=half_nn (i:=i.toNat) m0
  have ha:binK.andI .i64 (m / 2^i.toNat) 1=m / 2^i.toNat % 2:=and_one n0 (by omega)
  have hI:hasI m i=decide (m / 2^i.toNat % 2=1):=rfl
  rw[ha]
  refine⟨fun hi=>?_,fun hi=>?_⟩
  ·have hx:=hv _ (nthD_mem (d:=0) (show i.toNat<V.length by omega))
   have hp:=pow8 (n:=i.toNat) (by omega)
   rw[e,hsp,hsl,hI]
   refine⟨by omega,by omega,by omega,by omega,by omega,fun h1=>?_,fun h1=>⟨fun h2=>?_,fun h2=>?_⟩⟩
   ·have h1':decide (m / 2^i.toNat % 2=1)=true:=by simpa using h1
    rw[if_neg (fun h=>by rw[h1'] at h;exact absurd h.2 (by decide)),if_pos h1']
    repeat' refine And.intro ?_ ?_
    all_goals first|omega|rfl
   ·have h1':decide (m / 2^i.toNat % 2=1)=false:=by simpa using h1
    have ho:=or_pow hb.1 hb.2 (show i.toNat≤8 by omega)
    rw[ho,if_pos ⟨h2,h1'⟩,if_neg (fun h=>by rw[h1'] at h;exact absurd h (by decide))]
    repeat' refine And.intro ?_ ?_
    all_goals first|omega|rfl
   ·have h1':decide (m / 2^i.toNat % 2=1)=false:=by simpa using h1
    rw[if_neg (fun h=>h2 h.1),if_neg (fun h=>by rw[h1'] at h;exact absurd h (by decide))]
    repeat' refine And.intro ?_ ?_
    all_goals first|omega|rfl
  ·have hiV:i.toNat=V.length:=by omega
   rw[hiV] at hb hl2 ⊢
   have hp9:=pow8 (n:=V.length) (by omega)
   have hP:payU V m V.length<256:=by omega
   have hgs:Sz 44 (gainQ V l m (nthD T m.toNat 0)):=gainQ_sz (T:=T) hl hv (by omega) (by omega) (by omega)
   have e1:valF ((frE (IntCast.intCast (leastU V m (nthD T m.toNat 0) V.length):Rat)).1,(frE (IntCast.intCast (leastU V m (nthD T m.toNat 0) V.length):Rat)).2.1,(frE (IntCast.intCast (leastU V m (nthD T m.toNat 0) V.length):Rat)).2.2) - valF ((frE (paidQ l (payU V m V.length) l.length)).1,(frE (paidQ l (payU V m V.length) l.length)).2.1,(frE (paidQ l (payU V m V.length) l.length)).2.2)=gainQ V l m (nthD T m.toNat 0):=by
    show valF (frE (IntCast.intCast (leastU V m (nthD T m.toNat 0) V.length):Rat)) - valF (frE (paidQ l (payU V m V.length) l.length))=_
    rw[valF_frE,valF_frE]
    rfl
   have e2:∀q:Rat,valF ((frE q).1,(frE q).2.1,(frE q).2.2)=q:=valF_frE
   have hsu:=@blkU_succ V T l m.toNat
   rw[em] at hsu
   have hs2:=hsz m.toNat
   rw[e1]
   simp only[e2,cmpQ_pos]
   rw[em1,hsu]
   refine⟨⟨by omega,by omega⟩,⟨hl,by omega,by omega⟩,⟨⟨_,2,rfl,szI (by omega) (by omega),by omega⟩,⟨_,_,rfl,paidQ_sz hl (Nat.le_refl _),by omega⟩⟩,⟨⟨_,44,rfl,hgs,by omega⟩,⟨_,44,rfl,hs2,by omega⟩⟩,fun hc2=>?_,fun hc2=>?_⟩
   ·rw[if_pos hc2]
    repeat' refine And.intro ?_ ?_
    all_goals first|omega|rfl
   ·rw[if_neg hc2]
    repeat' refine And.intro ?_ ?_
    all_goals first|omega|rfl
 ·rw[show m.toNat=T.length by omega]
  repeat' refine And.intro ?_ ?_
  all_goals first|omega|rfl|trivial
def rat1 (V:List Int) (l:List Fra) (j:Nat):Bool:=decide (0≤valF (nthD l j sF.dflt))&&decide (valF (nthD l j sF.dflt)≤((nthD V j 0:Int):Rat))
def ratB (p:Prob) (c:List Int) (l:List Fra):Bool:=decide (feasE p c=0)&&decide (l.length=p.classes.length)&&(List.range l.length).all (rat1 (valsS p c) l)
theorem ratB_iff {p:Prob} {c:List Int} {l:List Fra}:ratB p c l=true↔feasE p c=0∧l.length=p.classes.length∧∀j:Nat,j<l.length→rat1 (valsS p c) l j=true:=by
 unfold ratB
 simp only[Bool.and_eq_true,decide_eq_true_eq,List.all_eq_true,List.mem_range,and_assoc]
theorem sgn_neg {q:Rat}:sgnQ q<0↔¬0≤q:=by
 unfold sgnQ
 by_cases h1:q<0
 ·rw[if_pos h1]
  have:¬0≤q:=by grind
  simp[this]
 ·rw[if_neg h1]
  have:0≤q:=by grind
  by_cases h2:0<q
  ·rw[if_pos h2];simp[this]
  ·rw[if_neg h2];simp[this]
def r49:SCtr:=⟨49,Prob×Alloc×List Fra,.cons codP (.cons codA (.one (codR sF))),fun a=>a.2.1.chosen.length≤9223372036854775807∧payOk a.2.2,fun a=> .sb (ratB a.1 a.2.1.chosen a.2.2)⟩
def Λ49 (a:Prob×Alloc×List Fra):Nat→LoopAnn
 |7=> .inv Int (fun x=>⟨[(7,.row (.i .i64) (if feasE a.1 a.2.1.chosen=0 then valsS a.1 a.2.1.chosen else[])),(23,.row sF a.2.2),(24,.si .i64 a.2.2.length),(25,.si .i64 x)],[.cells a.1.ss 27 20 false,.cells [.row (.i .i64) a.2.1.chosen,.si .i64 a.2.1.value] 31 2 false]⟩)
   (fun s=>iS s 25) (fun x=>(0≤x∧x≤a.2.2.length)∧∀j:Nat,(j:Int)<x→rat1 (valsS a.1 a.2.1.chosen) a.2.2 j=true) (fun x=>(a.2.2.length - x).toNat) fun _ _=> .look
 |_=> .look
theorem h49:Holds Try.prog r49:=by
 refine con (L:=[r100,r101,r99,r94,r97]) r49 F49 Λ49 (OwnOK.none _) (by simpa using⟨h100,h101,h99,h94,h97⟩) (by kernel_rfl) (by kernel_rfl) (fun _=>rfl) ?_
 rintro⟨p,⟨c,v⟩,l⟩ ⟨h,hl⟩
 refine vcOf (let z0:=decide (feasE p c≠(0:Int));let z1:=(↑l.length:Int);let z2:=if feasE p c=(0:Int) then valsS p c else[];let z3:=decide (z1≠(↑z2.length:Int));let z4:=SId.i .i64;let z5:=if feasE p c=(0:Int) then valsS p c else[];let z6:=SV.row z4 z5;let z7:=(↑l.length:Int);let z8:=SV.si .i64 z7;let z9:=SObj.cells [SV.si .i64 p.supply.a0,SV.si .i64 p.supply.a1,SV.si .i64 p.supply.a2,SV.si .i64 p.supply.a3,SV.si .i64 p.supply.a4,SV.si .i64 p.supply.a5,SV.si .i64 p.opn.a0,SV.si .i64 p.opn.a1,SV.si .i64 p.opn.a2,SV.si .i64 p.opn.a3,SV.si .i64 p.opn.a4,SV.si .i64 p.opn.a5,SV.si .i64 p.cls.a0,SV.si .i64 p.cls.a1,SV.si .i64 p.cls.a2,SV.si .i64 p.cls.a3,SV.si .i64 p.cls.a4,SV.si .i64 p.cls.a5,SV.row z4 p.classes,SV.row SId.off p.offers] 27 20 false;let z10:=SObj.cells [SV.row z4 c,SV.si .i64 v] 31 2 false;c.length≤9223372036854775807∧(z0=true→(SV.bl false).same (SV.sb (ratB p c l)))∧(z0=false→c.length≤9223372036854775807∧(z3=true→(SV.bl false).same (SV.sb (ratB p c l)))∧(z3=false→((((SV.row z4 z2).same z6∧(SV.row sF l).same (SV.row sF l)∧(SV.si .i64 z1).same z8∧(SV.il .i64 0).same (SV.si .i64 0)∧True)∧z9.same z9∧z10.same z10∧True)∧((0:Int)≤(0:Int)∧(0:Int)≤z7)∧∀(j:Nat),(↑j:Int)<(0:Int)→rat1 (valsS p c) l j=true)∧∀(x:Int),let z11:=nthD l x.toNat sF.dflt;let z12:=(z11.fst,z11.snd.fst,z11.snd.snd);let z13:=decide (sgnQ (valF z12)<(0:Int));let z14:=nthD z5 x.toNat (0:Int);let z15:=frE (IntCast.intCast z14);let z16:=(z15.fst,z15.snd.fst,z15.snd.snd);let z17:=decide ((0:Int)<cmpQ (valF z12) (valF z16));let z18:=x+(1:Int);let z19:=SV.si .i64 z18;(((0:Int)≤x∧x≤z7)∧∀(j:Nat),(↑j:Int)<x→rat1 (valsS p c) l j=true)→(decide (x<z7)=true→(0:Int)≤x∧x<z1∧x.toNat<l.length∧isF z12∧(z13=true→(SV.bl false).same (SV.sb (ratB p c l)))∧(z13=false→(0:Int)≤x∧x<(↑z5.length:Int)∧x.toNat<z5.length∧((-9223372036854775808:Int)≤z14∧z14≤(9223372036854775807:Int))∧(isF z12∧isF z16)∧(z17=true→(SV.bl false).same (SV.sb (ratB p c l)))∧(z17=false→inR .i64 z18∧((z6.same z6∧(SV.row sF l).same (SV.row sF l)∧z8.same z8∧z19.same z19∧True)∧z9.same z9∧z10.same z10∧True)∧(((0:Int)≤z18∧z18≤z7)∧∀(j:Nat),(↑j:Int)<z18→rat1 (valsS p c) l j=true)∧(z7 - z18).toNat<(z7 - x).toNat)))∧(decide (x<z7)=false→(SV.bl true).same (SV.sb (ratB p c l)))))) (by kernel_rfl) ?_
 simp only[vcs]
 have hl:payOk l:=hl
 have hll:=hl.1
 have h:c.length≤9223372036854775807:=h
 have nope:(¬(feasE p c=0∧l.length=p.classes.length∧∀j:Nat,j<l.length→rat1 (valsS p c) l j=true))→ratB p c l=false:=fun hn=>by
  cases hb:ratB p c l with
  |false=>rfl
  |true=>exact absurd (ratB_iff.1 hb) hn
 refine⟨h,fun hne=>?_,fun hz=>?_⟩
 ·exact(nope fun h=>hne h.1).symm
 have hz:feasE p c=0:=by simpa using hz
 obtain⟨hV,h8,hv⟩:=vals_good hz
 simp only[hz,if_true]
 refine⟨h,fun hne=>?_,fun hle=>?_⟩
 ·exact(nope fun h=>by omega).symm
 have hle:l.length=p.classes.length:=by omega
 refine⟨⟨⟨by omega,by omega⟩,fun j hj=>by omega⟩,?_⟩
 rintro i ⟨⟨i0,i1⟩,hj⟩
 refine⟨fun hi=>?_,fun hi=>?_⟩
 ·obtain⟨q,hq,hsz⟩:=payOk_get hl (show i.toNat<l.length by omega)
  have hx:=hv _ (nthD_mem (d:=0) (show i.toNat<(valsS p c).length by omega))
  have e1:valF ((nthD l i.toNat sF.dflt).1,(nthD l i.toNat sF.dflt).2.1,(nthD l i.toNat sF.dflt).2.2)=valF (nthD l i.toNat sF.dflt):=rfl
  have e2:∀q:Rat,valF ((frE q).1,(frE q).2.1,(frE q).2.2)=q:=valF_frE
  simp only[e1,e2,cmpQ_pos,sgn_neg]
  have hF:isF ((nthD l i.toNat sF.dflt).1,(nthD l i.toNat sF.dflt).2.1,(nthD l i.toNat sF.dflt).2.2):=⟨q,3,hq,hsz,by omega⟩
  refine⟨by omega,by omega,by omega,hF,fun h1=>?_,fun h1=>⟨by omega,by omega,by omega,⟨by omega,by omega⟩,⟨hF,⟨_,2,rfl,szI (by omega) (by omega),by omega⟩⟩,fun h2=>?_,fun h2=>?_⟩⟩
  ·refine(nope fun h=>h1 ?_).symm
   have:=h.2.2 i.toNat (by omega)
   unfold rat1 at this
   simp only[Bool.and_eq_true,decide_eq_true_eq] at this
   exact this.1
  ·refine(nope fun h=>?_).symm
   have:=h.2.2 i.toNat (by omega)
   unfold rat1 at this
   simp only[Bool.and_eq_true,decide_eq_true_eq] at this
   have h2:((nthD (valsS p c) i.toNat 0:Int):Rat)<valF (nthD l i.toNat sF.dflt):=h2
   have h3:=this.2
   grind
  ·refine⟨by omega,⟨⟨by omega,by omega⟩,fun j hj2=>?_⟩,by omega⟩
   by_cases hji:(j:Int)<i
   ·exact hj j hji
   ·have:j=i.toNat:=by omega
    subst this
    unfold rat1
    simp only[Bool.and_eq_true,decide_eq_true_eq]
    have h1:¬¬0≤valF (nthD l i.toNat sF.dflt):=by simpa using h1
    have h2:¬((nthD (valsS p c) i.toNat 0:Int):Rat)<valF (nthD l i.toNat sF.dflt):=h2
    exact⟨by grind,by grind⟩
 ·exact(ratB_iff.2 ⟨hz,hle,fun j h=>hj j (by omega)⟩).symm
theorem blkE_zero {p:Prob} {c:List Int} {l:List Fra} (h:blkE p c l=0):faultC p c=0∧l.length=p.classes.length:=by
 unfold blkE at h
 split at h
 ·rename_i h1;exact absurd h h1
 ·rename_i h1
  split at h
  ·cases h
  ·rename_i h2
   exact⟨by omega,by omega⟩
theorem blkS_sz {p:Prob} {c:List Int} {l:List Fra} (h:blkE p c l=0) (hl:payOk l):Sz 44 (blkS p c l).g:=by
 obtain⟨hz,_⟩:=blkE_zero h
 obtain⟨hf,hc⟩:=faultC_zero hz
 obtain⟨hV,h8,hv⟩:=vals_good hf
 obtain⟨hT,ht⟩:=tabS_ok (good_of hc)
 exact blkU_sz hl hv (by omega) ht
def coreE (p:Prob) (c:List Int) (l:List Fra):Int:=if blkE p c l≠0 then blkE p c l else if ratB p c l=false then 4 else if((blkS p c l).m≠0∨(blkS p c l).w≠0)∨0<(blkS p c l).g then 13 else 0
theorem sgn_pos {q:Rat}:0<sgnQ q↔0<q:=by
 unfold sgnQ
 by_cases h1:q<0
 ·rw[if_pos h1]
  have:¬0<q:=by grind
  simp[this]
 ·rw[if_neg h1]
  by_cases h2:0<q
  ·rw[if_pos h2];simp[h2]
  ·rw[if_neg h2];simp[h2]
def r47:SCtr:=⟨47,Prob×Alloc×List Fra,.cons codP (.cons codA (.one (codR sF))),fun a=>a.2.1.chosen.length≤9223372036854775807∧payOk a.2.2,fun a=> .si .i64 (coreE a.1 a.2.1.chosen a.2.2)⟩
theorem h47:Holds Try.prog r47:=by
 refine con (L:=[r44,r49,r99]) r47 F47 (fun _ _=> .look) (OwnOK.none _) (by simpa using⟨h44,h49,h99⟩) (by kernel_rfl) (by kernel_rfl) (fun _=>rfl) ?_
 rintro⟨p,⟨c,v⟩,l⟩ ⟨h,hl⟩
 refine vcOf (let z0:=decide (blkE p c l≠(0:Int));let z1:=SV.si .i64 (coreE p c l);let z2:=!(decide ((if blkE p c l=(0:Int) then(blkS p c l).m else(0:Int))=(0:Int))&&(decide ((if blkE p c l=(0:Int) then(blkS p c l).w else(0:Int))=(0:Int))&&true));let z3:=if blkE p c l=(0:Int) then frE (blkS p c l).g else(false,[],[]);let z4:=(z3.fst,z3.snd.fst,z3.snd.snd);let z5:=decide ((0:Int)<sgnQ (valF z4));(c.length≤9223372036854775807∧payOk l)∧(z0=true→(SV.si .i64 (blkE p c l)).same z1)∧(z0=false→(c.length≤9223372036854775807∧payOk l)∧((!ratB p c l)=true→(SV.il .i64 4).same z1)∧((!ratB p c l)=false→(z2=true→(SV.il .i64 13).same z1)∧(z2=false→isF z4∧(z5=true→(SV.il .i64 13).same z1)∧(z5=false→(SV.il .i64 0).same z1))))) (by kernel_rfl) ?_
 simp only[vcs]
 have hl:payOk l:=hl
 have h:c.length≤9223372036854775807:=h
 refine⟨⟨h,hl⟩,fun hne=>?_,fun hz=>?_⟩
 ·unfold coreE
  rw[if_pos hne]
 have hz:blkE p c l=0:=by simpa using hz
 have hsz:=blkS_sz hz hl
 have e2:∀q:Rat,valF ((frE q).1,(frE q).2.1,(frE q).2.2)=q:=valF_frE
 simp only[hz,if_true,e2,sgn_pos]
 unfold coreE
 rw[if_neg (by omega)]
 refine⟨⟨h,hl⟩,fun h1=>?_,fun h1=>⟨fun h2=>?_,fun h2=>⟨⟨_,44,rfl,hsz,by omega⟩,fun h3=>?_,fun h3=>?_⟩⟩⟩
 ·rw[if_pos (by simpa using h1)]
 ·have h1':ratB p c l=true:=by simpa using h1
  rw[if_neg (by rw[h1'];decide),if_pos]
  by_cases hm:(blkS p c l).m=0
  ·by_cases hw:(blkS p c l).w=0
   ·simp[hm,hw] at h2
   ·exact .inl (.inr hw)
  ·exact .inl (.inl hm)
 ·have h1':ratB p c l=true:=by simpa using h1
  rw[if_neg (by rw[h1'];decide),if_pos (.inr h3)]
 ·have h1':ratB p c l=true:=by simpa using h1
  rw[if_neg (by rw[h1'];decide),if_neg]
  rintro((hm|hw)|hg)
  ·exact hm h2.1
  ·exact hw h2.2
  ·exact h3 hg
def intsF (l:List Int):List Fra:=l.map fun(n:Int)=>frE ((n:Int):Rat)
def Λ56 (a:List Int):Nat→LoopAnn
 |3=> .inv (Int×List Fra) (fun x=>⟨[(3,.ow 0 x.2.length 3),(6,.row (.i .i64) a),(7,.si .i64 a.length),(8,.si .i64 x.1)],[.row sF x.2 66 false]⟩) (fun s=>(iS s 8,oS sF s 0))
   (fun x=>(0≤x.1∧x.1≤a.length)∧x.2=intsF (a.take x.1.toNat)) (fun x=>(a.length - x.1).toNat) fun _ _=> .look
 |_=> .look
def r56:SCtr:=⟨56,List Int,.one (codR (.i .i64)),fun a=>(show List Int from a).length≤1000∧∀n∈(show List Int from a), -9223372036854775808≤n∧n≤9223372036854775807,fun a=> .row sF (intsF a)⟩
theorem h56:Holds Try.prog r56:=by
 refine con (L:=[r51]) r56 F56 Λ56 (OwnOK.none _) (by simpa using h51) (by kernel_rfl) (by kernel_rfl) (fun _=>rfl) ?_
 rintro(l:List Int) ⟨hl,hn⟩
 refine vcOf (let z0:=SV.ow 0 0 3;let z1:=SV.row (SId.i .i64) l;let z2:=(↑l.length:Int);let z3:=SV.si .i64 z2;let z4:=(SId.i .u32).lst;let z5:=SId.b.pair (z4.pair z4);(((z0.same z0∧z1.same z1∧(SV.si .i64 (↑l.length:Int)).same z3∧(SV.il .i64 0).same (SV.si .i64 0)∧True)∧(SObj.row z5 [] 66 false).same (SObj.row sF [] 66 false)∧True)∧((0:Int)≤(0:Int)∧(0:Int)≤z2)∧[]=intsF [])∧∀(x:Int×List Fra),let z6:=nthD l x.fst.toNat (0:Int);let z7:=x.snd.length+1;let z8:=x.fst+(1:Int);let z9:=frE (IntCast.intCast z6);let z10:=x.snd++[(z9.fst,z9.snd.fst,z9.snd.snd)];let z11:=SV.si .i64 z8;((0:Int)≤x.fst∧x.fst≤z2)∧x.snd=intsF (List.take x.fst.toNat l)→(decide (x.fst<z2)=true→(0:Int)≤x.fst∧x.fst<(↑l.length:Int)∧x.fst.toNat<l.length∧((-9223372036854775808:Int)≤z6∧z6≤(9223372036854775807:Int))∧x.snd.length=x.snd.length∧z7*56≤140737488355328∧z7≤1000000000000∧inR .i64 z8∧(((SV.ow 0 z10.length 3).same (SV.ow 0 z10.length 3)∧z1.same z1∧z3.same z3∧z11.same z11∧True)∧(SObj.row z5 z10 66 false).same (SObj.row sF z10 66 false)∧True)∧(((0:Int)≤z8∧z8≤z2)∧z10=intsF (List.take z8.toNat l))∧(z2 - z8).toNat<(z2 - x.fst).toNat)∧(decide (x.fst<z2)=false→x.snd.length=x.snd.length∧(SV.row sF x.snd).same (SV.row sF (intsF l)))) (by kernel_rfl) ?_
 simp only[vcs]
 have hl:l.length≤1000:=hl
 have hn:∀n∈l, -9223372036854775808≤n∧n≤9223372036854775807:=hn
 refine⟨⟨⟨by omega,by omega⟩,rfl⟩,?_⟩
 rintro⟨i,out⟩ ⟨⟨i0,i1⟩,ho⟩
 simp only at i0 i1 ho ⊢
 subst ho
 have hol:(intsF (l.take i.toNat)).length≤1000:=by unfold intsF;rw[List.length_map,List.length_take];omega
 refine⟨fun hi=>?_,fun hi=>?_⟩
 ·have hx:=hn _ (nthD_mem (d:=0) (show i.toNat<l.length by omega))
  have hs:intsF (l.take (i+1).toNat)=intsF (l.take i.toNat)++[frE ((nthD l i.toNat 0:Int):Rat)]:=by
   rw[show(i+1).toNat=i.toNat+1 by omega,take_snoc (show i.toNat<l.length by omega)]
   unfold intsF
   rw[List.map_append]
   rfl
  rw[hs]
  repeat' refine And.intro ?_ ?_
  all_goals first|omega|rfl
 ·rw[show i.toNat=l.length by omega,List.take_length]
  repeat' refine And.intro ?_ ?_
  all_goals first|omega|rfl
def p3:Prob:=⟨⟨1,1,0,0,0,0⟩,⟨1,1,0,0,0,0⟩,⟨0,0,0,0,0,0⟩,[0,0,0],[⟨0,⟨1,1,0,0,0,0⟩,10⟩,⟨1,⟨1,0,0,0,0,0⟩,6⟩,⟨2,⟨0,1,0,0,0,0⟩,6⟩]⟩
def r86:SCtr:=⟨86,Unit,.nil,fun _=>True,fun _=> .tup [codP.put p3,codA.put ⟨[1,2],12⟩]⟩
theorem h86:Holds Try.prog r86:=by
 refine con (L:=[]) r86 F86 (fun _ _=> .look) (OwnOK.none _) (by simp) (by kernel_rfl) (by kernel_rfl) (fun _=>rfl) ?_
 rintro _ -
 refine vcOf (let z0:=SV.il .i64 1;let z1:=SV.il .i64 0;let z2:=SId.i .i64;let z3:=SV.row z2 [(1:Int),(2:Int)];(SV.tup [SV.agg [z0,z0,z1,z1,z1,z1,z0,z0,z1,z1,z1,z1,z1,z1,z1,z1,z1,z1,SV.row z2 [(0:Int),(0:Int),(0:Int)],SV.row SId.off [Off.mk (0:Int) (Bun.mk (1:Int) (1:Int) (0:Int) (0:Int) (0:Int) (0:Int)) (10:Int),Off.mk (1:Int) (Bun.mk (1:Int) (0:Int) (0:Int) (0:Int) (0:Int) (0:Int)) (6:Int),Off.mk (2:Int) (Bun.mk (0:Int) (1:Int) (0:Int) (0:Int) (0:Int) (0:Int)) (6:Int)]],SV.agg [z3,SV.il .i64 12]]).same (SV.tup [SV.agg [SV.si .i64 p3.supply.a0,SV.si .i64 p3.supply.a1,SV.si .i64 p3.supply.a2,SV.si .i64 p3.supply.a3,SV.si .i64 p3.supply.a4,SV.si .i64 p3.supply.a5,SV.si .i64 p3.opn.a0,SV.si .i64 p3.opn.a1,SV.si .i64 p3.opn.a2,SV.si .i64 p3.opn.a3,SV.si .i64 p3.opn.a4,SV.si .i64 p3.opn.a5,SV.si .i64 p3.cls.a0,SV.si .i64 p3.cls.a1,SV.si .i64 p3.cls.a2,SV.si .i64 p3.cls.a3,SV.si .i64 p3.cls.a4,SV.si .i64 p3.cls.a5,SV.row z2 p3.classes,SV.row SId.off p3.offers],SV.agg [z3,SV.si .i64 12]])) (by kernel_rfl) ?_
 conv=>zeta
 rfl
def Λ46 (a:Fra×Fra):Nat→LoopAnn
 |4=> .inv Int (fun x=>⟨[(2,.ptr 0 0 3),(3,.ptr 1 0 3),(5,.si .i64 x)],[fCells a.1,fCells a.2]⟩) (fun s=>iS s 5) (fun x=>(0≤x∧x≤a.1.2.1.length)∧∀j:Nat,(j:Int)<x→nthD a.1.2.1 j 0=nthD a.2.2.1 j 0) (fun x=>(a.1.2.1.length - x).toNat) fun _ _=> .look
 |9=> .inv Int (fun x=>⟨[(2,.ptr 0 0 3),(3,.ptr 1 0 3),(6,.si .i64 x)],[fCells a.1,fCells a.2]⟩) (fun s=>iS s 6) (fun x=>((0≤x∧x≤a.1.2.2.length)∧a.1.2.1=a.2.2.1)∧∀j:Nat,(j:Int)<x→nthD a.1.2.2 j 0=nthD a.2.2.2 j 0) (fun x=>(a.1.2.2.length - x).toNat) fun _ _=> .look
 |_=> .look
def r46:SCtr:=⟨46,Fra×Fra,.cons (codE sF) (.one (codE sF)),fun a=>(a.1.2.1.length≤1000000000∧a.1.2.2.length≤1000000000)∧a.2.2.1.length≤1000000000∧a.2.2.2.length≤1000000000,fun a=> .sb (decide (a.1=a.2))⟩
theorem h46:Holds Try.prog r46:=by
 refine con (L:=[]) r46 F46 Λ46 (OwnOK.none _) (by simp) (by kernel_rfl) (by kernel_rfl) (fun _=>rfl) ?_
 rintro⟨⟨s,n,d⟩,⟨s',n',d'⟩⟩ ⟨⟨hn,hd⟩,hn',hd'⟩
 refine vcOf (let z0:=SV.sb (decide ((s,n,d)=(s',n',d')));let z1:=(↑n.length:Int);let z2:=decide (z1≠(↑n'.length:Int));let z3:=(↑d.length:Int);let z4:=decide (z3≠(↑d'.length:Int));let z5:=SV.ptr 0 0 3;let z6:=SV.ptr 1 0 3;let z7:=SId.i .u32;let z8:=SObj.cells [SV.sb s,SV.row z7 n,SV.row z7 d] 66 3 false;let z9:=SObj.cells [SV.sb s',SV.row z7 n',SV.row z7 d'] 66 3 false;let z10:=(↑n.length:Int);let z11:=(↑d.length:Int);((!s==s')=true→(SV.bl false).same z0)∧((!s==s')=false→(z2=true→(SV.bl false).same z0)∧(z2=false→(z4=true→(SV.bl false).same z0)∧(z4=false→(((z5.same z5∧z6.same z6∧(SV.il .i64 0).same (SV.si .i64 0)∧True)∧z8.same z8∧z9.same z9∧True)∧((0:Int)≤(0:Int)∧(0:Int)≤z10)∧∀(j:Nat),(↑j:Int)<(0:Int)→nthD n j (0:Int)=nthD n' j (0:Int))∧∀(x:Int),let z12:=decide (nthD n x.toNat (0:Int)≠nthD n' x.toNat (0:Int));let z13:=x+(1:Int);let z14:=SV.si .i64 z13;(((0:Int)≤x∧x≤z10)∧∀(j:Nat),(↑j:Int)<x→nthD n j (0:Int)=nthD n' j (0:Int))→(decide (x<z1)=true→(0:Int)≤x∧x<z1∧x.toNat<n.length∧(0:Int)≤x∧x<(↑n'.length:Int)∧x.toNat<n'.length∧(z12=true→(SV.bl false).same z0)∧(z12=false→inR .i64 z13∧((z5.same z5∧z6.same z6∧z14.same z14∧True)∧z8.same z8∧z9.same z9∧True)∧(((0:Int)≤z13∧z13≤z10)∧∀(j:Nat),(↑j:Int)<z13→nthD n j (0:Int)=nthD n' j (0:Int))∧(z10 - z13).toNat<(z10 - x).toNat))∧(decide (x<z1)=false→(((z5.same z5∧z6.same z6∧(SV.il .i64 0).same (SV.si .i64 0)∧True)∧z8.same z8∧z9.same z9∧True)∧(((0:Int)≤(0:Int)∧(0:Int)≤z11)∧n=n')∧∀(j:Nat),(↑j:Int)<(0:Int)→nthD d j (0:Int)=nthD d' j (0:Int))∧∀(x:Int),let z15:=decide (nthD d x.toNat (0:Int)≠nthD d' x.toNat (0:Int));let z16:=x+(1:Int);let z17:=SV.si .i64 z16;((((0:Int)≤x∧x≤z11)∧n=n')∧∀(j:Nat),(↑j:Int)<x→nthD d j (0:Int)=nthD d' j (0:Int))→(decide (x<z3)=true→(0:Int)≤x∧x<z3∧x.toNat<d.length∧(0:Int)≤x∧x<(↑d'.length:Int)∧x.toNat<d'.length∧(z15=true→(SV.bl false).same z0)∧(z15=false→inR .i64 z16∧((z5.same z5∧z6.same z6∧z17.same z17∧True)∧z8.same z8∧z9.same z9∧True)∧((((0:Int)≤z16∧z16≤z11)∧n=n')∧∀(j:Nat),(↑j:Int)<z16→nthD d j (0:Int)=nthD d' j (0:Int))∧(z11 - z16).toNat<(z11 - x).toNat))∧(decide (x<z3)=false→(SV.bl true).same z0)))))) (by kernel_rfl) ?_
 simp only[vcs]
 have hn:n.length≤1000000000:=hn
 have hd:d.length≤1000000000:=hd
 have hn':n'.length≤1000000000:=hn'
 have hd':d'.length≤1000000000:=hd'
 have ext:∀{a b:List Int},a.length=b.length→(∀j:Nat,(j:Int)<a.length→nthD a j 0=nthD b j 0)→a=b:=fun hl hj=>
  List.ext_getElem hl fun j h1 h2=>by
   have:=hj j (by omega)
   simpa[nthD,h1,h2] using this
 have nope:∀{b:Bool},¬((s,n,d)=(s',n',d'))→b=false→b=decide ((s,n,d)=(s',n',d')):=fun h hb=>by
  rw[hb,decide_eq_false h]
 refine⟨fun h1=>nope (fun h=>?_) rfl,fun h1=>⟨fun h2=>nope (fun h=>?_) rfl,fun h2=>⟨fun h3=>nope (fun h=>?_) rfl,fun h3=>⟨⟨⟨by omega,by omega⟩,fun j hj=>by omega⟩,?_⟩⟩⟩⟩
 ·injection h with h4 h5
  subst h4
  simp at h1
 ·injection h with h4 h5
  injection h5 with h5 h6
  subst h5
  omega
 ·injection h with h4 h5
  injection h5 with h5 h6
  subst h6
  omega
 rintro x ⟨⟨x0,x1⟩,hx⟩
 refine⟨fun hi=>⟨by omega,by omega,by omega,by omega,by omega,by omega,fun hne=>nope (fun h=>?_) rfl,fun he=>⟨by omega,⟨⟨by omega,by omega⟩,fun j hj=>?_⟩,by omega⟩⟩,fun hi=>?_⟩
 ·injection h with h4 h5
  injection h5 with h5 h6
  subst h5
  exact hne rfl
 ·by_cases hji:(j:Int)<x
  ·exact hx j hji
  ·have:j=x.toNat:=by omega
   subst this
   simpa using he
 ·have hnn:n=n':=ext (by omega) fun j hj=>hx j (by omega)
  refine⟨⟨⟨⟨by omega,by omega⟩,hnn⟩,fun j hj=>by omega⟩,?_⟩
  rintro y ⟨⟨⟨y0,y1⟩,_⟩,hy⟩
  refine⟨fun hi2=>⟨by omega,by omega,by omega,by omega,by omega,by omega,fun hne=>nope (fun h=>?_) rfl,fun he=>⟨by omega,⟨⟨⟨by omega,by omega⟩,hnn⟩,fun j hj=>?_⟩,by omega⟩⟩,fun hi2=>?_⟩
  ·injection h with h4 h5
   injection h5 with h5 h6
   subst h6
   exact hne rfl
  ·by_cases hji:(j:Int)<y
   ·exact hy j hji
   ·have:j=y.toNat:=by omega
    subst this
    simpa using he
  ·have hdd:d=d':=ext (by omega) fun j hj=>hy j (by omega)
   have hs:s=s':=by simpa using h1
   rw[hs,hnn,hdd]
   simp
theorem pay_ints {l:List Int} (h:l.length≤10) (hn:∀n∈l, -9223372036854775808≤n∧n≤9223372036854775807):payOk (intsF l):=by
 refine⟨by unfold intsF;rw[List.length_map];exact h,fun x hx=>?_⟩
 unfold intsF at hx
 obtain⟨n,hm,rfl⟩:=List.mem_map.1 hx
 exact⟨_,rfl,(szI (hn n hm).1 (hn n hm).2).mono (by omega)⟩
def r39:SCtr:=⟨39,Unit,.nil,fun _=>True,fun _=> .sb true⟩
theorem h39:Holds Try.prog r39:=by
 refine con (L:=[r86,r40,r56,r44,r42,r46,r51,r47,r49]) r39 F39 (fun _ _=> .look) (OwnOK.none _) (by simpa using⟨h86,h40,h56,h44,h42,h46,h51,h47,h49⟩) (by kernel_rfl) (by kernel_rfl) (fun _=>rfl) ?_
 rintro _ -
 refine vcOf (let z0:=[(0:Int),(4:Int),(4:Int)];let z1:=[(1:Int),(2:Int)];let z2:=(frE (blkS p3 z1 (intsF z0)).g).snd;let z3:=(frE (IntCast.intCast (2:Int))).snd;let z4:=[(5:Int),(5:Int)];let z5:=[(0:Int),(7:Int),(5:Int)];let z6:=[(0:Int),(6:Int),(0:Int)];let z7:=ratB p3 z1 (intsF z6);let z8:=intsF ((1:Int)::z4);True∧2≤9223372036854775807∧(3≤1000∧∀(n:Int),n∈z0→(-9223372036854775808:Int)≤n∧n≤(9223372036854775807:Int))∧(2≤9223372036854775807∧payOk (intsF z0))∧(true=true→((needS p3 z1).length≤1000000000∧3≤1000000000)∧(true=true→(true=true→(true=true→((-9223372036854775808:Int)≤(2:Int)∧(2:Int)≤(9223372036854775807:Int))∧((List.length z2.fst≤1000000000∧List.length z2.snd≤1000000000)∧List.length z3.fst≤1000000000∧List.length z3.snd≤1000000000)∧(true=true→(3≤1000∧∀(n:Int),n∈(0:Int)::z4→(-9223372036854775808:Int)≤n∧n≤(9223372036854775807:Int))∧(2≤9223372036854775807∧payOk (intsF ((0:Int)::z4)))∧(true=true→(3≤1000∧∀(n:Int),n∈z0→(-9223372036854775808:Int)≤n∧n≤(9223372036854775807:Int))∧(2≤9223372036854775807∧payOk (intsF z0))∧(true=true→(3≤1000∧∀(n:Int),n∈z5→(-9223372036854775808:Int)≤n∧n≤(9223372036854775807:Int))∧(2≤9223372036854775807∧payOk (intsF z5))∧(true=true→(3≤1000∧∀(n:Int),n∈z6→(-9223372036854775808:Int)≤n∧n≤(9223372036854775807:Int))∧(2≤9223372036854775807∧payOk (intsF z6))∧(z7=true→(3≤1000∧∀(n:Int),n∈(1:Int)::z4→(-9223372036854775808:Int)≤n∧n≤(9223372036854775807:Int))∧(2≤9223372036854775807∧payOk z8)∧(SV.sb !ratB p3 z1 z8).same (SV.sb true))∧(z7=false→(SV.bl false).same (SV.sb true)))∧(true=false→(SV.bl false).same (SV.sb true)))∧(true=false→(SV.bl false).same (SV.sb true)))∧(true=false→(SV.bl false).same (SV.sb true)))∧(true=false→(SV.bl false).same (SV.sb true)))∧(true=false→(SV.bl false).same (SV.sb true)))∧(true=false→(SV.bl false).same (SV.sb true)))∧(true=false→(SV.bl false).same (SV.sb true)))∧(true=false→(SV.bl false).same (SV.sb true))) (by kernel_rfl) ?_
 conv=>zeta
 have k1:(needS p3 [1,2]).length=3:=by kernel_rfl
 have i1:∀n∈[(0:Int),4,4], -9223372036854775808≤n∧n≤9223372036854775807:=by decide
 have i2:∀n∈[(0:Int),5,5], -9223372036854775808≤n∧n≤9223372036854775807:=by decide
 have i3:∀n∈[(0:Int),7,5], -9223372036854775808≤n∧n≤9223372036854775807:=by decide
 have i4:∀n∈[(0:Int),6,0], -9223372036854775808≤n∧n≤9223372036854775807:=by decide
 have i5:∀n∈[(1:Int),5,5], -9223372036854775808≤n∧n≤9223372036854775807:=by decide
 have k2:blkE p3 [1,2] (intsF [0,4,4])=0:=by kernel_rfl
 have k3:ratB p3 [1,2] (intsF [0,6,0])=true:=by kernel_rfl
 have k4:ratB p3 [1,2] (intsF [1,5,5])=false:=by kernel_rfl
 have s1:=frE_len (blkS_sz k2 (pay_ints (by decide) i1))
 have s2:=frE_len (szI (W:=2) (by omega) (by omega))
 have ab:∀{X:Prop},true=false→X:=fun h=>absurd h (by decide)
 rw[k1,k3,k4]
 simp only[forall_const,reduceCtorEq,false_implies,true_implies,and_true,true_and]
 repeat' refine And.intro ?_ ?_
 all_goals first|omega|exact i1|exact i2|exact i3|exact i4|exact i5|exact(pay_ints (by decide) i1).1|exact(pay_ints (by decide) i1).2|exact(pay_ints (by decide) i2).1|exact(pay_ints (by decide) i2).2|exact(pay_ints (by decide) i3).1|exact(pay_ints (by decide) i3).2|exact(pay_ints (by decide) i4).1|exact(pay_ints (by decide) i4).2|exact(pay_ints (by decide) i5).1|exact(pay_ints (by decide) i5).2|exact Nat.le_trans s2.1 (by omega)|exact Nat.le_trans s2.2 (by omega)|rfl
theorem blk_top {V T:List Int} {l:List Fra}:∀{k:Nat},(((blkU V T l k).g=0∧(blkU V T l k).m=0∧(blkU V T l k).w=0)∨(0<(blkU V T l k).g∧∃j,j<k∧(blkU V T l k).g=gainQ V l j (nthD T j 0)))∧∀j:Nat,j<k→gainQ V l j (nthD T j 0)≤(blkU V T l k).g
 |0=>⟨.inl ⟨rfl,rfl,rfl⟩,fun j hj=>absurd hj (Nat.not_lt_zero _)⟩
 |k+1=>by
  obtain⟨h1,h2⟩:=@blk_top V T l k
  have h0:0≤(blkU V T l k).g:=by
   rcases h1 with h|h
   ·rw[h.1];exact Rat.le_refl
   ·have:=h.1;grind
  rw[blkU_succ]
  by_cases h:(blkU V T l k).g<gainQ V l k (nthD T k 0)
  ·rw[if_pos h]
   refine⟨.inr ⟨by simp only;grind,k,by omega,rfl⟩,fun j hj=>?_⟩
   simp only
   by_cases hjk:j=k
   ·subst hjk;exact Rat.le_refl
   ·have:=h2 j (by omega)
    grind
  ·rw[if_neg h]
   refine⟨?_,fun j hj=>?_⟩
   ·rcases h1 with h1|⟨h3,j,h4,h5⟩
    ·exact .inl h1
    ·exact .inr ⟨h3,j,by omega,h5⟩
   ·by_cases hjk:j=k
    ·subst hjk;grind
    ·exact h2 j (by omega)
theorem core_iff {p:Prob} {c:List Int} {l:List Fra} (hb:blkE p c l=0):coreE p c l=0↔ratB p c l=true∧¬0<(blkS p c l).g:=by
 unfold coreE
 rw[if_neg (by omega)]
 by_cases hr:ratB p c l=true
 ·rw[if_neg (by rw[hr];decide)]
  have ht:=(@blk_top (valsS p c) (tabS p) l (tabS p).length).1
  by_cases hg:0<(blkS p c l).g
  ·rw[if_pos (.inr hg)]
   constructor
   ·intro h;omega
   ·intro h;exact absurd hg h.2
  ·have hx:¬(((blkS p c l).m≠0∨(blkS p c l).w≠0)∨0<(blkS p c l).g):=by
    rcases ht with ht|ht
    ·rintro((h|h)|h)
     ·exact h ht.2.1
     ·exact h ht.2.2
     ·exact hg h
    ·exact absurd ht.1 hg
   rw[if_neg hx]
   simp[hr,hg]
 ·have hr':ratB p c l=false:=by simpa using hr
  rw[if_pos hr']
  constructor
  ·intro h;omega
  ·intro h;exact absurd h.1 hr
theorem lst_top {V T:List Int} {q:Int}:∀{k:Nat},(lstU V T q k=0∨(0<lstU V T q k∧∃m,m<k∧pU V m=q∧lstU V T q k=lU V m (nthD T m 0)))∧∀m:Nat,m<k→pU V m=q→lU V m (nthD T m 0)≤lstU V T q k
 |0=>⟨.inl rfl,fun j hj=>absurd hj (Nat.not_lt_zero _)⟩
 |k+1=>by
  obtain⟨h1,h2⟩:=@lst_top V T q k
  have h0:0≤lstU V T q k:=by
   rcases h1 with h|h
   ·omega
   ·omega
  rw[lstU_succ]
  by_cases h:pU V k=q
  ·rw[if_pos h]
   refine⟨?_,fun m hm hq=>?_⟩
   ·by_cases hle:lU V k (nthD T k 0)≤lstU V T q k
    ·rw[Int.max_eq_left hle]
     rcases h1 with h1|⟨h3,j,h4,h5⟩
     ·exact .inl h1
     ·exact .inr ⟨h3,j,by omega,h5⟩
    ·rw[Int.max_eq_right (by omega)]
     exact .inr ⟨by omega,k,by omega,h,rfl⟩
   ·by_cases hmk:m=k
    ·subst hmk;omega
    ·have:=h2 m (by omega) hq
     omega
  ·rw[if_neg h]
   refine⟨?_,fun m hm hq=>?_⟩
   ·rcases h1 with h1|⟨h3,j,h4,h5⟩
    ·exact .inl h1
    ·exact .inr ⟨h3,j,by omega,h5⟩
   ·by_cases hmk:m=k
    ·subst hmk;exact absurd hq h
    ·exact h2 m (by omega) hq
theorem need_mem {V T:List Int} {n:Nat} {x:Need}:x∈needU V T n↔∃q:Nat,q<n∧0<lstU V T q T.length∧x=⟨(q:Int),lstU V T q T.length⟩:=by
 unfold needU
 rw[List.mem_filterMap]
 constructor
 ·rintro⟨q,hq,h⟩
  split at h
  ·rename_i h1
   simp only[Option.some.injEq] at h
   exact⟨q,List.mem_range.1 hq,h1,h.symm⟩
  ·cases h
 ·rintro⟨q,hq,h1,rfl⟩
  exact⟨q,List.mem_range.2 hq,by rw[if_pos h1]⟩
def bidI (p:Prob) (j:Int):Int:=(nthD p.offers j.toNat SId.off.dflt).bidder
def setU (p:Prob) (m s:Int) (n:Nat):List Int:=((List.range n).filter fun(j:Nat)=>hasI s j&&hasI m (bidI p j)).map fun(j:Nat)=>(j:Int)
theorem setU_succ {p:Prob} {m s:Int} {n:Nat}:setU p m s (n+1)=if hasI s n=true∧hasI m (bidI p n)=true then setU p m s n++[(n:Int)] else setU p m s n:=by
 unfold setU
 rw[List.range_succ,List.filter_append,List.map_append]
 by_cases h:hasI s n=true∧hasI m (bidI p n)=true
 ·rw[if_pos h];simp[h.1,h.2]
 ·rw[if_neg h]
  have:(hasI s n&&hasI m (bidI p n))=false:=by
   cases h1:hasI s n with
   |false=>rfl
   |true=>
    cases h2:hasI m (bidI p n) with
    |false=>rfl
    |true=>exact absurd ⟨h1,h2⟩ h
  simp[this]
theorem setU_len {p:Prob} {m s:Int} {n:Nat}:(setU p m s n).length≤n:=by
 unfold setU
 rw[List.length_map]
 exact Nat.le_trans (List.length_filter_le _ _) (by simp)
theorem setU_mem {p:Prob} {m s:Int} {n:Nat} {j:Int}:j∈setU p m s n↔∃k:Nat,(k:Int)=j∧k<n∧hasI s k=true∧hasI m (bidI p k)=true:=by
 unfold setU
 rw[List.mem_map]
 constructor
 ·rintro⟨k,hk,rfl⟩
  rw[List.mem_filter,Bool.and_eq_true,List.mem_range] at hk
  exact⟨k,rfl,hk.1,hk.2.1,hk.2.2⟩
 ·rintro⟨k,rfl,h1,h2,h3⟩
  exact⟨k,by rw[List.mem_filter,Bool.and_eq_true,List.mem_range];exact⟨h1,h2,h3⟩,rfl⟩
theorem setU_inc {p:Prob} {m s:Int}:∀{n:Nat},(setU p m s n).Pairwise (·<·)
 |0=>by simp[setU]
 |n+1=>by
  have h:=@setU_inc p m s n
  rw[setU_succ]
  split
  ·rw[List.pairwise_append]
   refine⟨h,by simp,fun a ha b hb=>?_⟩
   obtain⟨k,rfl,hk,_⟩:=setU_mem.1 ha
   simp only[List.mem_singleton] at hb
   omega
  ·exact h
def wrU (p:Prob) (m:Int) (k:Nat):Int:=(List.range k).foldl (fun(b:Int) (s:Nat)=>if b<valueS p (setU p m s p.offers.length)∧feasE p (setU p m s p.offers.length)=0 then valueS p (setU p m s p.offers.length) else b) 0
theorem wrU_succ {p:Prob} {m:Int} {k:Nat}:wrU p m (k+1)=if wrU p m k<valueS p (setU p m k p.offers.length)∧feasE p (setU p m k p.offers.length)=0 then valueS p (setU p m k p.offers.length) else wrU p m k:=by
 unfold wrU
 rw[List.range_succ,List.foldl_append]
 rfl
def wortW (p:Prob) (m:Int):Int:=wrU p m (2^p.offers.length)
def Λ54 (a:Prob×Int):Nat→LoopAnn
 |3=> .inv (Int×Int) (fun x=>⟨[(1,.si .i64 a.2),(2,.ptr 0 0 20),(5,.si .i64 x.2),(14,.si .i64 (2^a.1.offers.length)),(15,.si .i64 x.1)],[.cells a.1.ss 27 20 false]⟩) (fun s=>(iS s 15,iS s 5))
   (fun x=>(0≤x.1∧x.1≤2^a.1.offers.length)∧x.2=wrU a.1 a.2 x.1.toNat) (fun x=>(2^a.1.offers.length - x.1).toNat) fun x k=>match k with
   |7=> .inv (Int×List Int) (fun y=>⟨[(1,.si .i64 a.2),(2,.ptr 0 0 20),(5,.si .i64 x.2),(6,.si .i64 x.1),(7,.ow 1 y.2.length 1),(14,.si .i64 (2^a.1.offers.length)),(15,.si .i64 x.1),(19,.row .off a.1.offers),(20,.si .i64 a.1.offers.length),(21,.si .i64 y.1)],[.cells a.1.ss 27 20 false,.row (.i .i64) y.2 3 true]⟩)
     (fun s=>(iS s 21,oS (.i .i64) s 1)) (fun y=>(0≤y.1∧y.1≤a.1.offers.length)∧y.2=setU a.1 a.2 x.1 y.1.toNat) (fun y=>(a.1.offers.length - y.1).toNat) fun _ _=> .look
   |_=> .look
 |_=> .look
def r54:SCtr:=⟨54,Prob×Int,.cons codP (.one (codI .i64)),fun a=>(checkE a.1=0∧a.1.offers.length≤8)∧0≤a.2∧a.2<256,fun a=> .si .i64 (wortW a.1 a.2)⟩
theorem h54:Holds Try.prog r54:=by
 refine con (L:=[r55,r58]) r54 F54 Λ54 (OwnOK.none _) (by simpa using⟨h55,h58⟩) (by kernel_rfl) (by kernel_rfl) (fun _=>rfl) ?_
 rintro⟨p,m⟩ ⟨⟨hc,h8⟩,m0,m1⟩
 refine vcOf (let z0:=(↑p.offers.length:Int);let z1:=(1:Int)*(2:Int)^z0.toNat;let z2:=SV.ptr 0 0 20;let z3:=(2:Int)^p.offers.length;let z4:=SV.si .i64 z3;let z5:=SId.i .i64;let z6:=SV.row SId.off p.offers;let z7:=SObj.cells [SV.si .i64 p.supply.a0,SV.si .i64 p.supply.a1,SV.si .i64 p.supply.a2,SV.si .i64 p.supply.a3,SV.si .i64 p.supply.a4,SV.si .i64 p.supply.a5,SV.si .i64 p.opn.a0,SV.si .i64 p.opn.a1,SV.si .i64 p.opn.a2,SV.si .i64 p.opn.a3,SV.si .i64 p.opn.a4,SV.si .i64 p.opn.a5,SV.si .i64 p.cls.a0,SV.si .i64 p.cls.a1,SV.si .i64 p.cls.a2,SV.si .i64 p.cls.a3,SV.si .i64 p.cls.a4,SV.si .i64 p.cls.a5,SV.row z5 p.classes,z6] 27 20 false;let z8:=SV.ow 1 0 1;let z9:=(↑p.offers.length:Int);let z10:=SV.si .i64 z9;let z11:=SObj.row z5 [] 3 true;(0:Int)≤z0∧z0≤(64:Int)∧inR .i64 z1∧((((SV.si .i64 m).same (SV.si .i64 m)∧z2.same z2∧(SV.il .i64 0).same (SV.si .i64 0)∧(SV.si .i64 z1).same z4∧(SV.il .i64 0).same (SV.si .i64 0)∧True)∧z7.same z7∧True)∧((0:Int)≤(0:Int)∧(0:Int)≤z3)∧(0:Int)=wrU p m 0)∧∀(x:Int×Int),let z12:=SV.si .i64 x.snd;let z13:=SV.si .i64 x.fst;let z14:=x.fst+(1:Int);let z15:=SV.si .i64 z14;((0:Int)≤x.fst∧x.fst≤z3)∧x.snd=wrU p m x.fst.toNat→(decide (x.fst<z3)=true→((((SV.si .i64 m).same (SV.si .i64 m)∧z2.same z2∧z12.same z12∧z13.same z13∧z8.same z8∧z4.same z4∧z13.same z13∧z6.same z6∧(SV.si .i64 z0).same z10∧(SV.il .i64 0).same (SV.si .i64 0)∧True)∧z7.same z7∧z11.same z11∧True)∧((0:Int)≤(0:Int)∧(0:Int)≤z9)∧[]=setU p m x.fst 0)∧∀(x_1:Int×List Int),let z16:=x_1.fst.toNat;let z17:=decide (binK.andI .i64 (x.fst / (2:Int)^z16) (1:Int)=(1:Int));let z18:=(nthD p.offers z16 SId.off.dflt).bidder;let z19:=decide (binK.andI .i64 (m / (2:Int)^z18.toNat) (1:Int)=(1:Int));let z20:=x_1.snd.length;let z21:=x_1.snd.length+1;let z22:=x_1.fst+(1:Int);let z23:=x_1.snd++[x_1.fst];let z24:=SV.si .i64 z22;let z25:=SObj.row z5 z23 3 true;let z26:=setU p m x.fst z22.toNat;let z27:=SV.ow 1 z20 1;let z28:=SObj.row z5 x_1.snd 3 true;let z29:=valueS p x_1.snd;let z30:=decide (x.snd<z29);let z31:=decide (feasE p x_1.snd=(0:Int));let z32:=SV.si .i64 z29;((0:Int)≤x_1.fst∧x_1.fst≤z9)∧x_1.snd=setU p m x.fst z16→(decide (x_1.fst<z9)=true→(0:Int)≤x_1.fst∧x_1.fst<z0∧z16<p.offers.length∧(0:Int)≤x_1.fst∧x_1.fst≤(64:Int)∧(z17=true→(0:Int)≤z18∧z18≤(64:Int)∧(z19=true→z20=x_1.snd.length∧z21*8≤140737488355328∧z21≤1000000000000∧inR .i64 z22∧(((SV.si .i64 m).same (SV.si .i64 m)∧z2.same z2∧z12.same z12∧z13.same z13∧(SV.ow 1 z23.length 1).same (SV.ow 1 z23.length 1)∧z4.same z4∧z13.same z13∧z6.same z6∧z10.same z10∧z24.same z24∧True)∧z7.same z7∧z25.same z25∧True)∧(((0:Int)≤z22∧z22≤z9)∧z23=z26)∧(z9 - z22).toNat<(z9 - x_1.fst).toNat)∧(z19=false→inR .i64 z22∧(((SV.si .i64 m).same (SV.si .i64 m)∧z2.same z2∧z12.same z12∧z13.same z13∧z27.same z27∧z4.same z4∧z13.same z13∧z6.same z6∧z10.same z10∧z24.same z24∧True)∧z7.same z7∧z28.same z28∧True)∧(((0:Int)≤z22∧z22≤z9)∧x_1.snd=z26)∧(z9 - z22).toNat<(z9 - x_1.fst).toNat))∧(z17=false→inR .i64 z22∧(((SV.si .i64 m).same (SV.si .i64 m)∧z2.same z2∧z12.same z12∧z13.same z13∧z27.same z27∧z4.same z4∧z13.same z13∧z6.same z6∧z10.same z10∧z24.same z24∧True)∧z7.same z7∧z28.same z28∧True)∧(((0:Int)≤z22∧z22≤z9)∧x_1.snd=z26)∧(z9 - z22).toNat<(z9 - x_1.fst).toNat))∧(decide (x_1.fst<z9)=false→z20=x_1.snd.length∧z20≤9223372036854775807∧(z30=true→z20=x_1.snd.length∧z20≤9223372036854775807∧(z31=true→inR .i64 z14∧(((SV.si .i64 m).same (SV.si .i64 m)∧z2.same z2∧z32.same z32∧z4.same z4∧z15.same z15∧True)∧z7.same z7∧True)∧(((0:Int)≤z14∧z14≤z3)∧z29=wrU p m z14.toNat)∧(z3 - z14).toNat<(z3 - x.fst).toNat)∧(z31=false→inR .i64 z14∧(((SV.si .i64 m).same (SV.si .i64 m)∧z2.same z2∧z12.same z12∧z4.same z4∧z15.same z15∧True)∧z7.same z7∧True)∧(((0:Int)≤z14∧z14≤z3)∧x.snd=wrU p m z14.toNat)∧(z3 - z14).toNat<(z3 - x.fst).toNat))∧(z30=false→inR .i64 z14∧(((SV.si .i64 m).same (SV.si .i64 m)∧z2.same z2∧z12.same z12∧z4.same z4∧z15.same z15∧True)∧z7.same z7∧True)∧(((0:Int)≤z14∧z14≤z3)∧x.snd=wrU p m z14.toNat)∧(z3 - z14).toNat<(z3 - x.fst).toNat)))∧(decide (x.fst<z3)=false→z12.same (SV.si .i64 (wortW p m)))) (by kernel_rfl) ?_
 simp only[vcs]
 have hc:checkE p=0:=hc
 have h8:p.offers.length≤8:=h8
 have m0:0≤m:=m0
 have m1:m<256:=m1
 have hg:=good_of hc
 have hp:=pow8 h8
 have e0:(1:Int)*2^((p.offers.length:Int)).toNat=2^p.offers.length:=by rw[Int.one_mul,Int.toNat_natCast]
 have hpn:((2^p.offers.length:Nat):Int)=2^p.offers.length:=by push_cast;rfl
 rw[e0]
 refine⟨by omega,by omega,by omega,⟨rfl,⟨by omega,by omega⟩,rfl⟩,?_⟩
 rintro⟨s,b⟩ ⟨⟨s0,s1⟩,hb⟩
 simp only at s0 s1 hb ⊢
 subst hb
 have es:((s.toNat:Nat):Int)=s:=by omega
 have es1:(s+1).toNat=s.toNat+1:=by omega
 have hsu:=@wrU_succ p m s.toNat
 rw[es] at hsu
 refine⟨fun hs=>⟨⟨⟨by omega,by omega⟩,rfl⟩,?_⟩,fun hs=>?_⟩
 ·rintro⟨i,l⟩ ⟨⟨i0,i1⟩,hl⟩
  simp only at i0 i1 hl ⊢
  subst hl
  have e:(i+1).toNat=i.toNat+1:=by omega
  have ei:((i.toNat:Nat):Int)=i:=by omega
  have hse:=@setU_succ p m s i.toNat
  rw[ei] at hse
  have hlen:=@setU_len p m s i.toNat
  obtain⟨n0,n1⟩:=half_nn (i:=i.toNat) s0
  have ha:binK.andI .i64 (s / 2^i.toNat) 1=s / 2^i.toNat % 2:=and_one n0 (by omega)
  have hI:hasI s i=decide (s / 2^i.toNat % 2=1):=rfl
  refine⟨fun hi=>?_,fun hi=>?_⟩
  ·have hx:=hg.2.2.2.2 _ (nthD_mem (d:=SId.off.dflt) (show i.toNat<p.offers.length by omega))
   have hx1:=hx.1
   have hx2:=hx.2.1
   have hg1:=hg.1
   obtain⟨k0,k1⟩:=half_nn (i:=(bidI p i).toNat) m0
   have hbi:(nthD p.offers i.toNat SId.off.dflt).bidder=bidI p i:=rfl
   rw[hbi] at hx1 hx2 ⊢
   have hb2:binK.andI .i64 (m / 2^(bidI p i).toNat) 1=m / 2^(bidI p i).toNat % 2:=and_one k0 (by omega)
   have hJ:hasI m (bidI p i)=decide (m / 2^(bidI p i).toNat % 2=1):=rfl
   rw[ha,hb2,e,hse,hI,hJ]
   refine⟨by omega,by omega,by omega,by omega,by omega,fun h1=>⟨by omega,by omega,fun h2=>?_,fun h2=>?_⟩,fun h1=>?_⟩
   ·rw[if_pos ⟨decide_eq_true h1,decide_eq_true h2⟩]
    refine⟨by omega,by omega,by omega,⟨⟨by omega,by omega⟩,rfl⟩,by omega⟩
   ·rw[if_neg (fun h=>h2 (of_decide_eq_true h.2))]
    refine⟨by omega,⟨⟨by omega,by omega⟩,rfl⟩,by omega⟩
   ·rw[if_neg (fun h=>h1 (of_decide_eq_true h.1))]
    refine⟨by omega,⟨⟨by omega,by omega⟩,rfl⟩,by omega⟩
  ·have hin:i.toNat=p.offers.length:=by omega
   rw[hin] at hlen ⊢
   rw[es1,hsu]
   refine⟨by omega,fun h1=>⟨by omega,fun h2=>?_,fun h2=>?_⟩,fun h1=>?_⟩
   ·rw[if_pos ⟨h1,h2⟩]
    refine⟨by omega,⟨⟨by omega,by omega⟩,rfl⟩,by omega⟩
   ·rw[if_neg (fun h=>h2 h.2)]
    refine⟨by omega,⟨⟨by omega,by omega⟩,rfl⟩,by omega⟩
   ·rw[if_neg (fun h=>h1 h.1)]
    refine⟨by omega,⟨⟨by omega,by omega⟩,rfl⟩,by omega⟩
 ·unfold wortW
  rw[show s.toNat=2^p.offers.length by omega]
theorem wr_top {p:Prob} {m:Int}:∀{k:Nat},(wrU p m k=0∨∃s,s<k∧feasE p (setU p m s p.offers.length)=0∧wrU p m k=valueS p (setU p m s p.offers.length))∧0≤wrU p m k∧∀s:Nat,s<k→feasE p (setU p m s p.offers.length)=0→valueS p (setU p m s p.offers.length)≤wrU p m k
 |0=>⟨.inl rfl,Int.le_refl _,fun s hs=>absurd hs (Nat.not_lt_zero _)⟩
 |k+1=>by
  obtain⟨h1,h2,h3⟩:=@wr_top p m k
  rw[wrU_succ]
  by_cases h:wrU p m k<valueS p (setU p m k p.offers.length)∧feasE p (setU p m k p.offers.length)=0
  ·rw[if_pos h]
   refine⟨.inr ⟨k,by omega,h.2,rfl⟩,by omega,fun s hs hf=>?_⟩
   by_cases hk:s=k
   ·subst hk;omega
   ·have:=h3 s (by omega) hf;omega
  ·rw[if_neg h]
   refine⟨?_,h2,fun s hs hf=>?_⟩
   ·rcases h1 with h1|⟨s,h4,h5,h6⟩
    ·exact .inl h1
    ·exact .inr ⟨s,by omega,h5,h6⟩
   ·by_cases hk:s=k
    ·subst hk
     by_cases hlt:wrU p m s<valueS p (setU p m s p.offers.length)
     ·exact absurd ⟨hlt,hf⟩ h
     ·omega
    ·exact h3 s (by omega) hf
theorem has_bit {s j:Nat}:hasI (s:Int) (j:Int)=s.testBit j:=by
 unfold hasI
 rw[Nat.testBit_eq_decide_div_mod_eq,Int.toNat_natCast]
 rw[Bool.eq_iff_iff,decide_eq_true_eq,decide_eq_true_eq]
 have h1:((2^j:Nat):Int)=2^j:=by push_cast;rfl
 have h:((s / 2^j % 2:Nat):Int)=(s:Int) / 2^j % 2:=by rw[←h1];omega
 omega
theorem bits_ex (P:Nat→Bool):∀n:Nat,∃s:Nat,s<2^n∧∀j,j<n→s.testBit j=P j
 |0=>⟨0,by simp,fun j hj=>absurd hj (Nat.not_lt_zero _)⟩
 |n+1=>by
  obtain⟨s,h1,h2⟩:=bits_ex P n
  cases hP:P n with
  |true=>
   refine⟨2^n+s,by rw[Nat.pow_succ];omega,fun j hj=>?_⟩
   by_cases hjn:j=n
   ·subst hjn
    rw[Nat.testBit_two_pow_add_eq,Nat.testBit_lt_two_pow h1,hP]
    rfl
   ·rw[Nat.testBit_two_pow_add_gt (by omega)]
    exact h2 j (by omega)
  |false=>
   refine⟨s,by rw[Nat.pow_succ];omega,fun j hj=>?_⟩
   by_cases hjn:j=n
   ·subst hjn
    rw[Nat.testBit_lt_two_pow h1,hP]
   ·exact h2 j (by omega)
theorem inc_ext:∀{a b:List Int},a.Pairwise (·<·)→b.Pairwise (·<·)→(∀x,x∈a↔x∈b)→a=b
 |[],[],_,_,_=>rfl
 |[],y::b,_,_,h=>by
  have:=(h y).2 (by simp)
  simp at this
 |x::a,[],_,_,h=>by
  have:=(h x).1 (by simp)
  simp at this
 |x::a,y::b,ha,hb,h=>by
  obtain⟨a1,a2⟩:=List.pairwise_cons.1 ha
  obtain⟨b1,b2⟩:=List.pairwise_cons.1 hb
  have hxy:x=y:=by
   rcases List.mem_cons.1 ((h x).1 (by simp)) with h1|h1
   ·exact h1
   ·rcases List.mem_cons.1 ((h y).2 (by simp)) with h2|h2
    ·exact h2.symm
    ·have:=b1 x h1
     have:=a1 y h2
     omega
  subst hxy
  rw[inc_ext a2 b2 fun z=>?_]
  constructor
  ·intro hz
   have:=a1 z hz
   rcases List.mem_cons.1 ((h z).1 (by simp[hz])) with h1|h1
   ·omega
   ·exact h1
  ·intro hz
   have:=b1 z hz
   rcases List.mem_cons.1 ((h z).2 (by simp[hz])) with h1|h1
   ·omega
   ·exact h1
theorem inM_has {p:Prob} {m j:Int} (m0:0≤m) (m1:m<256):inM p m j↔hasI m (bidI p j)=true:=by
 unfold inM bitI hasI bidI
 obtain⟨k0,k1⟩:=half_nn (i:=((nthD p.offers j.toNat SId.off.dflt).bidder).toNat) m0
 rw[and_one k0 (by omega),decide_eq_true_eq]
theorem tab_get {p:Prob} {m:Int} (m0:0≤m) (m1:m<2^p.classes.length):nthD (tabS p) m.toNat 0=bestS p ⟨m,p.supply,p.opn⟩:=by
 have hpn:((2^p.classes.length:Nat):Int)=2^p.classes.length:=by push_cast;rfl
 unfold tabS tabP nthD
 have h:m.toNat<2^p.classes.length:=by omega
 simp only[List.getElem?_map,List.getElem?_range h,Option.map_some,Option.getD_some]
 rw[show((m.toNat:Nat):Int)=m by omega]
theorem best_ge {p:Prob} {m:Int} (hc:checkE p=0) (m0:0≤m) (m1:m<2^p.classes.length) {t:List Int} (ht:FeasI p t) (hm:∀j∈t,hasI m (bidI p j)=true):valueS p t≤nthD (tabS p) m.toNat 0:=by
 have hg:=good_of hc
 have hp:=pow8 hg.1
 rw[tab_get m0 m1,←src_worth hc m0 m1,feasI_val hc ht]
 have:=(@src_ge p m hc p.offers.length 0 [] 0 ⟨[],0⟩).2 t ⟨ht.1,fun j hj=>(inM_has m0 (by omega)).2 (hm j hj),fun _=>by simpa using ht⟩
 unfold sumI at this
 omega
theorem best_hit {p:Prob} {m:Int} (hc:checkE p=0) (m0:0≤m) (m1:m<2^p.classes.length):∃t,FeasI p t∧(∀j∈t,hasI m (bidI p j)=true)∧valueS p t=nthD (tabS p) m.toNat 0:=by
 have hg:=good_of hc
 have hp:=pow8 hg.1
 rw[tab_get m0 m1,←src_worth hc m0 m1]
 rcases @src_hit p m hc p.offers.length 0 [] 0 ⟨[],0⟩ with h|⟨t,h1,h2⟩
 ·refine⟨[],feasI_nil hg,by simp,?_⟩
  rw[h,feasI_val hc (feasI_nil hg)]
  rfl
 ·by_cases ht:t=[]
  ·subst ht
   refine⟨[],feasI_nil hg,by simp,?_⟩
   rw[h2,feasI_val hc (feasI_nil hg)]
   rfl
  ·have hF:FeasI p t:=by simpa using h1.2.2 ht
   refine⟨t,hF,fun j hj=>(inM_has m0 (by omega)).1 (h1.2.1 j hj),?_⟩
   rw[h2,feasI_val hc hF]
   unfold sumI
   omega
theorem wort_eq {p:Prob} {m:Int} (hc:checkE p=0) (m0:0≤m) (m1:m<2^p.classes.length):wortW p m=nthD (tabS p) m.toNat 0:=by
 have hg:=good_of hc
 have hp:=pow8 hg.1
 obtain⟨h1,h2,h3⟩:=@wr_top p m (2^p.offers.length)
 obtain⟨_,hb⟩:=tabS_ok hg
 have hb:=hb m.toNat
 unfold wortW
 apply Int.le_antisymm
 ·rcases h1 with h1|⟨s,h4,h5,h6⟩
  ·omega
  ·rw[h6]
   refine best_ge hc m0 m1 ((feas_iff hc).1 h5) fun j hj=>?_
   obtain⟨k,rfl,_,_,h7⟩:=setU_mem.1 hj
   exact h7
 ·obtain⟨t,hF,hm,hv⟩:=best_hit hc m0 m1
  rw[←hv]
  obtain⟨s,hs,hbit⟩:=bits_ex (fun j=>decide ((j:Int)∈t)) p.offers.length
  have ht:setU p m s p.offers.length=t:=by
   refine inc_ext setU_inc hF.1.1 fun x=>?_
   constructor
   ·intro hx
    obtain⟨k,rfl,hk,h7,h8⟩:=setU_mem.1 hx
    rw[has_bit,hbit k hk] at h7
    exact of_decide_eq_true h7
   ·intro hx
    have:=hF.1.2 x hx
    refine setU_mem.2 ⟨x.toNat,by omega,by omega,?_,?_⟩
    ·rw[has_bit,hbit x.toNat (by omega)]
     exact decide_eq_true (by rw[show((x.toNat:Nat):Int)=x by omega];exact hx)
    ·rw[show((x.toNat:Nat):Int)=x by omega]
     exact hm x hx
  have h9:=h3 s hs (by rw[ht];exact(feas_iff hc).2 hF)
  rw[ht] at h9
  exact h9
def winQ (p:Prob) (c:List Int) (m:Int) (n:Nat):Int:=(List.range n).foldl (fun(s:Int) (j:Nat)=>if hasI m (bidI p (nthD c j 0))=true then s+valI p (nthD c j 0) else s) 0
theorem winQ_succ {p:Prob} {c:List Int} {m:Int} {n:Nat}:winQ p c m (n+1)=if hasI m (bidI p (nthD c n 0))=true then winQ p c m n+valI p (nthD c n 0) else winQ p c m n:=by
 unfold winQ
 rw[List.range_succ,List.foldl_append]
 rfl
def memS (V:List Int) (m:Int) (n:Nat):Int:=(List.range n).foldl (fun(s:Int) (j:Nat)=>if hasI m j=true then s+nthD V j 0 else s) 0
theorem memS_succ {V:List Int} {m:Int} {n:Nat}:memS V m (n+1)=if hasI m n=true then memS V m n+nthD V n 0 else memS V m n:=by
 unfold memS
 rw[List.range_succ,List.foldl_append]
 rfl
theorem least_mem {V:List Int} {m w:Int}:∀{n:Nat},leastU V m w n=w - memS V m n
 |0=>by simp[leastU,memS]
 |n+1=>by
  rw[leastU_succ,memS_succ,@least_mem V m w n]
  split<;>omega
theorem memS_set {V:List Int} {m v:Int} {b:Nat}:∀{n:Nat},b<V.length→memS (V.set b v) m n=memS V m n+(if b<n∧hasI m b=true then v - nthD V b 0 else 0)
 |0,_=>by simp[memS]
 |n+1,hb=>by
  have ih:=@memS_set V m v b n hb
  rw[memS_succ,memS_succ,ih]
  have hget:nthD (V.set b v) n 0=if n=b then v else nthD V n 0:=by
   unfold nthD
   by_cases hn:n=b
   ·subst hn;simp[hb]
   ·rw[if_neg hn,List.getElem?_set_ne (fun h=>hn h.symm)]
  rw[hget]
  by_cases hn:n=b
  ·subst hn
   by_cases h1:hasI m n=true
   ·simp[h1]<;>omega
   ·simp[h1]
  ·have e:(b<n+1∧hasI m b=true)↔(b<n∧hasI m b=true):=by
    constructor
    ·rintro⟨a,c⟩;exact⟨by omega,c⟩
    ·rintro⟨a,c⟩;exact⟨by omega,c⟩
   rw[if_neg hn]
   have e2:(if b<n+1∧hasI m b=true then v - nthD V b 0 else 0)=(if b<n∧hasI m b=true then v - nthD V b 0 else 0):=by simp only[e]
   rw[e2]
   generalize (if b<n∧hasI m b=true then v - nthD V b 0 else 0)=X
   by_cases h5:hasI m n=true
   ·rw[if_pos h5,if_pos h5];omega
   ·rw[if_neg h5,if_neg h5]
theorem memS_zero {m:Int} {k:Nat}:∀{n:Nat},memS (List.replicate k 0) m n=0
 |0=>rfl
 |n+1=>by
  rw[memS_succ,@memS_zero m k n]
  have:nthD (List.replicate k (0:Int)) n 0=0:=by
   unfold nthD
   rw[List.getElem?_replicate]
   split<;>rfl
  rw[this]
  simp
theorem nthD_ne {l:List Int} {i b:Nat} {v:Int} (h:¬i=b):nthD (l.set i v) b 0=nthD l b 0:=by
 unfold nthD
 rw[List.getElem?_set_ne h]
theorem vals_nth {p:Prob} {c:List Int} (hcl:∀i∈c,0≤i∧i<p.offers.length) (hb:∀i∈c,0≤bidI p i∧bidI p i<p.classes.length):∀{n:Nat},n≤c.length→∀b:Nat,(∀j,j<n→bidI p (nthD c j 0)≠b)→nthD (valsS p (c.take n)) b 0=0
 |0,_,b,_=>by
  have:valsS p (c.take 0)=List.replicate p.classes.length 0:=rfl
  rw[this]
  unfold nthD
  rw[List.getElem?_replicate]
  split<;>rfl
 |n+1,hn,b,h=>by
  rw[vals_succ (by omega)]
  have ih:=@vals_nth p c hcl hb n (by omega) b fun j hj=>h j (by omega)
  unfold setV
  have h1:=h n (by omega)
  have h2:=hb _ (nthD_mem (d:=0) (show n<c.length by omega))
  have hne:¬(bidI p (nthD c n 0)).toNat=b:=by omega
  have hq:(nthD p.offers (nthD c n 0).toNat SId.off.dflt).bidder=bidI p (nthD c n 0):=rfl
  rw[hq,nthD_ne hne]
  exact ih
theorem mem_win {p:Prob} {c:List Int} {m:Int} (hcl:∀i∈c,0≤i∧i<p.offers.length) (hb:∀i∈c,0≤bidI p i∧bidI p i<p.classes.length) (hnd:∀i j,i<j→j<c.length→bidI p (nthD c i 0)≠bidI p (nthD c j 0)):∀{n:Nat},n≤c.length→memS (valsS p (c.take n)) m p.classes.length=winQ p c m n
 |0,_=>memS_zero
 |n+1,hn=>by
  have ih:=@mem_win p c m hcl hb hnd n (by omega)
  have h2:=hb _ (nthD_mem (d:=0) (show n<c.length by omega))
  have hz:=vals_nth (n:=n) hcl hb (by omega) (bidI p (nthD c n 0)).toNat fun j hj=>by
   have:=hnd j n hj (by omega)
   omega
  rw[vals_succ (by omega),winQ_succ]
  unfold setV
  have hq:(nthD p.offers (nthD c n 0).toNat SId.off.dflt).bidder=bidI p (nthD c n 0):=rfl
  have hv:(nthD p.offers (nthD c n 0).toNat SId.off.dflt).value=valI p (nthD c n 0):=rfl
  have hlen:=@vals_lenN p (c.take n)
  rw[hq,hv,memS_set (by omega),ih,hz,show(((bidI p (nthD c n 0)).toNat:Nat):Int)=bidI p (nthD c n 0) by omega]
  by_cases h:hasI m (bidI p (nthD c n 0))=true
  ·rw[if_pos ⟨by omega,h⟩,if_pos h];omega
  ·rw[if_neg (fun h3=>h h3.2),if_neg h];omega
theorem feas_bid {p:Prob} {c:List Int} (hf:feasE p c=0):Good p∧(∀i∈c,0≤i∧i<p.offers.length)∧(∀i∈c,0≤bidI p i∧bidI p i<p.classes.length)∧(∀i j,i<j→j<c.length→bidI p (nthD c i 0)≠bidI p (nthD c j 0))∧c.length≤p.offers.length:=by
 obtain⟨q1,q2,hg,hcl,hix⟩:=feas_ok hf
 have hnd:=feas_nd hf
 have hI:=(feas_iff q1).1 hf
 refine⟨hg,hix,fun i hi=>?_,fun i j hij hj=>?_,?_⟩
 ·have h1:=hix i hi
  have hx:=hg.2.2.2.2 _ (nthD_mem (d:=SId.off.dflt) (show i.toNat<p.offers.length by omega))
  exact⟨hx.1,hx.2.1⟩
 ·have hlen:((offsI p c).map Off.bidder).length=c.length:=by unfold offsI;simp
  have h2:=List.pairwise_iff_getElem.1 hnd i j (by omega) (by omega) hij
  intro h3
  apply h2
  unfold offsI
  simp only[List.getElem_map]
  have e1:=nthD_eq (d:=(0:Int)) (show i<c.length by omega)
  have e2:=nthD_eq (d:=(0:Int)) hj
  rw[e1,e2] at h3
  exact h3
 ·have h1:=hI.1.1
  have:∀(l:List Int) (k:Int),l.Pairwise (·<·)→(∀x∈l,k≤x∧x<p.offers.length)→k≤p.offers.length→(l.length:Int)≤p.offers.length - k:=by
   intro l
   induction l with
   |nil=>intro k _ _ _;simp;omega
   |cons x l ih=>
    intro k hp hx _
    obtain⟨p1,p2⟩:=List.pairwise_cons.1 hp
    have h5:=hx x (by simp)
    have:=ih (x+1) p2 (fun y hy=>by have:=p1 y hy;have:=hx y (by simp[hy]);omega) (by omega)
    simp only[List.length_cons]
    omega
  have:=this c 0 h1 (fun x hx=>hix x hx) (by omega)
  omega
theorem has_add {x:Int} {n:Nat} (x0:0≤x) (x1:x<2^n) (j:Nat):hasI (x+2^n) j=(if j=n then true else hasI x j)∨n<j:=by
 by_cases hj:n<j
 ·exact .inr hj
 left
 have hpn:((2^n:Nat):Int)=2^n:=by push_cast;rfl
 obtain⟨k,rfl⟩:=Int.eq_ofNat_of_zero_le x0
 have h1:((k:Nat):Int)+2^n=((2^n+k:Nat):Int):=by omega
 have h2:k<2^n:=by omega
 rw[h1,has_bit]
 by_cases hjn:j=n
 ·subst hjn
  rw[if_pos rfl,Nat.testBit_two_pow_add_eq,Nat.testBit_lt_two_pow h2]
  rfl
 ·rw[if_neg hjn,Nat.testBit_two_pow_add_gt (by omega)]
  exact has_bit.symm
theorem has_lt {x:Int} {n j:Nat} (x0:0≤x) (x1:x<2^n) (h:n≤j):hasI x j=false:=by
 have hpn:((2^n:Nat):Int)=2^n:=by push_cast;rfl
 obtain⟨k,rfl⟩:=Int.eq_ofNat_of_zero_le x0
 rw[has_bit]
 exact Nat.testBit_lt_two_pow (Nat.lt_of_lt_of_le (show k<2^n by omega) (Nat.pow_le_pow_right (by omega) h))
theorem pay_bits {V:List Int} {m:Int}:∀{n:Nat} (j:Nat),hasI (payU V m n) j=(decide (j<n)&&(decide (0<nthD V j 0)&&!hasI m j))
 |0,j=>by
  have:payU V m 0=0:=rfl
  rw[this,has_lt (n:=0) (by omega) (by simp) (by omega)]
  simp
 |n+1,j=>by
  have ih:=@pay_bits V m n j
  have hb:=@payU_bd V m n
  rw[payU_succ]
  by_cases h:0<nthD V n 0∧hasI m n=false
  ·rw[if_pos h]
   rcases has_add (x:=payU V m n) hb.1 hb.2 j with h1|h1
   ·rw[h1]
    by_cases hj:j=n
    ·subst hj
     rw[if_pos rfl]
     simp[h.1,h.2]
    ·rw[if_neg hj,ih]
     have:decide (j<n)=decide (j<n+1):=by
      rw[Bool.eq_iff_iff,decide_eq_true_eq,decide_eq_true_eq];omega
     rw[this]
   ·have hb1:=@payU_bd V m (n+1)
    rw[payU_succ,if_pos h] at hb1
    rw[has_lt hb1.1 hb1.2 (by omega)]
    have:decide (j<n+1)=false:=decide_eq_false (by omega)
    rw[this]
    rfl
  ·rw[if_neg h,ih]
   by_cases hj:j=n
   ·subst hj
    have h1:decide (j<j)=false:=decide_eq_false (by omega)
    have h2:decide (j<j+1)=true:=decide_eq_true (by omega)
    rw[h1,h2]
    by_cases h3:0<nthD V j 0
    ·have h4:hasI m j=true:=by
      cases h5:hasI m j with
      |true=>rfl
      |false=>exact absurd ⟨h3,h5⟩ h
     simp[h4]
    ·simp[h3]
   ·have:decide (j<n)=decide (j<n+1):=by
     rw[Bool.eq_iff_iff,decide_eq_true_eq,decide_eq_true_eq];omega
    rw[this]
theorem ints_nth {V:List Int} {j:Nat}:valF (nthD (intsF V) j sF.dflt)=((nthD V j 0:Int):Rat):=by
 unfold intsF nthD
 rw[List.getElem?_map]
 by_cases h:j<V.length
 ·rw[List.getElem?_eq_getElem h]
  simp only[Option.map_some,Option.getD_some]
  exact valF_frE _
 ·rw[List.getElem?_eq_none (by omega)]
  rfl
theorem paid_ints {V:List Int} {P:Int}:∀{n:Nat},paidQ (intsF V) P n=((memS V P n:Int):Rat)
 |0=>rfl
 |n+1=>by
  rw[paidQ_succ,memS_succ,@paid_ints V P n]
  split
  ·rw[ints_nth]
   exact(Rat.intCast_add _ _).symm
  ·rfl
def totS (V:List Int) (n:Nat):Int:=memS V (2^n - 1) n
theorem all_has {k j:Nat} (h:j<k):hasI (2^k - 1) j=true:=by
 have hpn:((2^k:Nat):Int)=2^k:=by push_cast;rfl
 have hp:=Nat.two_pow_pos k
 rw[show(2:Int)^k - 1=((2^k - 1:Nat):Int) by omega,has_bit,Nat.testBit_two_pow_sub_one]
 exact decide_eq_true h
theorem mem_split {V:List Int} {m A P:Int} (hv:∀v∈V,0≤v∧v≤1000000000000000):∀{n:Nat},n≤V.length→(∀j:Nat,j<n→hasI A j=true)→(∀j:Nat,j<n→hasI P j=(decide (0<nthD V j 0)&&!hasI m j))→memS V m n+memS V P n=memS V A n
 |0,_,_,_=>rfl
 |n+1,hn,hA,hP=>by
  have ih:=@mem_split V m A P hv n (by omega) (fun j hj=>hA j (by omega)) (fun j hj=>hP j (by omega))
  have hx:=hv _ (nthD_mem (d:=0) (show n<V.length by omega))
  rw[memS_succ,memS_succ,memS_succ,if_pos (hA n (by omega)),hP n (by omega)]
  cases h1:hasI m n with
  |true=>simp;omega
  |false=>
   by_cases h2:0<nthD V n 0
   ·simp[h2];omega
   ·simp[h2];omega
theorem gain_ints {V:List Int} {m w:Int} (hv:∀v∈V,0≤v∧v≤1000000000000000):gainQ V (intsF V) m w=((w - totS V V.length:Int):Rat):=by
 have h2:(intsF V).length=V.length:=by unfold intsF;simp
 unfold gainQ lU
 rw[least_mem,h2,paid_ints]
 have h1:=mem_split (V:=V) (m:=m) (A:=2^V.length - 1) (P:=pU V m) hv (Nat.le_refl _) (fun j hj=>all_has hj) (fun j hj=>by
  unfold pU
  rw[pay_bits,decide_eq_true hj,Bool.true_and])
 have h3:((w - memS V m V.length:Int):Rat) - ((memS V (pU V m) V.length:Int):Rat)=((w - memS V m V.length - memS V (pU V m) V.length:Int):Rat):=(Rat.intCast_sub _ _).symm
 rw[h3]
 congr 1
 unfold totS
 omega
theorem tot_val {p:Prob} {c:List Int} (hf:feasE p c=0):totS (valsS p c) p.classes.length=valueS p c:=by
 obtain⟨hgd,hix,hbd,hnd,hcl⟩:=feas_bid hf
 have hc:checkE p=0:=(feas_ok hf).1
 have h3:=mem_win (m:=2^p.classes.length - 1) hix hbd hnd (Nat.le_refl c.length)
 rw[List.take_length] at h3
 unfold totS
 rw[h3,feasI_val hc ((feas_iff hc).1 hf)]
 have:∀n,n≤c.length→winQ p c (2^p.classes.length - 1) n=sumV (offsI p (c.take n)):=by
  intro n
  induction n with
  |zero=>intro _;rfl
  |succ n ih=>
   intro hn
   have hb:=hbd _ (nthD_mem (d:=0) (show n<c.length by omega))
   have ha:=@all_has p.classes.length (bidI p (nthD c n 0)).toNat (by omega)
   rw[show(((bidI p (nthD c n 0)).toNat:Nat):Int)=bidI p (nthD c n 0) by omega] at ha
   rw[winQ_succ,if_pos ha,ih (by omega),take_snoc (by omega)]
   unfold offsI
   rw[List.map_append,sumV_append]
   simp[sumV,valI]
 have:=this c.length (Nat.le_refl _)
 rw[List.take_length] at this
 exact this
theorem tab_all {p:Prob} {m:Int} (hc:checkE p=0) (m0:0≤m) (m1:m<2^p.classes.length):nthD (tabS p) m.toNat 0≤nthD (tabS p) (2^p.classes.length - 1:Int).toNat 0:=by
 have hg:=good_of hc
 have hp:=pow8 hg.1
 obtain⟨t,hF,hm,hv⟩:=best_hit hc m0 m1
 rw[←hv]
 refine best_ge hc (by omega) (by omega) hF fun j hj=>?_
 have hj2:=hF.1.2 j hj
 have hx:=hg.2.2.2.2 _ (nthD_mem (d:=SId.off.dflt) (show j.toNat<p.offers.length by omega))
 have hx1:0≤bidI p j:=hx.1
 have hx2:bidI p j<p.classes.length:=hx.2.1
 have ha:=@all_has p.classes.length (bidI p j).toNat (by omega)
 rwa [show(((bidI p j).toNat:Nat):Int)=bidI p j by omega] at ha
theorem val_all {p:Prob} {c:List Int} (hf:feasE p c=0):valueS p c≤nthD (tabS p) (2^p.classes.length - 1:Int).toNat 0:=by
 obtain⟨hgd,hix,hbd,hnd,hcl⟩:=feas_bid hf
 have hc:checkE p=0:=(feas_ok hf).1
 have hp:=pow8 hgd.1
 refine best_ge hc (by omega) (by omega) ((feas_iff hc).1 hf) fun j hj=>?_
 have hb:=hbd j hj
 have ha:=@all_has p.classes.length (bidI p j).toNat (by omega)
 rwa [show(((bidI p j).toNat:Nat):Int)=bidI p j by omega] at ha
theorem own_pay {p:Prob} {c:List Int} (hf:feasE p c=0) (h6:p.classes.length≤6):payOk (intsF (valsS p c)):=by
 obtain⟨hV,h8,hv⟩:=vals_good hf
 exact pay_ints (by omega) fun n hn=>by have:=hv n hn;omega
theorem own_core {p:Prob} {c:List Int} (hf:feasE p c=0):coreE p c (intsF (valsS p c))=0↔valueS p c=nthD (tabS p) (2^p.classes.length - 1:Int).toNat 0:=by
 obtain⟨hV,h8,hv⟩:=vals_good hf
 have hc:checkE p=0:=(feas_ok hf).1
 obtain⟨hT,ht⟩:=tabS_ok (good_of hc)
 have hp:=pow8 h8
 have hfc:faultC p c=0:=by
  unfold faultC
  rw[if_neg (by omega)]
  exact hc
 have hil:(intsF (valsS p c)).length=p.classes.length:=by unfold intsF;rw[List.length_map,hV]
 have hb:=faultC_len hfc hil
 have htv:=tot_val hf
 have hva:=val_all hf
 have hr:ratB p c (intsF (valsS p c))=true:=ratB_iff.2 ⟨hf,hil,fun j hj=>by
  unfold rat1
  rw[ints_nth,Bool.and_eq_true,decide_eq_true_eq,decide_eq_true_eq]
  have:=hv _ (nthD_mem (d:=0) (show j<(valsS p c).length by omega))
  exact⟨Rat.intCast_nonneg.2 this.1,Rat.le_refl⟩⟩
 rw[core_iff hb]
 obtain⟨t1,t2⟩:=@blk_top (valsS p c) (tabS p) (intsF (valsS p c)) (tabS p).length
 have hG:∀m w:Int,gainQ (valsS p c) (intsF (valsS p c)) m w=((w - valueS p c:Int):Rat):=fun m w=>by
  rw[gain_ints hv,hV,htv]
 constructor
 ·rintro⟨_,hng⟩
  have h1:=t2 (2^p.classes.length - 1:Int).toNat (by omega)
  rw[hG] at h1
  have h2:¬0<(blkU (valsS p c) (tabS p) (intsF (valsS p c)) (tabS p).length).g:=hng
  have h3:((nthD (tabS p) (2^p.classes.length - 1:Int).toNat 0 - valueS p c:Int):Rat)≤((0:Int):Rat):=by
   have:((0:Int):Rat)=0:=rfl
   rw[this]
   grind
  have h4:=Rat.intCast_le_intCast.1 h3
  omega
 ·intro he
  refine⟨hr,fun hg=>?_⟩
  rcases t1 with t1|⟨h1,j,hj,h2⟩
  ·have h3:(blkS p c (intsF (valsS p c))).g=0:=t1.1
   rw[h3] at hg
   exact absurd hg (by decide)
  ·rw[hG] at h2
   rw[h2] at h1
   have h4:=tab_all (m:=(j:Int)) hc (by omega) (by omega)
   have h5:((nthD (tabS p) j 0 - valueS p c:Int):Rat)≤((0:Int):Rat):=Rat.intCast_le_intCast.2 (by rw[Int.toNat_natCast] at h4;omega)
   have:((0:Int):Rat)=0:=rfl
   grind
theorem own_need {p:Prob} {c:List Int} (hf:feasE p c=0):0<lstU (valsS p c) (tabS p) 0 (tabS p).length↔¬valueS p c=nthD (tabS p) (2^p.classes.length - 1:Int).toNat 0:=by
 obtain⟨hV,h8,hv⟩:=vals_good hf
 have hc:checkE p=0:=(feas_ok hf).1
 obtain⟨hT,ht⟩:=tabS_ok (good_of hc)
 have hp:=pow8 h8
 have htv:=tot_val hf
 have hva:=val_all hf
 obtain⟨t1,t2⟩:=@lst_top (valsS p c) (tabS p) 0 (tabS p).length
 have hL:∀m w:Int,pU (valsS p c) m=0→lU (valsS p c) m w=w - valueS p c:=fun m w hm=>by
  unfold lU
  rw[least_mem,←htv]
  have h1:=mem_split (V:=valsS p c) (m:=m) (A:=2^(valsS p c).length - 1) (P:=pU (valsS p c) m) hv (Nat.le_refl _) (fun j hj=>all_has hj) (fun j hj=>by
   unfold pU
   rw[pay_bits,decide_eq_true hj,Bool.true_and])
  have h2:∀n:Nat,memS (valsS p c) 0 n=0:=by
   intro n
   induction n with
   |zero=>rfl
   |succ n ih=>
    rw[memS_succ,ih,has_lt (n:=0) (by omega) (by decide) (by omega)]
    rfl
  rw[hm,h2] at h1
  unfold totS
  rw[hV] at h1 ⊢
  omega
 constructor
 ·intro h0 he
  rcases t1 with t1|⟨_,j,hj,h1,h2⟩
  ·omega
  ·rw[hL _ _ h1] at h2
   have h4:=tab_all (m:=(j:Int)) hc (by omega) (by omega)
   rw[Int.toNat_natCast] at h4
   omega
 ·intro hne
  have hpu:pU (valsS p c) ((2^p.classes.length - 1:Int).toNat:Nat)=0:=by
   unfold pU
   have hb:=@payU_bd (valsS p c) ((2^p.classes.length - 1:Int).toNat:Nat) (valsS p c).length
   rw[hV] at hb ⊢
   have hbits:∀j:Nat,hasI (payU (valsS p c) ((2^p.classes.length - 1:Int).toNat:Nat) p.classes.length) j=false:=fun j=>by
    rw[pay_bits]
    by_cases hj:j<p.classes.length
    ·have:=all_has hj
     rw[show(((2^p.classes.length - 1:Int).toNat:Nat):Int)=2^p.classes.length - 1 by omega,this]
     simp
    ·rw[decide_eq_false hj]
     rfl
   obtain⟨k,hk⟩:=Int.eq_ofNat_of_zero_le hb.1
   rw[hk] at hbits ⊢
   have:k=0:=Nat.eq_of_testBit_eq fun j=>by
    have:=hbits j
    rw[has_bit] at this
    rw[this]
    simp
   omega
  have h1:=t2 (2^p.classes.length - 1:Int).toNat (by omega) hpu
  rw[hL _ _ hpu] at h1
  omega
theorem need_head {V T:List Int} {n:Nat}:(0<(needU V T (n+1)).length∧(nthD (needU V T (n+1)) 0 SId.need.dflt).payers=0)↔0<lstU V T 0 T.length:=by
 constructor
 ·rintro⟨h1,h2⟩
  obtain⟨q,hq,h3,h4⟩:=need_mem.1 (nthD_mem (d:=SId.need.dflt) h1)
  rw[h4] at h2
  have h2:(q:Int)=0:=h2
  have:q=0:=by omega
  subst this
  exact h3
 ·intro h
  have h1:needU V T (n+1)=⟨0,lstU V T 0 T.length⟩::((List.range n).map Nat.succ).filterMap fun(q:Nat)=>if 0<lstU V T q T.length then some (⟨(q:Int),lstU V T q T.length⟩:Need) else none:=by
   unfold needU
   rw[List.range_succ_eq_map,List.filterMap_cons]
   have h0:(if 0<lstU V T ((0:Nat):Int) T.length then some (⟨((0:Nat):Int),lstU V T ((0:Nat):Int) T.length⟩:Need) else none)=some ⟨0,lstU V T 0 T.length⟩:=if_pos h
   rw[h0]
  rw[h1]
  exact⟨by simp,rfl⟩
def r14:SCtr:=⟨14,Prob×Alloc,.cons codP (.one codA),fun a=>a.2.chosen.length≤9223372036854775807,fun _=> .sb true⟩
theorem h14:Holds Try.prog r14:=by
 refine con (L:=[r38,r55,r39,r57,r56,r58,r54,r40,r47]) r14 F14 (fun _ _=> .look) (OwnOK.none _) (by simpa using⟨h38,h55,h39,h57,h56,h58,h54,h40,h47⟩) (by kernel_rfl) (by kernel_rfl) (fun _=>rfl) ?_
 rintro⟨p,⟨c,v⟩⟩ h
 refine vcOf (let z0:=decide ((8:Int)<(↑p.offers.length:Int));let z1:=!(decide (p.offers.length≤12)&&decide (p.classes.length≤6));let z2:=decide (feasE p c≠(0:Int));let z3:=(↑p.classes.length:Int);let z4:=(1:Int)*(2:Int)^z3.toNat;let z5:=z4 - (1:Int);let z6:=decide (faultC p c≠(0:Int));let z7:=if faultC p c=(0:Int) then needS p c else[];let z8:=decide ((0:Int)<(↑z7.length:Int));let z9:=decide (valueS p c=wortW p z5);let z10:=decide (coreE p c (intsF (valsS p c))=(0:Int))==z9;let z11:=decide ((nthD z7 0 SId.need.dflt).payers=(0:Int))==!z9;(z0=true→True∧(SV.sb true).same (SV.sb true))∧(z0=false→True∧(z1=true→True∧(SV.sb true).same (SV.sb true))∧(z1=false→c.length≤9223372036854775807∧(z2=true→True∧(SV.sb true).same (SV.sb true))∧(z2=false→feasE p c=(0:Int)∧((valsS p c).length≤1000∧∀(n:Int),n∈valsS p c→(-9223372036854775808:Int)≤n∧n≤(9223372036854775807:Int))∧c.length≤9223372036854775807∧(0:Int)≤z3∧z3≤(64:Int)∧inR .i64 z4∧inR .i64 z5∧((checkE p=(0:Int)∧p.offers.length≤8)∧(0:Int)≤z5∧z5<(256:Int))∧c.length≤9223372036854775807∧(z6=true→True∧(SV.sb true).same (SV.sb true))∧(z6=false→(z8=true→(0:Int)≤(0:Int)∧(0:Int)<(↑z7.length:Int)∧0<z7.length∧(c.length≤9223372036854775807∧payOk (intsF (valsS p c)))∧(z10=true→(z11=true→True∧(SV.sb true).same (SV.sb true))∧(z11=false→(SV.bl false).same (SV.sb true)))∧(z10=false→(SV.bl false).same (SV.sb true)))∧(z8=false→(c.length≤9223372036854775807∧payOk (intsF (valsS p c)))∧(z10=true→((false==!z9)=true→True∧(SV.sb true).same (SV.sb true))∧((false==!z9)=false→(SV.bl false).same (SV.sb true)))∧(z10=false→(SV.bl false).same (SV.sb true)))))))) (by kernel_rfl) ?_
 simp only[vcs]
 have h:c.length≤9223372036854775807:=h
 have e0:(1:Int)*2^((p.classes.length:Int)).toNat=2^p.classes.length:=by rw[Int.one_mul,Int.toNat_natCast]
 rw[e0]
 refine⟨fun _=>trivial,fun ho=>⟨fun _=>trivial,fun hw=>⟨h,fun _=>trivial,fun hf=>?_⟩⟩⟩
 have hf:feasE p c=0:=by simpa using hf
 have hc:checkE p=0:=(feas_ok hf).1
 obtain⟨hV,h8,hv⟩:=vals_good hf
 obtain⟨hT,ht⟩:=tabS_ok (good_of hc)
 have hp:=pow8 h8
 have hp6:(2:Int)^p.classes.length≤256:=hp.1
 have hfc:faultC p c=0:=by
  unfold faultC
  rw[if_neg (by omega)]
  exact hc
 have hpay:=own_pay hf hw.2
 have hcore:=own_core hf
 have hneed:=own_need hf
 have hwt:=wort_eq (m:=2^p.classes.length - 1) hc (by omega) (by omega)
 have hh:=@need_head (valsS p c) (tabS p) ((tabS p).length - 1)
 rw[show(tabS p).length - 1+1=(tabS p).length by omega] at hh
 have hN:needU (valsS p c) (tabS p) (tabS p).length=needS p c:=rfl
 rw[hN] at hh
 rw[hwt]
 simp only[hfc,if_true]
 generalize nthD (tabS p) (2^p.classes.length - 1:Int).toNat 0=X at*
 have d1:(valsS p c).length≤1000∧∀n:Int,n∈valsS p c→ -9223372036854775808≤n∧n≤9223372036854775807:=⟨by omega,fun n hn=>by have:=hv n hn;omega⟩
 refine⟨hf,d1,h,by omega,by omega,by omega,by omega,⟨⟨hc,by omega⟩,by omega,by omega⟩,h,fun hz=>absurd hz (by simp),fun _=>⟨fun hl=>⟨by omega,by omega,by omega,⟨h,hpay⟩,?_⟩,fun hl=>⟨⟨h,hpay⟩,?_⟩⟩⟩
 ·by_cases hb:valueS p c=X
  ·have h1:=hcore.2 hb
   have h2:¬(nthD (needS p c) 0 SId.need.dflt).payers=0:=fun h3=>hneed.1 (hh.1 ⟨by omega,h3⟩) hb
   simp[hb,h1,h2]
  ·have h1:¬coreE p c (intsF (valsS p c))=0:=fun h3=>hb (hcore.1 h3)
   have h2:=(hh.2 (hneed.2 hb)).2
   simp[hb,h1,h2]
 ·by_cases hb:valueS p c=X
  ·have h1:=hcore.2 hb
   simp[hb,h1]
  ·exact absurd (hh.2 (hneed.2 hb)).1 (by omega)
end Go.Vi
