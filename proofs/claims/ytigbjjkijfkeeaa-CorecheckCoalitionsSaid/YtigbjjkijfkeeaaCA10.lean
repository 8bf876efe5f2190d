/-
  Contracts: the coalitions one by one; the needs (the program and the reference).
  Conditions: none.
-/
import Derived.Test.YtigbjjkijfkeeaaCA06
import Derived.Test.YtigbjjkijfkeeaaCA07
import Derived.Test.YtigbjjkijfkeeaaCA08
import Derived.Test.YtigbjjkijfkeeaaCA09
set_option maxRecDepth 100000
set_option maxHeartbeats 4000000
set_option linter.unusedSimpArgs false
set_option linter.unusedVariables false
namespace Go.Vi
open Go.Proofs.Ytigbjjkijfkeeaa.Ir
open Go.Proofs
def r88:OCtr where
 f:=88
 α:=List Int×List Int
 put a:=[.row (.i .i64) a.1,.row (.i .i64) a.2]
 st _:=[]
 dec v o:=match v,o with
  |[a,b],[]=>match decRow (.i .i64) a,decRow (.i .i64) b with
   |some a,some b=>some (a,b)
   |_,_=>none
  |_,_=>none
 ok v o a h:=by
  match v,o,h with
  |[x,y],[],h=>
   simp only at h
   split at h
   ·rename_i h1 h2
    simp only[Option.some.injEq] at h;subst h
    simp only[gL,decRow_ok h1,decRow_ok h2,and_self]
   ·cases h
 inj a b h _:=by
  simp only[gL,List.cons.injEq,and_true] at h
  exact Prod.ext ((codR (.i .i64)).inj _ _ h.1) ((codR (.i .i64)).inj _ _ h.2)
 dom _:=True
 res _:=.fn (.func 122) [] [.ptr 0 0 1,.ptr 1 0 1]
 out a:=[.cells [.row (.i .i64) a.1] 32 1 false,.cells [.row (.i .i64) a.2] 32 1 false]
theorem h88:HoldsO Try.prog r88:=by
 refine conN (L:=[]) (W:=[]) r88 F88 (fun _=>none) (fun _ _=> .look) (by simp) (by simp) (by kernel_rfl) (fun _=>rfl) (fun _=>rfl) (by kernel_rfl) ?_
 rintro⟨a,b⟩ -
 refine vcOf (let z0:=SV.fn (Fn.func 122) [] [SV.ptr 0 0 1,SV.ptr 1 0 1];let z1:=SObj.cells [SV.row (SId.i .i64) a] 32 1 false;let z2:=SObj.cells [SV.row (SId.i .i64) b] 32 1 false;z0.same z0∧z1.same z1∧z2.same z2∧True) (by kernel_rfl) ?_
 simp only[vcs]
 repeat' refine And.intro ?_ ?_
 all_goals rfl
def pU (V:List Int) (m:Int):Int:=payU V m V.length
def lU (V:List Int) (m w:Int):Int:=leastU V m w V.length
def lstU (V T:List Int) (pay:Int) (k:Nat):Int:=(List.range k).foldl (fun(s:Int) (m:Nat)=>if pU V m=pay then max s (lU V m (nthD T m 0)) else s) 0
theorem lstU_succ {V T:List Int} {pay:Int} {k:Nat}:lstU V T pay (k+1)=if pU V k=pay then max (lstU V T pay k) (lU V k (nthD T k 0)) else lstU V T pay k:=by
 unfold lstU
 rw[List.range_succ,List.foldl_append]
 rfl
def bestU (V T:List Int) (k:Nat):List Int:=(List.range T.length).map fun(q:Nat)=>lstU V T q k
def needU (V T:List Int) (n:Nat):List Need:=(List.range n).filterMap fun(q:Nat)=>if 0<lstU V T q T.length then some ⟨(q:Int),lstU V T q T.length⟩ else none
theorem bestU_len {V T:List Int} {k:Nat}:(bestU V T k).length=T.length:=by simp[bestU]
theorem bestU_get {V T:List Int} {k q:Nat} (h:q<T.length):nthD (bestU V T k) q 0=lstU V T q k:=by
 unfold bestU nthD
 simp[h]
theorem bestU_succ {V T:List Int} {k:Nat} (h0:0≤pU V k) (h1:pU V k<T.length):(bestU V T k).set (pU V k).toNat (max (nthD (bestU V T k) (pU V k).toNat 0) (lU V k (nthD T k 0)))=bestU V T (k+1):=by
 rw[bestU_get (by omega)]
 apply List.ext_getElem
 ·simp[bestU]
 ·intro i h2 h3
  rw[List.getElem_set]
  simp only[bestU,List.getElem_map,List.getElem_range,lstU_succ]
  simp only[bestU,List.length_map,List.length_range] at h3
  by_cases he:(pU V k).toNat=i
  ·subst he
   rw[if_pos rfl,if_pos (by omega),show(((pU V k).toNat:Nat):Int)=pU V k by omega]
  ·rw[if_neg he,if_neg (by omega)]
theorem needU_succ {V T:List Int} {n:Nat}:needU V T (n+1)=if 0<lstU V T n T.length then needU V T n++[⟨(n:Int),lstU V T n T.length⟩] else needU V T n:=by
 unfold needU
 rw[List.range_succ,List.filterMap_append]
 simp only[List.filterMap_cons,List.filterMap_nil]
 by_cases h:0<lstU V T n T.length
 ·simp[h]
 ·simp[h]
theorem or_pow {x:Int} {i:Nat} (x0:0≤x) (x1:x<2^i) (hi:i≤8):binK.orI .i64 x (1*2^i)=x+2^i:=by
 obtain⟨m,rfl⟩:=Int.eq_ofNat_of_zero_le x0
 have hp:=pow8 hi
 have hpn:((2^i:Nat):Int)=2^i:=by push_cast;rfl
 have h1:(BitVec.ofInt 64 ((m:Nat):Int)).toNat=m:=by rw[BitVec.toNat_ofInt];omega
 have h2:(BitVec.ofInt 64 (1*2^i)).toNat=2^i*1:=by rw[BitVec.toNat_ofInt];omega
 have h3:(BitVec.ofInt 64 ((m:Nat):Int) |||BitVec.ofInt 64 (1*2^i)).toNat=2^i+m:=by
  rw[BitVec.toNat_or,h1,h2,Nat.or_comm,←Nat.two_pow_add_eq_or_of_lt (by omega)]
  omega
 show wrapI .i64 ((BitVec.ofInt 64 ((m:Nat):Int) |||BitVec.ofInt 64 (1*2^i)).toNat:Nat)=_
 rw[h3,wrapI_eq]
 simp only[IntKind.wrap,IntKind.bits,IntKind.signed]
 simp
 omega
def tabA (a:Prob×Alloc):List Int:=if faultC a.1 a.2.chosen=0 then tabS a.1 else[]
def valA' (a:Prob×Alloc):List Int:=if faultC a.1 a.2.chosen=0 then valsS a.1 a.2.chosen else[]
def st40 (a:Prob×Alloc) (b:List Int):SStore:=[.cells a.1.ss 27 20 false,.cells [.row (.i .i64) a.2.chosen,.si .i64 a.2.value] 31 2 false,.row (.i .i64) b 2 true,.cells [.ow 2 b.length 1] 32 1 false,
 .cells [.row (.i .i64) (if faultC a.1 a.2.chosen=0 then tabS a.1 else[])] 32 1 false,.cells [.row (.i .i64) (if faultC a.1 a.2.chosen=0 then valsS a.1 a.2.chosen else[])] 32 1 false]
theorem cowE {i u v e:Nat} (h:u=v):(SObj.cells [.ow i u 1] e 1 false).same (SObj.cells [.ow i v 1] e 1 false):=by subst h;rfl
theorem faultC_zero {p:Prob} {c:List Int} (h:faultC p c=0):feasE p c=0∧checkE p=0:=by
 unfold faultC at h
 split at h
 ·rename_i h1;exact absurd h h1
 ·rename_i h1
  exact⟨by simpa using h1,h⟩
theorem tabS_ok {p:Prob} (hg:Good p):((tabS p).length:Int)=2^p.classes.length∧∀m:Nat,0≤nthD (tabS p) m 0∧nthD (tabS p) m 0≤8000000:=by
 refine⟨by unfold tabS tabP;rw[List.length_map,List.length_range];push_cast;rfl,fun m=>?_⟩
 unfold tabS tabP nthD
 by_cases h:m<2^p.classes.length
 ·simp only[List.getElem?_map,List.getElem?_range h,Option.map_some,Option.getD_some]
  exact bestS_bd hg _
 ·rw[List.getElem?_eq_none (by simp;omega)]
  simp
def Λ40 (a:Prob×Alloc):Nat→LoopAnn
 |1001=> .inv (Int×List Int) (fun x=>⟨[(0,.fn (.yield 0) [] []),(2,.ptr 5 0 1),(9,.row (.i .i64) (if faultC a.1 a.2.chosen=0 then tabS a.1 else[])),(10,.si .i64 (if faultC a.1 a.2.chosen=0 then tabS a.1 else[]).length),(11,.si .i64 x.1)],st40 a x.2⟩)
   (fun s=>(iS s 11,oS (.i .i64) s 2)) (fun x=>(0≤x.1∧x.1≤(tabA a).length)∧x.2=bestU (valA' a) (tabA a) x.1.toNat) (fun x=>((tabA a).length - x.1).toNat) fun x k=>match k with
    |5=> .inv (Int×Int×Int) (fun y=>⟨[(0,.fn (.yield 0) [] []),(2,.ptr 5 0 1),(4,.si .i64 x.1),(6,.ptr 6 0 4),(9,.row (.i .i64) (if faultC a.1 a.2.chosen=0 then tabS a.1 else[])),(10,.si .i64 (if faultC a.1 a.2.chosen=0 then tabS a.1 else[]).length),(11,.si .i64 x.1),
      (22,.row (.i .i64) (if faultC a.1 a.2.chosen=0 then valsS a.1 a.2.chosen else[])),(23,.si .i64 (if faultC a.1 a.2.chosen=0 then valsS a.1 a.2.chosen else[]).length),(24,.si .i64 y.1)],
      st40 a x.2++[.cells [.si .i64 x.1,.si .i64 (nthD (if faultC a.1 a.2.chosen=0 then tabS a.1 else[]) x.1.toNat 0),.si .i64 y.2.1,.si .i64 y.2.2] 120 4 false]⟩)
      (fun s=>(iS s 24,cS (.i .i64) s 6 2,cS (.i .i64) s 6 3)) (fun y=>(0≤y.1∧y.1≤(valA' a).length)∧y.2.1=payU (valA' a) x.1 y.1.toNat∧y.2.2=leastU (valA' a) x.1 (nthD (tabA a) x.1.toNat 0) y.1.toNat) (fun y=>((valA' a).length - y.1).toNat) fun _ _=> .look
    |_=> .look
 |10=> .inv (Int×List Int×List Need) (fun x=>⟨[(11,.ow 6 x.2.2.length 2),(46,.ow 2 x.2.1.length 1),(47,.si .i64 x.2.1.length),(48,.si .i64 x.1)],st40 a x.2.1++[.row .need x.2.2 83 true]⟩)
   (fun s=>(iS s 48,oS (.i .i64) s 2,oS .need s 6)) (fun x=>(0≤x.1∧x.1≤(tabA a).length)∧x.2.1=bestU (valA' a) (tabA a) (tabA a).length∧x.2.2=needU (valA' a) (tabA a) x.1.toNat) (fun x=>((tabA a).length - x.1).toNat) fun _ _=> .look
 |_=> .look
def needS (p:Prob) (c:List Int):List Need:=needU (valsS p c) (tabS p) (tabS p).length
def r40:SCtr:=⟨40,Prob×Alloc,.cons codP (.one codA),fun a=>a.2.chosen.length≤9223372036854775807,fun a=> .tup [.row .need (if faultC a.1 a.2.chosen=0 then needS a.1 a.2.chosen else[]),.si .i64 (faultC a.1 a.2.chosen)]⟩
theorem h40:Holds Try.prog r40:=by
 refine con (L:=[r87]) (W:=ownT [r88]) r40 F40 Λ40 (ownT_ok (by simpa using h88)) (by simpa using h87) (by kernel_rfl) (by kernel_rfl) (fun _=>rfl) ?_
 rintro⟨p,⟨c,v⟩⟩ h
 refine vcOf (let z0:=decide (faultC p c≠(0:Int));let z1:=SId.i .i64;let z2:=[SV.si .i64 (faultC p c)];let z3:=SV.tup (SV.row SId.need (if faultC p c=(0:Int) then needS p c else[])::z2);let z4:=if faultC p c=(0:Int) then tabS p else[];let z5:=(↑z4.length:Int);let z6:=SV.fn (Fn.yield 0) [] [];let z7:=SV.ptr 5 0 1;let z8:=SV.row z1 z4;let z9:=if faultC p c=(0:Int) then tabS p else[];let z10:=SV.si .i64 (↑z9.length:Int);let z11:=SV.il .i64 0;let z12:=SV.si .i64 0;let z13:=SObj.cells [SV.si .i64 p.supply.a0,SV.si .i64 p.supply.a1,SV.si .i64 p.supply.a2,SV.si .i64 p.supply.a3,SV.si .i64 p.supply.a4,SV.si .i64 p.supply.a5,SV.si .i64 p.opn.a0,SV.si .i64 p.opn.a1,SV.si .i64 p.opn.a2,SV.si .i64 p.opn.a3,SV.si .i64 p.opn.a4,SV.si .i64 p.opn.a5,SV.si .i64 p.cls.a0,SV.si .i64 p.cls.a1,SV.si .i64 p.cls.a2,SV.si .i64 p.cls.a3,SV.si .i64 p.cls.a4,SV.si .i64 p.cls.a5,SV.row z1 p.classes,SV.row SId.off p.offers] 27 20 false;let z14:=SObj.cells [SV.row z1 c,SV.si .i64 v] 31 2 false;let z15:=List.replicate z5.toNat (0:Int);let z16:=SObj.row z1 z15 2 true;let z17:=SObj.cells [z8] 32 1 false;let z18:=if faultC p c=(0:Int) then valsS p c else[];let z19:=SV.row z1 z18;let z20:=SObj.cells [z19] 32 1 false;let z21:=tabA (p,Alloc.mk c v);let z22:=(↑z21.length:Int);let z23:=valA' (p,Alloc.mk c v);let z24:=SV.ptr 6 0 4;let z25:=(↑(if faultC p c=(0:Int) then valsS p c else[]).length:Int);let z26:=SV.si .i64 z25;let z27:=(↑z23.length:Int);let z28:=SV.ow 6 0 2;let z29:=SObj.row SId.need [] 83 true;let z30:=bestU z23 z21 z21.length;c.length≤9223372036854775807∧(z0=true→(SV.tup (SV.row z1 []::z2)).same z3)∧(z0=false→(0:Int)≤z5∧z5≤z5∧z5*(8:Int)≤(140737488355328:Int)∧z5≤(1000000000000:Int)∧True∧(((z6.same z6∧z7.same z7∧z8.same z8∧(SV.si .i64 z5).same z10∧z11.same z12∧True)∧z13.same z13∧z14.same z14∧z16.same z16∧(SObj.cells [SV.ow 2 z5.toNat 1] 32 1 false).same (SObj.cells [SV.ow 2 z15.length 1] 32 1 false)∧z17.same z17∧z20.same z20∧True)∧((0:Int)≤(0:Int)∧(0:Int)≤z22)∧z15=bestU z23 z21 0)∧∀(x:Int×List Int),let z31:=x.fst.toNat;let z32:=decide (x.fst<(↑z9.length:Int));let z33:=SV.si .i64 x.fst;let z34:=SObj.row z1 x.snd 2 true;let z35:=x.snd.length;let z36:=SV.ow 2 z35 1;let z37:=SObj.cells [z36] 32 1 false;let z38:=nthD z4 z31 (0:Int);let z39:=SV.si .i64 z38;let z40:=SV.si .i64 (nthD z9 z31 (0:Int));let z41:=nthD z21 z31 (0:Int);let z42:=x.snd.length;let z43:=x.fst+(1:Int);let z44:=SV.si .i64 z43;let z45:=SV.si .i64 (↑z35:Int);((0:Int)≤x.fst∧x.fst≤z22)∧x.snd=bestU z23 z21 z31→(z32=true→(0:Int)≤x.fst∧x.fst<z5∧z31<z4.length∧(((z6.same z6∧z7.same z7∧z33.same z33∧z24.same z24∧z8.same z8∧z10.same z10∧z33.same z33∧z19.same z19∧(SV.si .i64 (↑z18.length:Int)).same z26∧z11.same z12∧True)∧z13.same z13∧z14.same z14∧z34.same z34∧z37.same z37∧z17.same z17∧z20.same z20∧(SObj.cells [z33,z39,z11,z39] 120 4 false).same (SObj.cells [z33,z40,z12,z39] 120 4 false)∧True)∧((0:Int)≤(0:Int)∧(0:Int)≤z27)∧(0:Int)=payU z23 x.fst 0∧z38=leastU z23 x.fst z41 0)∧∀(x_1:Int×Int×Int),let z46:=x_1.fst.toNat;let z47:=decide (x_1.fst<z25);let z48:=decide (binK.andI .i64 (x.fst / (2:Int)^z46) (1:Int)=(1:Int));let z49:=nthD z18 z46 (0:Int);let z50:=x_1.snd.snd - z49;let z51:=x_1.fst+(1:Int);let z52:=SV.si .i64 z51;let z53:=SV.si .i64 x_1.snd.fst;let z54:=SObj.cells [z33,z40,z53,SV.si .i64 z50] 120 4 false;let z55:=payU z23 x.fst z51.toNat;let z56:=leastU z23 x.fst z41 z51.toNat;let z57:=decide ((0:Int)<z49);let z58:=(1:Int)*(2:Int)^z46;let z59:=binK.orI .i64 x_1.snd.fst z58;let z60:=[SV.si .i64 x_1.snd.snd];let z61:=SObj.cells (z33::z40::SV.si .i64 z59::z60) 120 4 false;let z62:=SObj.cells (z33::z40::z53::z60) 120 4 false;let z63:=x_1.snd.fst.toNat;let z64:=x.snd.set z63 (max (nthD x.snd z63 (0:Int)) x_1.snd.snd);let z65:=SObj.row z1 z64 2 true;((0:Int)≤x_1.fst∧x_1.fst≤z27)∧x_1.snd.fst=payU z23 x.fst z46∧x_1.snd.snd=leastU z23 x.fst z41 z46→(z47=true→(0:Int)≤x_1.fst∧x_1.fst<(↑z18.length:Int)∧z46<z18.length∧(0:Int)≤x_1.fst∧x_1.fst≤(64:Int)∧(z48=true→inR .i64 z50∧inR .i64 z51∧((z6.same z6∧z7.same z7∧z33.same z33∧z24.same z24∧z8.same z8∧z10.same z10∧z33.same z33∧z19.same z19∧z26.same z26∧z52.same z52∧True)∧z13.same z13∧z14.same z14∧z34.same z34∧z37.same z37∧z17.same z17∧z20.same z20∧z54.same z54∧True)∧(((0:Int)≤z51∧z51≤z27)∧x_1.snd.fst=z55∧z50=z56)∧(z27 - z51).toNat<(z27 - x_1.fst).toNat)∧(z48=false→(z57=true→(0:Int)≤x_1.fst∧x_1.fst≤(64:Int)∧inR .i64 z58∧inR .i64 z51∧((z6.same z6∧z7.same z7∧z33.same z33∧z24.same z24∧z8.same z8∧z10.same z10∧z33.same z33∧z19.same z19∧z26.same z26∧z52.same z52∧True)∧z13.same z13∧z14.same z14∧z34.same z34∧z37.same z37∧z17.same z17∧z20.same z20∧z61.same z61∧True)∧(((0:Int)≤z51∧z51≤z27)∧z59=z55∧x_1.snd.snd=z56)∧(z27 - z51).toNat<(z27 - x_1.fst).toNat)∧(z57=false→inR .i64 z51∧((z6.same z6∧z7.same z7∧z33.same z33∧z24.same z24∧z8.same z8∧z10.same z10∧z33.same z33∧z19.same z19∧z26.same z26∧z52.same z52∧True)∧z13.same z13∧z14.same z14∧z34.same z34∧z37.same z37∧z17.same z17∧z20.same z20∧z62.same z62∧True)∧(((0:Int)≤z51∧z51≤z27)∧x_1.snd.fst=z55∧x_1.snd.snd=z56)∧(z27 - z51).toNat<(z27 - x_1.fst).toNat)))∧(z47=false→z35=z42∧(0:Int)≤x_1.snd.fst∧x_1.snd.fst<(↑z42:Int)∧z35=z42∧z63<z42∧z35=z42∧(0:Int)≤x_1.snd.fst∧x_1.snd.fst<(↑z42:Int)∧z35=z42∧z63<z42∧inR .i64 z43∧((z6.same z6∧z7.same z7∧z8.same z8∧z10.same z10∧z44.same z44∧True)∧z13.same z13∧z14.same z14∧z65.same z65∧z37.same (SObj.cells [SV.ow 2 z64.length 1] 32 1 false)∧z17.same z17∧z20.same z20∧True)∧(((0:Int)≤z43∧z43≤z22)∧z64=bestU z23 z21 z43.toNat)∧(z22 - z43).toNat<(z22 - x.fst).toNat))∧(z32=false→(((z28.same z28∧z36.same z36∧z45.same z45∧z11.same z12∧True)∧z13.same z13∧z14.same z14∧z34.same z34∧z37.same z37∧z17.same z17∧z20.same z20∧z29.same z29∧True)∧((0:Int)≤(0:Int)∧(0:Int)≤z22)∧x.snd=z30∧[]=needU z23 z21 0)∧∀(x:Int×List Int×List Need),let z66:=x.snd.fst.length;let z67:=decide (x.fst<(↑z66:Int));let z68:=x.snd.fst.length;let z69:=nthD x.snd.fst x.fst.toNat (0:Int);let z70:=decide ((0:Int)<z69);let z71:=x.snd.snd.length+1;let z72:=x.fst+(1:Int);let z73:=x.snd.snd++[Need.mk x.fst z69];let z74:=SV.ow 2 z66 1;let z75:=SV.si .i64 (↑z66:Int);let z76:=SV.si .i64 z72;let z77:=SObj.row z1 x.snd.fst 2 true;let z78:=SObj.cells [z74] 32 1 false;let z79:=SObj.row SId.need z73 83 true;let z80:=needU z23 z21 z72.toNat;let z81:=SV.ow 6 x.snd.snd.length 2;let z82:=SObj.row SId.need x.snd.snd 83 true;((0:Int)≤x.fst∧x.fst≤z22)∧x.snd.fst=z30∧x.snd.snd=needU z23 z21 x.fst.toNat→(z67=true→z66=z68∧(0:Int)≤x.fst∧x.fst<(↑z68:Int)∧z66=z68∧x.fst.toNat<z68∧(z70=true→x.snd.snd.length=x.snd.snd.length∧z71*16≤140737488355328∧z71≤1000000000000∧inR .i64 z72∧(((SV.ow 6 z73.length 2).same (SV.ow 6 z73.length 2)∧z74.same z74∧z75.same z75∧z76.same z76∧True)∧z13.same z13∧z14.same z14∧z77.same z77∧z78.same z78∧z17.same z17∧z20.same z20∧z79.same z79∧True)∧(((0:Int)≤z72∧z72≤z22)∧x.snd.fst=z30∧z73=z80)∧(z22 - z72).toNat<(z22 - x.fst).toNat)∧(z70=false→inR .i64 z72∧((z81.same z81∧z74.same z74∧z75.same z75∧z76.same z76∧True)∧z13.same z13∧z14.same z14∧z77.same z77∧z78.same z78∧z17.same z17∧z20.same z20∧z82.same z82∧True)∧(((0:Int)≤z72∧z72≤z22)∧x.snd.fst=z30∧x.snd.snd=z80)∧(z22 - z72).toNat<(z22 - x.fst).toNat))∧(z67=false→x.snd.snd.length=x.snd.snd.length∧(SV.tup [SV.row SId.need x.snd.snd,z11]).same z3)))) (by kernel_rfl) ?_
 simp only[vcs]
 refine⟨h,fun hne=>?_,fun hz=>?_⟩
 ·rw[if_neg hne]
  rfl
 have hz:faultC p c=0:=by simpa using hz
 obtain⟨hf,hc⟩:=faultC_zero hz
 have hg:=good_of hc
 obtain⟨hV,h8,hv⟩:=vals_good hf
 obtain⟨hT,ht⟩:=tabS_ok hg
 have hp8:=pow8 h8
 simp only[tabA,valA',hz,if_true,needS]
 generalize tabS p=T at*
 generalize valsS p c=V at*
 have b0:(List.replicate ((T.length:Nat):Int).toNat (0:Int))=bestU V T 0:=by
  apply List.ext_getElem
  ·simp[bestU]
  ·intro i h1 h2
   simp[bestU,lstU]
 refine⟨by omega,by omega,by omega,by omega,?_,?_⟩
 ·repeat' refine And.intro ?_ ?_
  all_goals first|omega|rfl|exact howO (by simp)|exact cowE (by simp)|exact b0
 rintro⟨m,b⟩ ⟨⟨m0,m1⟩,hb⟩
 simp only at m0 m1 hb ⊢
 subst hb
 have hw:=ht m.toNat
 have em:((m.toNat:Nat):Int)=m:=by omega
 have em1:(m+1).toNat=m.toNat+1:=by omega
 refine⟨fun hm=>⟨by omega,by omega,by omega,?_,?_⟩,fun hm=>?_⟩
 ·repeat' refine And.intro ?_ ?_
  all_goals first|omega|rfl
 ·rintro⟨i,q,l⟩ ⟨⟨i0,i1⟩,hq,hl⟩
  simp only at i0 i1 hq hl ⊢
  subst hq
  subst hl
  have e:(i+1).toNat=i.toNat+1:=by omega
  have ei:((i.toNat:Nat):Int)=i:=by omega
  have hsp:=@payU_succ V m i.toNat
  have hsl:=@leastU_succ V m (nthD T m.toNat 0) i.toNat
  rw[ei] at hsp hsl
  have hb:=@payU_bd V m i.toNat
  have hl:=@leastU_bd V m (nthD T m.toNat 0) hv i.toNat (by omega)
  obtain⟨n0,n1⟩:=half_nn (i:=i.toNat) m0
  have ha:binK.andI .i64 (m / 2^i.toNat) 1=m / 2^i.toNat % 2:=and_one n0 (by omega)
  have hI:hasI m i=decide (m / 2^i.toNat % 2=1):=rfl
  rw[ha]
  refine⟨fun hi=>?_,fun hi=>?_⟩
  ·have hx:=hv _ (nthD_mem (d:=0) (show i.toNat<V.length by omega))
   have hp:=pow8 (n:=i.toNat) (by omega)
   rw[e,hsp,hsl,hI]
   refine⟨by omega,by omega,by omega,by omega,by omega,fun h1=>?_,fun h1=>⟨fun h2=>?_,fun h2=>?_⟩⟩
   ·have h1':decide (m / 2^i.toNat % 2=1)=true:=by simpa using h1
    rw[if_neg (fun h=>by rw[h1'] at h;exact absurd h.2 (by decide)),if_pos h1']
    repeat' refine And.intro ?_ ?_
    all_goals first|omega|rfl
   ·have h1':decide (m / 2^i.toNat % 2=1)=false:=by simpa using h1
    have ho:=or_pow hb.1 hb.2 (show i.toNat≤8 by omega)
    rw[ho,if_pos ⟨h2,h1'⟩,if_neg (fun h=>by rw[h1'] at h;exact absurd h (by decide))]
    repeat' refine And.intro ?_ ?_
    all_goals first|omega|rfl
   ·have h1':decide (m / 2^i.toNat % 2=1)=false:=by simpa using h1
    rw[if_neg (fun h=>h2 h.1),if_neg (fun h=>by rw[h1'] at h;exact absurd h (by decide))]
    repeat' refine And.intro ?_ ?_
    all_goals first|omega|rfl
  ·have hiV:i.toNat=V.length:=by omega
   rw[hiV] at hb hl ⊢
   have hb2:payU V m V.length<T.length:=by rw[hT,←hV];exact hb.2
   have hs:=@bestU_succ V T m.toNat (by rw[em];exact hb.1) (by rw[em];exact hb2)
   rw[em] at hs
   unfold pU lU at hs
   have hbl:=@bestU_len V T m.toNat
   rw[em1,←hs]
   generalize bestU V T m.toNat=B at*
   repeat' refine And.intro ?_ ?_
   all_goals first|omega|rfl|exact cowE (by simp)
 ·have hmT:m.toNat=T.length:=by omega
  rw[hmT]
  have hbl:=@bestU_len V T T.length
  refine⟨?_,?_⟩
  ·repeat' refine And.intro ?_ ?_
   all_goals first|omega|rfl
  rintro⟨i,b,out⟩ ⟨⟨i0,i1⟩,hb,ho⟩
  simp only at i0 i1 hb ho ⊢
  subst hb
  subst ho
  have ei:((i.toNat:Nat):Int)=i:=by omega
  have e:(i+1).toNat=i.toNat+1:=by omega
  have hol:(needU V T i.toNat).length≤i.toNat:=by
   unfold needU
   refine Nat.le_trans (List.length_filterMap_le _ _) ?_
   simp
  refine⟨fun hi=>?_,fun hi=>?_⟩
  ·have hgt:=@bestU_get V T T.length i.toNat (by omega)
   have hsu:=@needU_succ V T i.toNat
   rw[ei] at hsu hgt
   rw[e,hsu,hgt]
   refine⟨by omega,by omega,by omega,fun hp=>?_,fun hp=>?_⟩
   ·rw[if_pos hp]
    repeat' refine And.intro ?_ ?_
    all_goals first|omega|rfl|(simp;omega)
   ·rw[if_neg hp]
    repeat' refine And.intro ?_ ?_
    all_goals first|omega|rfl
  ·rw[show i.toNat=T.length by omega]
   repeat' refine And.intro ?_ ?_
   all_goals first|omega|rfl|trivial
def r38:SCtr:=⟨38,Prob,.one codP,fun _=>True,fun p=> .sb (decide (p.offers.length≤12)&&decide (p.classes.length≤6))⟩
theorem h38:Holds Try.prog r38:=by
 refine con (L:=[]) r38 F38 (fun _ _=> .look) (OwnOK.none _) (by simp) (by kernel_rfl) (by kernel_rfl) (fun _=>rfl) ?_
 rintro(p:Prob) -
 refine vcOf (let z0:=decide ((↑p.offers.length:Int)≤(12:Int));let z1:=SV.sb (decide (p.offers.length≤12)&&decide (p.classes.length≤6));(z0=true→(SV.sb (decide ((↑p.classes.length:Int)≤(6:Int)))).same z1)∧(z0=false→(SV.bl false).same z1)) (by kernel_rfl) ?_
 simp only[vcs]
 refine⟨fun h=>?_,fun h=>?_⟩
 ·have:decide (p.offers.length≤12)=true:=by simp;omega
  rw[this]
  simp
  omega
 ·have:decide (p.offers.length≤12)=false:=by simp;omega
  rw[this]
  rfl
def Λ42 (a:List Need×List Need):Nat→LoopAnn
 |4=> .inv Int (fun x=>⟨[(0,.row .need a.1),(1,.row .need a.2),(12,.si .i64 a.1.length),(13,.si .i64 x)],[]⟩) (fun s=>iS s 13) (fun x=>(0≤x∧x≤a.1.length)∧∀j:Nat,(j:Int)<x→nthD a.1 j SId.need.dflt=nthD a.2 j SId.need.dflt) (fun x=>(a.1.length - x).toNat) fun _ _=> .look
 |_=> .look
def r42:SCtr:=⟨42,List Need×List Need,.cons (codR .need) (.one (codR .need)),fun a=>a.1.length≤1000000000∧a.2.length≤1000000000,fun a=> .sb (decide (a.1=a.2))⟩
theorem h42:Holds Try.prog r42:=by
 refine con (L:=[]) r42 F42 Λ42 (OwnOK.none _) (by simp) (by kernel_rfl) (by kernel_rfl) (fun _=>rfl) ?_
 rintro⟨a,b⟩ ⟨ha,hb⟩
 refine vcOf (let z0:=(↑a.length:Int);let z1:=decide (z0≠(↑b.length:Int));let z2:=SV.sb (decide (a=b));let z3:=(↑a.length:Int);let z4:=SV.si .i64 z3;let z5:=SId.need.dflt;(z1=true→(SV.bl false).same z2)∧(z1=false→((((SV.row SId.need a).same (SV.row SId.need a)∧(SV.row SId.need b).same (SV.row SId.need b)∧(SV.si .i64 z0).same z4∧(SV.il .i64 0).same (SV.si .i64 0)∧True)∧True)∧((0:Int)≤(0:Int)∧(0:Int)≤z3)∧∀(j:Nat),(↑j:Int)<(0:Int)→nthD a j z5=nthD b j z5)∧∀(x:Int),let z6:=!(decide ((nthD a x.toNat z5).payers=(nthD b x.toNat z5).payers)&&(decide ((nthD a x.toNat z5).least=(nthD b x.toNat z5).least)&&true));let z7:=x+(1:Int);let z8:=SV.si .i64 z7;(((0:Int)≤x∧x≤z3)∧∀(j:Nat),(↑j:Int)<x→nthD a j z5=nthD b j z5)→(decide (x<z3)=true→(0:Int)≤x∧x<z0∧x.toNat<a.length∧(0:Int)≤x∧x<(↑b.length:Int)∧x.toNat<b.length∧(z6=true→(SV.bl false).same z2)∧(z6=false→inR .i64 z7∧(((SV.row SId.need a).same (SV.row SId.need a)∧(SV.row SId.need b).same (SV.row SId.need b)∧z4.same z4∧z8.same z8∧True)∧True)∧(((0:Int)≤z7∧z7≤z3)∧∀(j:Nat),(↑j:Int)<z7→nthD a j z5=nthD b j z5)∧(z3 - z7).toNat<(z3 - x).toNat))∧(decide (x<z3)=false→(SV.bl true).same z2))) (by kernel_rfl) ?_
 simp only[vcs]
 have ha:a.length≤1000000000:=ha
 have hb:b.length≤1000000000:=hb
 refine⟨fun hne=>?_,fun hl=>?_⟩
 ·have:¬a=b:=fun h=>by subst h;omega
  simp[this]
 refine⟨⟨⟨by omega,by omega⟩,fun j hj=>by omega⟩,?_⟩
 rintro x ⟨⟨x0,x1⟩,hx⟩
 refine⟨fun hi=>⟨by omega,by omega,by omega,by omega,by omega,by omega,fun hd=>?_,fun hd=>?_⟩,fun hi=>?_⟩
 ·have:¬a=b:=fun h=>by subst h;simp at hd
  simp[this]
 ·have he:nthD a x.toNat SId.need.dflt=nthD b x.toNat SId.need.dflt:=by
   generalize nthD a x.toNat SId.need.dflt=u at*
   generalize nthD b x.toNat SId.need.dflt=w at*
   obtain⟨u1,u2⟩:=u
   obtain⟨w1,w2⟩:=w
   simp only at hd
   rw[hd.1,hd.2]
  refine⟨by omega,⟨⟨by omega,by omega⟩,fun j hj=>?_⟩,by omega⟩
  by_cases hjx:(j:Int)<x
  ·exact hx j hjx
  ·have:j=x.toNat:=by omega
   subst this
   exact he
 ·have:a=b:=List.ext_getElem (by omega) fun j h1 h2=>by
   have:=hx j (by omega)
   simpa[nthD,h1,h2] using this
  simp[this]
def payOk (l:List Fra):Prop:=l.length≤10∧∀x∈l,∃q,x=frE q∧Sz 3 q
def paidQ (l:List Fra) (m:Int) (n:Nat):Rat:=(List.range n).foldl (fun(s:Rat) (j:Nat)=>if hasI m j=true then s+valF (nthD l j sF.dflt) else s) 0
theorem paidQ_succ {l:List Fra} {m:Int} {n:Nat}:paidQ l m (n+1)=if hasI m n=true then paidQ l m n+valF (nthD l n sF.dflt) else paidQ l m n:=by
 unfold paidQ
 rw[List.range_succ,List.foldl_append]
 rfl
theorem payOk_get {l:List Fra} (h:payOk l) {n:Nat} (hn:n<l.length):∃q,nthD l n sF.dflt=frE q∧Sz 3 q:=h.2 _ (nthD_mem hn)
theorem sz_zero:Sz 1 0:=by unfold Sz;decide
theorem paidQ_sz {l:List Fra} {m:Int} (h:payOk l):∀{n:Nat},n≤l.length→Sz (1+4*n) (paidQ l m n)
 |0,_=>by simpa[paidQ] using sz_zero
 |n+1,hn=>by
  have h1:=@paidQ_sz l m h n (by omega)
  obtain⟨q,hq,hs⟩:=payOk_get h (show n<l.length by omega)
  rw[paidQ_succ]
  split
  ·rw[hq,valF_frE]
   exact(sz_add h1 hs).mono (by omega)
  ·exact h1.mono (by omega)
def r96:SCtr:=⟨96,List Fra×Int,.cons (codR sF) (.one (codI .i64)),fun a=>payOk a.1∧0≤a.2∧a.2≤9223372036854775807,fun a=>frS (paidQ a.1 a.2 a.1.length)⟩
def Λ96 (a:List Fra×Int):Nat→LoopAnn
 |3=> .inv (Int×Fra) (fun x=>⟨[(1,.si .i64 a.2),(4,.ptr 0 0 3),(5,.ptr 1 0 3),(9,.row sF a.1),(10,.si .i64 a.1.length),(11,.si .i64 x.1)],
   [.cells [.bl false,.sc (.slice none 0 0),.sc (.slice none 0 0)] 66 3 false,.cells [.sb x.2.1,.row (.i .u32) x.2.2.1,.row (.i .u32) x.2.2.2] 66 3 false]⟩)
   (fun s=>(iS s 11,cS sF s 1 0)) (fun x=>(0≤x.1∧x.1≤a.1.length)∧x.2=frE (paidQ a.1 a.2 x.1.toNat)) (fun x=>(a.1.length - x.1).toNat) fun _ _=> .look
 |_=> .look
theorem h96:Holds Try.prog r96:=by
 refine con (L:=[r94,r129]) r96 F96 Λ96 (OwnOK.none _) (by simpa using⟨h94,h129⟩) (by kernel_rfl) (by kernel_rfl) (fun _=>rfl) ?_
 rintro⟨l,m⟩ ⟨hl,m0,m1⟩
 refine vcOf (let z0:=SV.ptr 0 0 3;let z1:=SV.ptr 1 0 3;let z2:=(↑l.length:Int);let z3:=SV.si .i64 z2;let z4:=SV.sc (Value.slice none 0 0);let z5:=SObj.cells [SV.bl false,z4,z4] 66 3 false;let z6:=frE (IntCast.intCast (0:Int));let z7:=SId.i .u32;let z8:=SObj.cells [SV.sb z6.fst,SV.row z7 z6.snd.fst,SV.row z7 z6.snd.snd] 66 3 false;let z9:=frE (paidQ l m l.length);((-9223372036854775808:Int)≤(0:Int)∧(0:Int)≤(9223372036854775807:Int))∧((((SV.si .i64 m).same (SV.si .i64 m)∧z0.same z0∧z1.same z1∧(SV.row sF l).same (SV.row sF l)∧(SV.si .i64 (↑l.length:Int)).same z3∧(SV.il .i64 0).same (SV.si .i64 0)∧True)∧z5.same z5∧z8.same z8∧True)∧((0:Int)≤(0:Int)∧(0:Int)≤z2)∧(z6.fst,z6.snd.fst,z6.snd.snd)=frE (paidQ l m 0))∧∀(x:Int×Fra),let z10:=x.fst.toNat;let z11:=decide (binK.andI .i64 (m / (2:Int)^z10) (1:Int)=(1:Int));let z12:=(x.snd.fst,x.snd.snd.fst,x.snd.snd.snd);let z13:=(nthD l z10 sF.dflt).snd;let z14:=((nthD l z10 sF.dflt).fst,z13.fst,z13.snd);let z15:=x.fst+(1:Int);let z16:=SV.si .i64 z15;let z17:=frE (valF z12+valF z14);let z18:=SObj.cells [SV.sb z17.fst,SV.row z7 z17.snd.fst,SV.row z7 z17.snd.snd] 66 3 false;let z19:=frE (paidQ l m z15.toNat);let z20:=[SV.sb x.snd.fst,SV.row z7 x.snd.snd.fst,SV.row z7 x.snd.snd.snd];let z21:=SObj.cells z20 66 3 false;((0:Int)≤x.fst∧x.fst≤z2)∧x.snd=frE (paidQ l m z10)→(decide (x.fst<z2)=true→(0:Int)≤x.fst∧x.fst<(↑l.length:Int)∧z10<l.length∧(0:Int)≤x.fst∧x.fst≤(64:Int)∧(z11=true→(isF z12∧isF z14)∧inR .i64 z15∧(((SV.si .i64 m).same (SV.si .i64 m)∧z0.same z0∧z1.same z1∧(SV.row sF l).same (SV.row sF l)∧z3.same z3∧z16.same z16∧True)∧z5.same z5∧z18.same z18∧True)∧(((0:Int)≤z15∧z15≤z2)∧(z17.fst,z17.snd.fst,z17.snd.snd)=z19)∧(z2 - z15).toNat<(z2 - x.fst).toNat)∧(z11=false→inR .i64 z15∧(((SV.si .i64 m).same (SV.si .i64 m)∧z0.same z0∧z1.same z1∧(SV.row sF l).same (SV.row sF l)∧z3.same z3∧z16.same z16∧True)∧z5.same z5∧z21.same z21∧True)∧(((0:Int)≤z15∧z15≤z2)∧z12=z19)∧(z2 - z15).toNat<(z2 - x.fst).toNat))∧(decide (x.fst<z2)=false→(SV.agg z20).same (SV.agg [SV.sb z9.fst,SV.row z7 z9.snd.fst,SV.row z7 z9.snd.snd]))) (by kernel_rfl) ?_
 simp only[vcs]
 have m0:0≤m:=m0
 have m1:m≤9223372036854775807:=m1
 have hl:payOk l:=hl
 have hll:=hl.1
 have e0:(IntCast.intCast (0:Int):Rat)=paidQ l m 0:=by
  show((0:Int):Rat)=_
  simp[paidQ]
 rw[e0]
 refine⟨by omega,⟨⟨by omega,by omega⟩,rfl⟩,?_⟩
 rintro⟨i,s⟩ ⟨⟨i0,i1⟩,hs⟩
 simp only at i0 i1 hs
 subst hs
 have e:(i+1).toNat=i.toNat+1:=by omega
 have ei:((i.toNat:Nat):Int)=i:=by omega
 have hsu:=@paidQ_succ l m i.toNat
 rw[ei] at hsu
 obtain⟨n0,n1⟩:=half_nn (i:=i.toNat) m0
 have ha:binK.andI .i64 (m / 2^i.toNat) 1=m / 2^i.toNat % 2:=and_one n0 (by omega)
 have hI:hasI m i=decide (m / 2^i.toNat % 2=1):=rfl
 simp only[ha]
 refine⟨fun hi=>⟨by omega,by omega,by omega,by omega,by omega,fun h1=>?_,fun h1=>?_⟩,fun hi=>?_⟩
 ·obtain⟨q,hq,hsz⟩:=payOk_get hl (show i.toNat<l.length by omega)
  have hz:=@paidQ_sz l m hl i.toNat (by omega)
  rw[if_pos (by rw[hI];exact decide_eq_true h1)] at hsu
  have e1:valF ((frE (paidQ l m i.toNat)).1,(frE (paidQ l m i.toNat)).2.1,(frE (paidQ l m i.toNat)).2.2)+valF ((nthD l i.toNat sF.dflt).1,(nthD l i.toNat sF.dflt).2.1,(nthD l i.toNat sF.dflt).2.2)=paidQ l m (i.toNat+1):=by
   rw[hsu]
   show valF (frE (paidQ l m i.toNat))+valF (nthD l i.toNat sF.dflt)=_
   rw[valF_frE]
  refine⟨⟨⟨_,_,rfl,hz,by omega⟩,⟨q,3,hq,hsz,by omega⟩⟩,?_⟩
  rw[e,e1]
  repeat' refine And.intro ?_ ?_
  all_goals first|omega|rfl
 ·rw[if_neg (by rw[hI];simpa using h1)] at hsu
  rw[e,hsu]
  repeat' refine And.intro ?_ ?_
  all_goals first|omega|rfl
 ·rw[show i.toNat=l.length by omega]
  repeat' refine And.intro ?_ ?_
  all_goals rfl
def gainQ (V:List Int) (l:List Fra) (m w:Int):Rat:=(lU V m w:Rat) - paidQ l (pU V m) l.length
def fCells (x:Fra):SObj:=.cells [.sb x.1,.row (.i .u32) x.2.1,.row (.i .u32) x.2.2] 66 3 false
def nilF:SObj:=.cells [.bl false,.sc (.slice none 0 0),.sc (.slice none 0 0)] 66 3 false
structure Blk where
 m:Int
 w:Int
 g:Rat
def blkU (V T:List Int) (l:List Fra) (k:Nat):Blk:=(List.range k).foldl (fun(s:Blk) (m:Nat)=>if s.g<gainQ V l m (nthD T m 0) then⟨m,nthD T m 0,gainQ V l m (nthD T m 0)⟩ else s) ⟨0,0,0⟩
theorem blkU_succ {V T:List Int} {l:List Fra} {k:Nat}:blkU V T l (k+1)=if(blkU V T l k).g<gainQ V l k (nthD T k 0) then⟨k,nthD T k 0,gainQ V l k (nthD T k 0)⟩ else blkU V T l k:=by
 unfold blkU
 rw[List.range_succ,List.foldl_append]
 rfl
def blkE (p:Prob) (c:List Int) (l:List Fra):Int:=if faultC p c≠0 then faultC p c else if l.length≠p.classes.length then 3 else 0
def blkS (p:Prob) (c:List Int) (l:List Fra):Blk:=blkU (valsS p c) (tabS p) l (tabS p).length
def r44:SCtr:=⟨44,Prob×Alloc×List Fra,.cons codP (.cons codA (.one (codR sF))),fun a=>a.2.1.chosen.length≤9223372036854775807∧payOk a.2.2,
 fun a=> .tup [.agg [.si .i64 (if blkE a.1 a.2.1.chosen a.2.2=0 then(blkS a.1 a.2.1.chosen a.2.2).m else 0),.si .i64 (if blkE a.1 a.2.1.chosen a.2.2=0 then(blkS a.1 a.2.1.chosen a.2.2).w else 0)],.agg (encS sF (if blkE a.1 a.2.1.chosen a.2.2=0 then frE (blkS a.1 a.2.1.chosen a.2.2).g else(false,([],[])))),.si .i64 (blkE a.1 a.2.1.chosen a.2.2)]⟩
def st44 (a:Prob×Alloc×List Fra) (x:Int×Int×Fra):SStore:=[.cells a.1.ss 27 20 false,.cells [.row (.i .i64) a.2.1.chosen,.si .i64 a.2.1.value] 31 2 false,.cells [.row sF a.2.2] 59 1 false,.cells [.il .i64 0,.il .i64 0] 62 2 false,nilF,
 .cells [.si .i64 x.1,.si .i64 x.2.1] 62 2 false,fCells x.2.2,
 .cells [.row (.i .i64) (if faultC a.1 a.2.1.chosen=0 then tabS a.1 else[])] 32 1 false,.cells [.row (.i .i64) (if faultC a.1 a.2.1.chosen=0 then valsS a.1 a.2.1.chosen else[])] 32 1 false]
def Λ44 (a:Prob×Alloc×List Fra):Nat→LoopAnn
 |1001=> .inv (Int×Int×Int×Fra) (fun x=>⟨[(0,.fn (.yield 0) [] []),(2,.ptr 8 0 1),(9,.row (.i .i64) (if faultC a.1 a.2.1.chosen=0 then tabS a.1 else[])),(10,.si .i64 (if faultC a.1 a.2.1.chosen=0 then tabS a.1 else[]).length),(11,.si .i64 x.1)],st44 a x.2⟩)
   (fun s=>(iS s 11,cS (.i .i64) s 5 0,cS (.i .i64) s 5 1,cS sF s 6 0)) (fun x=>(0≤x.1∧x.1≤(tabS a.1).length)∧x.2.1=(blkU (valsS a.1 a.2.1.chosen) (tabS a.1) a.2.2 x.1.toNat).m∧x.2.2.1=(blkU (valsS a.1 a.2.1.chosen) (tabS a.1) a.2.2 x.1.toNat).w∧x.2.2.2=frE (blkU (valsS a.1 a.2.1.chosen) (tabS a.1) a.2.2 x.1.toNat).g) (fun x=>((tabS a.1).length - x.1).toNat) fun x k=>match k with
    |5=> .inv (Int×Int×Int) (fun y=>⟨[(0,.fn (.yield 0) [] []),(2,.ptr 8 0 1),(4,.si .i64 x.1),(6,.ptr 9 0 4),(9,.row (.i .i64) (if faultC a.1 a.2.1.chosen=0 then tabS a.1 else[])),(10,.si .i64 (if faultC a.1 a.2.1.chosen=0 then tabS a.1 else[]).length),(11,.si .i64 x.1),
      (22,.row (.i .i64) (if faultC a.1 a.2.1.chosen=0 then valsS a.1 a.2.1.chosen else[])),(23,.si .i64 (if faultC a.1 a.2.1.chosen=0 then valsS a.1 a.2.1.chosen else[]).length),(24,.si .i64 y.1)],
      st44 a x.2++[.cells [.si .i64 x.1,.si .i64 (nthD (if faultC a.1 a.2.1.chosen=0 then tabS a.1 else[]) x.1.toNat 0),.si .i64 y.2.1,.si .i64 y.2.2] 120 4 false]⟩)
      (fun s=>(iS s 24,cS (.i .i64) s 9 2,cS (.i .i64) s 9 3)) (fun y=>(0≤y.1∧y.1≤(valsS a.1 a.2.1.chosen).length)∧y.2.1=payU (valsS a.1 a.2.1.chosen) x.1 y.1.toNat∧y.2.2=leastU (valsS a.1 a.2.1.chosen) x.1 (nthD (tabS a.1) x.1.toNat 0) y.1.toNat) (fun y=>((valsS a.1 a.2.1.chosen).length - y.1).toNat) fun _ _=> .look
    |_=> .look
 |_=> .look
theorem cmpQ_pos {p q:Rat}:0<cmpQ p q↔q<p:=by
 unfold cmpQ
 by_cases h1:p<q
 ·rw[if_pos h1]
  constructor
  ·intro h;omega
  ·intro h;exact absurd h1 (by grind)
 ·rw[if_neg h1]
  by_cases h2:q<p
  ·rw[if_pos h2];simp[h2]
  ·rw[if_neg h2];simp[h2]
theorem faultC_len {p:Prob} {c:List Int} {l:List Fra} (hz:faultC p c=0) (hl:l.length=p.classes.length):blkE p c l=0:=by
 unfold blkE
 rw[if_neg (by omega),if_neg (by omega)]
theorem szI {W:Int} (h1: -9223372036854775808≤W) (h2:W≤9223372036854775807):Sz 2 (W:Rat):=by
 unfold Sz
 simp
 omega
theorem gainQ_sz {V T:List Int} {l:List Fra} {m w:Int} (hl:payOk l) (hv:∀v∈V,0≤v∧v≤1000000000000000) (h8:V.length≤8) (w0: -1000000000000000000≤w) (w1:w≤1000000000000000000):Sz 44 (gainQ V l m w):=by
 have hll:=hl.1
 have hb:=@leastU_bd V m w hv V.length (by omega)
 unfold gainQ
 rw[Rat.sub_eq_add_neg]
 exact(sz_add (szI (W:=lU V m w) (by unfold lU;omega) (by unfold lU;omega)) (sz_neg (paidQ_sz hl (Nat.le_refl _)))).mono (by omega)
theorem blkU_sz {V T:List Int} {l:List Fra} (hl:payOk l) (hv:∀v∈V,0≤v∧v≤1000000000000000) (h8:V.length≤8) (ht:∀m:Nat,0≤nthD T m 0∧nthD T m 0≤8000000):∀{k:Nat},Sz 44 (blkU V T l k).g
 |0=>sz_zero.mono (by omega)
 |k+1=>by
  have:=@blkU_sz V T l hl hv h8 ht k
  have hk:=ht k
  rw[blkU_succ]
  split
  ·exact gainQ_sz (T:=T) hl hv h8 (by omega) (by omega)
  ·exact this
theorem h44:Holds Try.prog r44:=by
 refine con (L:=[r87,r94,r96,r95,r97]) (W:=ownT [r88]) r44 F44 Λ44 (ownT_ok (by simpa using h88)) (by simpa using⟨h87,h94,h96,h95,h97⟩) (by kernel_rfl) (by kernel_rfl) (fun _=>rfl) ?_
 rintro⟨p,⟨c,v⟩,l⟩ ⟨h,hl⟩
 refine vcOf (let z0:=decide (faultC p c≠(0:Int));let z1:=SV.il .i64 0;let z2:=SId.i .i64;let z3:=SV.agg [SV.bl false,SV.row z2 [],SV.row z2 []];let z4:=if blkE p c l=(0:Int) then frE (blkS p c l).g else(false,[],[]);let z5:=SId.i .u32;let z6:=SV.tup [SV.agg [SV.si .i64 (if blkE p c l=(0:Int) then(blkS p c l).m else(0:Int)),SV.si .i64 (if blkE p c l=(0:Int) then(blkS p c l).w else(0:Int))],SV.agg [SV.sb z4.fst,SV.row z5 z4.snd.fst,SV.row z5 z4.snd.snd],SV.si .i64 (blkE p c l)];let z7:=if faultC p c=(0:Int) then valsS p c else[];let z8:=decide ((↑l.length:Int)≠(↑z7.length:Int));let z9:=SV.fn (Fn.yield 0) [] [];let z10:=SV.ptr 8 0 1;let z11:=if faultC p c=(0:Int) then tabS p else[];let z12:=if faultC p c=(0:Int) then tabS p else[];let z13:=SV.row z2 z12;let z14:=if faultC p c=(0:Int) then tabS p else[];let z15:=SV.si .i64 (↑z14.length:Int);let z16:=SV.si .i64 0;let z17:=SObj.cells [SV.si .i64 p.supply.a0,SV.si .i64 p.supply.a1,SV.si .i64 p.supply.a2,SV.si .i64 p.supply.a3,SV.si .i64 p.supply.a4,SV.si .i64 p.supply.a5,SV.si .i64 p.opn.a0,SV.si .i64 p.opn.a1,SV.si .i64 p.opn.a2,SV.si .i64 p.opn.a3,SV.si .i64 p.opn.a4,SV.si .i64 p.opn.a5,SV.si .i64 p.cls.a0,SV.si .i64 p.cls.a1,SV.si .i64 p.cls.a2,SV.si .i64 p.cls.a3,SV.si .i64 p.cls.a4,SV.si .i64 p.cls.a5,SV.row z2 p.classes,SV.row SId.off p.offers] 27 20 false;let z18:=SObj.cells [SV.row z2 c,SV.si .i64 v] 31 2 false;let z19:=SObj.cells [SV.row sF l] 59 1 false;let z20:=SObj.cells [z1,z1] 62 2 false;let z21:=SV.sc (Value.slice none 0 0);let z22:=SObj.cells [SV.bl false,z21,z21] 66 3 false;let z23:=frE (IntCast.intCast (0:Int));let z24:=SObj.cells [SV.sb z23.fst,SV.row z5 z23.snd.fst,SV.row z5 z23.snd.snd] 66 3 false;let z25:=SObj.cells [z13] 32 1 false;let z26:=if faultC p c=(0:Int) then valsS p c else[];let z27:=SV.row z2 z26;let z28:=SObj.cells [z27] 32 1 false;let z29:=(↑(tabS p).length:Int);let z30:=blkU (valsS p c) (tabS p) l 0;let z31:=SV.ptr 9 0 4;let z32:=(↑(if faultC p c=(0:Int) then valsS p c else[]).length:Int);let z33:=SV.si .i64 z32;let z34:=(↑(valsS p c).length:Int);c.length≤9223372036854775807∧(z0=true→(SV.tup [SV.agg [z1,z1],z3,SV.si .i64 (faultC p c)]).same z6)∧(z0=false→(z8=true→(SV.tup [SV.agg [z1,z1],z3,SV.il .i64 3]).same z6)∧(z8=false→((-9223372036854775808:Int)≤(0:Int)∧(0:Int)≤(9223372036854775807:Int))∧True∧(((z9.same z9∧z10.same z10∧(SV.row z2 z11).same z13∧(SV.si .i64 (↑z11.length:Int)).same z15∧z1.same z16∧True)∧z17.same z17∧z18.same z18∧z19.same z19∧z20.same z20∧z22.same z22∧z20.same (SObj.cells [z16,z16] 62 2 false)∧z24.same z24∧(SObj.cells [SV.row z2 z11] 32 1 false).same z25∧(SObj.cells [SV.row z2 z7] 32 1 false).same z28∧True)∧((0:Int)≤(0:Int)∧(0:Int)≤z29)∧(0:Int)=z30.m∧(0:Int)=z30.w∧(z23.fst,z23.snd.fst,z23.snd.snd)=frE z30.g)∧∀(x:Int×Int×Int×Fra),let z35:=x.fst.toNat;let z36:=blkU (valsS p c) (tabS p) l z35;let z37:=x.snd.snd.fst;let z38:=x.snd.snd.snd;let z39:=decide (x.fst<(↑z14.length:Int));let z40:=SV.si .i64 x.fst;let z41:=[SV.si .i64 x.snd.fst,SV.si .i64 z37];let z42:=SObj.cells z41 62 2 false;let z43:=[SV.sb z38.fst,SV.row z5 z38.snd.fst,SV.row z5 z38.snd.snd];let z44:=SObj.cells z43 66 3 false;let z45:=nthD z12 z35 (0:Int);let z46:=SV.si .i64 z45;let z47:=nthD z14 z35 (0:Int);let z48:=SV.si .i64 z47;let z49:=nthD (tabS p) z35 (0:Int);let z50:=(z38.fst,z38.snd.fst,z38.snd.snd);let z51:=x.fst+(1:Int);let z52:=SV.si .i64 z51;let z53:=SObj.cells [z40,z48] 62 2 false;let z54:=blkU (valsS p c) (tabS p) l z51.toNat;((0:Int)≤x.fst∧x.fst≤z29)∧x.snd.fst=z36.m∧z37=z36.w∧z38=frE z36.g→(z39=true→(0:Int)≤x.fst∧x.fst<(↑z12.length:Int)∧z35<z12.length∧(((z9.same z9∧z10.same z10∧z40.same z40∧z31.same z31∧z13.same z13∧z15.same z15∧z40.same z40∧z27.same z27∧(SV.si .i64 (↑z26.length:Int)).same z33∧z1.same z16∧True)∧z17.same z17∧z18.same z18∧z19.same z19∧z20.same z20∧z22.same z22∧z42.same z42∧z44.same z44∧z25.same z25∧z28.same z28∧(SObj.cells [z40,z46,z1,z46] 120 4 false).same (SObj.cells [z40,z48,z16,z46] 120 4 false)∧True)∧((0:Int)≤(0:Int)∧(0:Int)≤z34)∧(0:Int)=payU (valsS p c) x.fst 0∧z45=leastU (valsS p c) x.fst z49 0)∧∀(x_1:Int×Int×Int),let z55:=x_1.fst.toNat;let z56:=decide (x_1.fst<z32);let z57:=decide (binK.andI .i64 (x.fst / (2:Int)^z55) (1:Int)=(1:Int));let z58:=nthD z26 z55 (0:Int);let z59:=x_1.snd.snd - z58;let z60:=x_1.fst+(1:Int);let z61:=SV.si .i64 z60;let z62:=SV.si .i64 x_1.snd.fst;let z63:=SObj.cells [z40,z48,z62,SV.si .i64 z59] 120 4 false;let z64:=payU (valsS p c) x.fst z60.toNat;let z65:=leastU (valsS p c) x.fst z49 z60.toNat;let z66:=decide ((0:Int)<z58);let z67:=(1:Int)*(2:Int)^z55;let z68:=binK.orI .i64 x_1.snd.fst z67;let z69:=[SV.si .i64 x_1.snd.snd];let z70:=SObj.cells (z40::z48::SV.si .i64 z68::z69) 120 4 false;let z71:=SObj.cells (z40::z48::z62::z69) 120 4 false;let z72:=frE (IntCast.intCast x_1.snd.snd);let z73:=(z72.fst,z72.snd.fst,z72.snd.snd);let z74:=frE (paidQ l x_1.snd.fst l.length);let z75:=(z74.fst,z74.snd.fst,z74.snd.snd);let z76:=frE (valF z73 - valF z75);let z77:=(z76.fst,z76.snd.fst,z76.snd.snd);let z78:=decide ((0:Int)<cmpQ (valF z77) (valF z50));let z79:=SObj.cells [SV.sb z76.fst,SV.row z5 z76.snd.fst,SV.row z5 z76.snd.snd] 66 3 false;((0:Int)≤x_1.fst∧x_1.fst≤z34)∧x_1.snd.fst=payU (valsS p c) x.fst z55∧x_1.snd.snd=leastU (valsS p c) x.fst z49 z55→(z56=true→(0:Int)≤x_1.fst∧x_1.fst<(↑z26.length:Int)∧z55<z26.length∧(0:Int)≤x_1.fst∧x_1.fst≤(64:Int)∧(z57=true→inR .i64 z59∧inR .i64 z60∧((z9.same z9∧z10.same z10∧z40.same z40∧z31.same z31∧z13.same z13∧z15.same z15∧z40.same z40∧z27.same z27∧z33.same z33∧z61.same z61∧True)∧z17.same z17∧z18.same z18∧z19.same z19∧z20.same z20∧z22.same z22∧z42.same z42∧z44.same z44∧z25.same z25∧z28.same z28∧z63.same z63∧True)∧(((0:Int)≤z60∧z60≤z34)∧x_1.snd.fst=z64∧z59=z65)∧(z34 - z60).toNat<(z34 - x_1.fst).toNat)∧(z57=false→(z66=true→(0:Int)≤x_1.fst∧x_1.fst≤(64:Int)∧inR .i64 z67∧inR .i64 z60∧((z9.same z9∧z10.same z10∧z40.same z40∧z31.same z31∧z13.same z13∧z15.same z15∧z40.same z40∧z27.same z27∧z33.same z33∧z61.same z61∧True)∧z17.same z17∧z18.same z18∧z19.same z19∧z20.same z20∧z22.same z22∧z42.same z42∧z44.same z44∧z25.same z25∧z28.same z28∧z70.same z70∧True)∧(((0:Int)≤z60∧z60≤z34)∧z68=z64∧x_1.snd.snd=z65)∧(z34 - z60).toNat<(z34 - x_1.fst).toNat)∧(z66=false→inR .i64 z60∧((z9.same z9∧z10.same z10∧z40.same z40∧z31.same z31∧z13.same z13∧z15.same z15∧z40.same z40∧z27.same z27∧z33.same z33∧z61.same z61∧True)∧z17.same z17∧z18.same z18∧z19.same z19∧z20.same z20∧z22.same z22∧z42.same z42∧z44.same z44∧z25.same z25∧z28.same z28∧z71.same z71∧True)∧(((0:Int)≤z60∧z60≤z34)∧x_1.snd.fst=z64∧x_1.snd.snd=z65)∧(z34 - z60).toNat<(z34 - x_1.fst).toNat)))∧(z56=false→((-9223372036854775808:Int)≤x_1.snd.snd∧x_1.snd.snd≤(9223372036854775807:Int))∧(payOk l∧(0:Int)≤x_1.snd.fst∧x_1.snd.fst≤(9223372036854775807:Int))∧(isF z73∧isF z75)∧(isF z77∧isF z50)∧(z78=true→inR .i64 z51∧((z9.same z9∧z10.same z10∧z13.same z13∧z15.same z15∧z52.same z52∧True)∧z17.same z17∧z18.same z18∧z19.same z19∧z20.same z20∧z22.same z22∧z53.same z53∧z79.same z79∧z25.same z25∧z28.same z28∧True)∧(((0:Int)≤z51∧z51≤z29)∧x.fst=z54.m∧z47=z54.w∧z77=frE z54.g)∧(z29 - z51).toNat<(z29 - x.fst).toNat)∧(z78=false→inR .i64 z51∧((z9.same z9∧z10.same z10∧z13.same z13∧z15.same z15∧z52.same z52∧True)∧z17.same z17∧z18.same z18∧z19.same z19∧z20.same z20∧z22.same z22∧z42.same z42∧z44.same z44∧z25.same z25∧z28.same z28∧True)∧(((0:Int)≤z51∧z51≤z29)∧x.snd.fst=z54.m∧z37=z54.w∧z50=frE z54.g)∧(z29 - z51).toNat<(z29 - x.fst).toNat)))∧(z39=false→(SV.tup [SV.agg z41,SV.agg z43,z1]).same z6)))) (by kernel_rfl) ?_
 simp only[vcs]
 have hl:payOk l:=hl
 have hll:=hl.1
 have h:c.length≤9223372036854775807:=h
 refine⟨h,fun hne=>?_,fun hz=>?_⟩
 ·have hb:blkE p c l=faultC p c:=by unfold blkE;rw[if_pos hne]
  rw[hb,if_neg hne,if_neg hne,if_neg hne]
  repeat' refine And.intro ?_ ?_
  all_goals first|rfl|trivial
 have hz:faultC p c=0:=by simpa using hz
 obtain⟨hf,hc⟩:=faultC_zero hz
 have hg:=good_of hc
 obtain⟨hV,h8,hv⟩:=vals_good hf
 obtain⟨hT,ht⟩:=tabS_ok hg
 have hp8:=pow8 h8
 simp only[hz,if_true]
 refine⟨fun hne=>?_,fun hle=>?_⟩
 ·have hb:blkE p c l=3:=by unfold blkE;rw[if_neg (by omega),if_pos (by omega)]
  rw[hb]
  repeat' refine And.intro ?_ ?_
  all_goals first|rfl|trivial
 have hle:l.length=p.classes.length:=by omega
 have hb:blkE p c l=0:=faultC_len hz hle
 have hsz:=fun k=>@blkU_sz (valsS p c) (tabS p) l hl hv (by omega) ht k
 simp only[hb,if_true,blkS]
 generalize tabS p=T at*
 generalize valsS p c=V at*
 refine⟨by omega,?_,?_⟩
 ·repeat' refine And.intro ?_ ?_
  all_goals first|omega|rfl|exact congrArg frE (show((0:Int):Rat)=(0:Rat) from rfl)|(simp[blkU];done)
 rintro⟨m,bm,bw,bg⟩ ⟨⟨m0,m1⟩,hbm,hbw,hbg⟩
 simp only at m0 m1 hbm hbw hbg ⊢
 subst hbm
 subst hbw
 subst hbg
 have hw:=ht m.toNat
 have em:((m.toNat:Nat):Int)=m:=by omega
 have em1:(m+1).toNat=m.toNat+1:=by omega
 refine⟨fun hm=>⟨by omega,by omega,by omega,?_,?_⟩,fun hm=>?_⟩
 ·repeat' refine And.intro ?_ ?_
  all_goals first|omega|rfl
 ·rintro⟨i,q,y⟩ ⟨⟨i0,i1⟩,hq,hy⟩
  simp only at i0 i1 hq hy ⊢
  subst hq
  subst hy
  have e:(i+1).toNat=i.toNat+1:=by omega
  have ei:((i.toNat:Nat):Int)=i:=by omega
  have hsp:=@payU_succ V m i.toNat
  have hsl:=@leastU_succ V m (nthD T m.toNat 0) i.toNat
  rw[ei] at hsp hsl
  have hb:=@payU_bd V m i.toNat
  have hl2:=@leastU_bd V m (nthD T m.toNat 0) hv i.toNat (by omega)
  obtain⟨n0,n1⟩:=half_nn (i:=i.toNat) m0
  have ha:binK.andI .i64 (m / 2^i.toNat) 1=m / 2^i.toNat % 2:=and_one n0 (by omega)
  have hI:hasI m i=decide (m / 2^i.toNat % 2=1):=rfl
  rw[ha]
  refine⟨fun hi=>?_,fun hi=>?_⟩
  ·have hx:=hv _ (nthD_mem (d:=0) (show i.toNat<V.length by omega))
   have hp:=pow8 (n:=i.toNat) (by omega)
   rw[e,hsp,hsl,hI]
   refine⟨by omega,by omega,by omega,by omega,by omega,fun h1=>?_,fun h1=>⟨fun h2=>?_,fun h2=>?_⟩⟩
   ·have h1':decide (m / 2^i.toNat % 2=1)=true:=by simpa using h1
    rw[if_neg (fun h=>by rw[h1'] at h;exact absurd h.2 (by decide)),if_pos h1']
    repeat' refine And.intro ?_ ?_
    all_goals first|omega|rfl
   ·have h1':decide (m / 2^i.toNat % 2=1)=false:=by simpa using h1
    have ho:=or_pow hb.1 hb.2 (show i.toNat≤8 by omega)
    rw[ho,if_pos ⟨h2,h1'⟩,if_neg (fun h=>by rw[h1'] at h;exact absurd h (by decide))]
    repeat' refine And.intro ?_ ?_
    all_goals first|omega|rfl
   ·have h1':decide (m / 2^i.toNat % 2=1)=false:=by simpa using h1
    rw[if_neg (fun h=>h2 h.1),if_neg (fun h=>by rw[h1'] at h;exact absurd h (by decide))]
    repeat' refine And.intro ?_ ?_
    all_goals first|omega|rfl
  ·have hiV:i.toNat=V.length:=by omega
   rw[hiV] at hb hl2 ⊢
   have hp9:=pow8 (n:=V.length) (by omega)
   have hP:payU V m V.length<256:=by omega
   have hgs:Sz 44 (gainQ V l m (nthD T m.toNat 0)):=gainQ_sz (T:=T) hl hv (by omega) (by omega) (by omega)
   have e1:valF ((frE (IntCast.intCast (leastU V m (nthD T m.toNat 0) V.length):Rat)).1,(frE (IntCast.intCast (leastU V m (nthD T m.toNat 0) V.length):Rat)).2.1,(frE (IntCast.intCast (leastU V m (nthD T m.toNat 0) V.length):Rat)).2.2) - valF ((frE (paidQ l (payU V m V.length) l.length)).1,(frE (paidQ l (payU V m V.length) l.length)).2.1,(frE (paidQ l (payU V m V.length) l.length)).2.2)=gainQ V l m (nthD T m.toNat 0):=by
    show valF (frE (IntCast.intCast (leastU V m (nthD T m.toNat 0) V.length):Rat)) - valF (frE (paidQ l (payU V m V.length) l.length))=_
    rw[valF_frE,valF_frE]
    rfl
   have e2:∀q:Rat,valF ((frE q).1,(frE q).2.1,(frE q).2.2)=q:=valF_frE
   have hsu:=@blkU_succ V T l m.toNat
   rw[em] at hsu
   have hs2:=hsz m.toNat
   rw[e1]
   simp only[e2,cmpQ_pos]
   rw[em1,hsu]
   refine⟨⟨by omega,by omega⟩,⟨hl,by omega,by omega⟩,⟨⟨_,2,rfl,szI (by omega) (by omega),by omega⟩,⟨_,_,rfl,paidQ_sz hl (Nat.le_refl _),by omega⟩⟩,⟨⟨_,44,rfl,hgs,by omega⟩,⟨_,44,rfl,hs2,by omega⟩⟩,fun hc2=>?_,fun hc2=>?_⟩
   ·rw[if_pos hc2]
    repeat' refine And.intro ?_ ?_
    all_goals first|omega|rfl
   ·rw[if_neg hc2]
    repeat' refine And.intro ?_ ?_
    all_goals first|omega|rfl
 ·rw[show m.toNat=T.length by omega]
  repeat' refine And.intro ?_ ?_
  all_goals first|omega|rfl|trivial
def rat1 (V:List Int) (l:List Fra) (j:Nat):Bool:=decide (0≤valF (nthD l j sF.dflt))&&decide (valF (nthD l j sF.dflt)≤((nthD V j 0:Int):Rat))
def ratB (p:Prob) (c:List Int) (l:List Fra):Bool:=decide (feasE p c=0)&&decide (l.length=p.classes.length)&&(List.range l.length).all (rat1 (valsS p c) l)
theorem ratB_iff {p:Prob} {c:List Int} {l:List Fra}:ratB p c l=true↔feasE p c=0∧l.length=p.classes.length∧∀j:Nat,j<l.length→rat1 (valsS p c) l j=true:=by
 unfold ratB
 simp only[Bool.and_eq_true,decide_eq_true_eq,List.all_eq_true,List.mem_range,and_assoc]
theorem sgn_neg {q:Rat}:sgnQ q<0↔¬0≤q:=by
 unfold sgnQ
 by_cases h1:q<0
 ·rw[if_pos h1]
  have:¬0≤q:=by grind
  simp[this]
 ·rw[if_neg h1]
  have:0≤q:=by grind
  by_cases h2:0<q
  ·rw[if_pos h2];simp[this]
  ·rw[if_neg h2];simp[this]
def r49:SCtr:=⟨49,Prob×Alloc×List Fra,.cons codP (.cons codA (.one (codR sF))),fun a=>a.2.1.chosen.length≤9223372036854775807∧payOk a.2.2,fun a=> .sb (ratB a.1 a.2.1.chosen a.2.2)⟩
def Λ49 (a:Prob×Alloc×List Fra):Nat→LoopAnn
 |7=> .inv Int (fun x=>⟨[(7,.row (.i .i64) (if feasE a.1 a.2.1.chosen=0 then valsS a.1 a.2.1.chosen else[])),(23,.row sF a.2.2),(24,.si .i64 a.2.2.length),(25,.si .i64 x)],[.cells a.1.ss 27 20 false,.cells [.row (.i .i64) a.2.1.chosen,.si .i64 a.2.1.value] 31 2 false]⟩)
   (fun s=>iS s 25) (fun x=>(0≤x∧x≤a.2.2.length)∧∀j:Nat,(j:Int)<x→rat1 (valsS a.1 a.2.1.chosen) a.2.2 j=true) (fun x=>(a.2.2.length - x).toNat) fun _ _=> .look
 |_=> .look
theorem h49:Holds Try.prog r49:=by
 refine con (L:=[r100,r101,r99,r94,r97]) r49 F49 Λ49 (OwnOK.none _) (by simpa using⟨h100,h101,h99,h94,h97⟩) (by kernel_rfl) (by kernel_rfl) (fun _=>rfl) ?_
 rintro⟨p,⟨c,v⟩,l⟩ ⟨h,hl⟩
 refine vcOf (let z0:=decide (feasE p c≠(0:Int));let z1:=(↑l.length:Int);let z2:=if feasE p c=(0:Int) then valsS p c else[];let z3:=decide (z1≠(↑z2.length:Int));let z4:=SId.i .i64;let z5:=if feasE p c=(0:Int) then valsS p c else[];let z6:=SV.row z4 z5;let z7:=(↑l.length:Int);let z8:=SV.si .i64 z7;let z9:=SObj.cells [SV.si .i64 p.supply.a0,SV.si .i64 p.supply.a1,SV.si .i64 p.supply.a2,SV.si .i64 p.supply.a3,SV.si .i64 p.supply.a4,SV.si .i64 p.supply.a5,SV.si .i64 p.opn.a0,SV.si .i64 p.opn.a1,SV.si .i64 p.opn.a2,SV.si .i64 p.opn.a3,SV.si .i64 p.opn.a4,SV.si .i64 p.opn.a5,SV.si .i64 p.cls.a0,SV.si .i64 p.cls.a1,SV.si .i64 p.cls.a2,SV.si .i64 p.cls.a3,SV.si .i64 p.cls.a4,SV.si .i64 p.cls.a5,SV.row z4 p.classes,SV.row SId.off p.offers] 27 20 false;let z10:=SObj.cells [SV.row z4 c,SV.si .i64 v] 31 2 false;c.length≤9223372036854775807∧(z0=true→(SV.bl false).same (SV.sb (ratB p c l)))∧(z0=false→c.length≤9223372036854775807∧(z3=true→(SV.bl false).same (SV.sb (ratB p c l)))∧(z3=false→((((SV.row z4 z2).same z6∧(SV.row sF l).same (SV.row sF l)∧(SV.si .i64 z1).same z8∧(SV.il .i64 0).same (SV.si .i64 0)∧True)∧z9.same z9∧z10.same z10∧True)∧((0:Int)≤(0:Int)∧(0:Int)≤z7)∧∀(j:Nat),(↑j:Int)<(0:Int)→rat1 (valsS p c) l j=true)∧∀(x:Int),let z11:=nthD l x.toNat sF.dflt;let z12:=(z11.fst,z11.snd.fst,z11.snd.snd);let z13:=decide (sgnQ (valF z12)<(0:Int));let z14:=nthD z5 x.toNat (0:Int);let z15:=frE (IntCast.intCast z14);let z16:=(z15.fst,z15.snd.fst,z15.snd.snd);let z17:=decide ((0:Int)<cmpQ (valF z12) (valF z16));let z18:=x+(1:Int);let z19:=SV.si .i64 z18;(((0:Int)≤x∧x≤z7)∧∀(j:Nat),(↑j:Int)<x→rat1 (valsS p c) l j=true)→(decide (x<z7)=true→(0:Int)≤x∧x<z1∧x.toNat<l.length∧isF z12∧(z13=true→(SV.bl false).same (SV.sb (ratB p c l)))∧(z13=false→(0:Int)≤x∧x<(↑z5.length:Int)∧x.toNat<z5.length∧((-9223372036854775808:Int)≤z14∧z14≤(9223372036854775807:Int))∧(isF z12∧isF z16)∧(z17=true→(SV.bl false).same (SV.sb (ratB p c l)))∧(z17=false→inR .i64 z18∧((z6.same z6∧(SV.row sF l).same (SV.row sF l)∧z8.same z8∧z19.same z19∧True)∧z9.same z9∧z10.same z10∧True)∧(((0:Int)≤z18∧z18≤z7)∧∀(j:Nat),(↑j:Int)<z18→rat1 (valsS p c) l j=true)∧(z7 - z18).toNat<(z7 - x).toNat)))∧(decide (x<z7)=false→(SV.bl true).same (SV.sb (ratB p c l)))))) (by kernel_rfl) ?_
 simp only[vcs]
 have hl:payOk l:=hl
 have hll:=hl.1
 have h:c.length≤9223372036854775807:=h
 have nope:(¬(feasE p c=0∧l.length=p.classes.length∧∀j:Nat,j<l.length→rat1 (valsS p c) l j=true))→ratB p c l=false:=fun hn=>by
  cases hb:ratB p c l with
  |false=>rfl
  |true=>exact absurd (ratB_iff.1 hb) hn
 refine⟨h,fun hne=>?_,fun hz=>?_⟩
 ·exact(nope fun h=>hne h.1).symm
 have hz:feasE p c=0:=by simpa using hz
 obtain⟨hV,h8,hv⟩:=vals_good hz
 simp only[hz,if_true]
 refine⟨h,fun hne=>?_,fun hle=>?_⟩
 ·exact(nope fun h=>by omega).symm
 have hle:l.length=p.classes.length:=by omega
 refine⟨⟨⟨by omega,by omega⟩,fun j hj=>by omega⟩,?_⟩
 rintro i ⟨⟨i0,i1⟩,hj⟩
 refine⟨fun hi=>?_,fun hi=>?_⟩
 ·obtain⟨q,hq,hsz⟩:=payOk_get hl (show i.toNat<l.length by omega)
  have hx:=hv _ (nthD_mem (d:=0) (show i.toNat<(valsS p c).length by omega))
  have e1:valF ((nthD l i.toNat sF.dflt).1,(nthD l i.toNat sF.dflt).2.1,(nthD l i.toNat sF.dflt).2.2)=valF (nthD l i.toNat sF.dflt):=rfl
  have e2:∀q:Rat,valF ((frE q).1,(frE q).2.1,(frE q).2.2)=q:=valF_frE
  simp only[e1,e2,cmpQ_pos,sgn_neg]
  have hF:isF ((nthD l i.toNat sF.dflt).1,(nthD l i.toNat sF.dflt).2.1,(nthD l i.toNat sF.dflt).2.2):=⟨q,3,hq,hsz,by omega⟩
  refine⟨by omega,by omega,by omega,hF,fun h1=>?_,fun h1=>⟨by omega,by omega,by omega,⟨by omega,by omega⟩,⟨hF,⟨_,2,rfl,szI (by omega) (by omega),by omega⟩⟩,fun h2=>?_,fun h2=>?_⟩⟩
  ·refine(nope fun h=>h1 ?_).symm
   have:=h.2.2 i.toNat (by omega)
   unfold rat1 at this
   simp only[Bool.and_eq_true,decide_eq_true_eq] at this
   exact this.1
  ·refine(nope fun h=>?_).symm
   have:=h.2.2 i.toNat (by omega)
   unfold rat1 at this
   simp only[Bool.and_eq_true,decide_eq_true_eq] at this
   have h2:((nthD (valsS p c) i.toNat 0:Int):Rat)<valF (nthD l i.toNat sF.dflt):=h2
   have h3:=this.2
   grind
  ·refine⟨by omega,⟨⟨by omega,by omega⟩,fun j hj2=>?_⟩,by omega⟩
   by_cases hji:(j:Int)<i
   ·exact hj j hji
   ·have:j=i.toNat:=by omega
    subst this
    unfold rat1
    simp only[Bool.and_eq_true,decide_eq_true_eq]
    have h1:¬¬0≤valF (nthD l i.toNat sF.dflt):=by simpa using h1
    have h2:¬((nthD (valsS p c) i.toNat 0:Int):Rat)<valF (nthD l i.toNat sF.dflt):=h2
    exact⟨by grind,by grind⟩
 ·exact(ratB_iff.2 ⟨hz,hle,fun j h=>hj j (by omega)⟩).symm
theorem blkE_zero {p:Prob} {c:List Int} {l:List Fra} (h:blkE p c l=0):faultC p c=0∧l.length=p.classes.length:=by
 unfold blkE at h
 split at h
 ·rename_i h1;exact absurd h h1
 ·rename_i h1
  split at h
  ·cases h
  ·rename_i h2
   exact⟨by omega,by omega⟩
theorem blkS_sz {p:Prob} {c:List Int} {l:List Fra} (h:blkE p c l=0) (hl:payOk l):Sz 44 (blkS p c l).g:=by
 obtain⟨hz,_⟩:=blkE_zero h
 obtain⟨hf,hc⟩:=faultC_zero hz
 obtain⟨hV,h8,hv⟩:=vals_good hf
 obtain⟨hT,ht⟩:=tabS_ok (good_of hc)
 exact blkU_sz hl hv (by omega) ht
def coreE (p:Prob) (c:List Int) (l:List Fra):Int:=if blkE p c l≠0 then blkE p c l else if ratB p c l=false then 4 else if((blkS p c l).m≠0∨(blkS p c l).w≠0)∨0<(blkS p c l).g then 13 else 0
theorem sgn_pos {q:Rat}:0<sgnQ q↔0<q:=by
 unfold sgnQ
 by_cases h1:q<0
 ·rw[if_pos h1]
  have:¬0<q:=by grind
  simp[this]
 ·rw[if_neg h1]
  by_cases h2:0<q
  ·rw[if_pos h2];simp[h2]
  ·rw[if_neg h2];simp[h2]
def r47:SCtr:=⟨47,Prob×Alloc×List Fra,.cons codP (.cons codA (.one (codR sF))),fun a=>a.2.1.chosen.length≤9223372036854775807∧payOk a.2.2,fun a=> .si .i64 (coreE a.1 a.2.1.chosen a.2.2)⟩
theorem h47:Holds Try.prog r47:=by
 refine con (L:=[r44,r49,r99]) r47 F47 (fun _ _=> .look) (OwnOK.none _) (by simpa using⟨h44,h49,h99⟩) (by kernel_rfl) (by kernel_rfl) (fun _=>rfl) ?_
 rintro⟨p,⟨c,v⟩,l⟩ ⟨h,hl⟩
 refine vcOf (let z0:=decide (blkE p c l≠(0:Int));let z1:=SV.si .i64 (coreE p c l);let z2:=!(decide ((if blkE p c l=(0:Int) then(blkS p c l).m else(0:Int))=(0:Int))&&(decide ((if blkE p c l=(0:Int) then(blkS p c l).w else(0:Int))=(0:Int))&&true));let z3:=if blkE p c l=(0:Int) then frE (blkS p c l).g else(false,[],[]);let z4:=(z3.fst,z3.snd.fst,z3.snd.snd);let z5:=decide ((0:Int)<sgnQ (valF z4));(c.length≤9223372036854775807∧payOk l)∧(z0=true→(SV.si .i64 (blkE p c l)).same z1)∧(z0=false→(c.length≤9223372036854775807∧payOk l)∧((!ratB p c l)=true→(SV.il .i64 4).same z1)∧((!ratB p c l)=false→(z2=true→(SV.il .i64 13).same z1)∧(z2=false→isF z4∧(z5=true→(SV.il .i64 13).same z1)∧(z5=false→(SV.il .i64 0).same z1))))) (by kernel_rfl) ?_
 simp only[vcs]
 have hl:payOk l:=hl
 have h:c.length≤9223372036854775807:=h
 refine⟨⟨h,hl⟩,fun hne=>?_,fun hz=>?_⟩
 ·unfold coreE
  rw[if_pos hne]
 have hz:blkE p c l=0:=by simpa using hz
 have hsz:=blkS_sz hz hl
 have e2:∀q:Rat,valF ((frE q).1,(frE q).2.1,(frE q).2.2)=q:=valF_frE
 simp only[hz,if_true,e2,sgn_pos]
 unfold coreE
 rw[if_neg (by omega)]
 refine⟨⟨h,hl⟩,fun h1=>?_,fun h1=>⟨fun h2=>?_,fun h2=>⟨⟨_,44,rfl,hsz,by omega⟩,fun h3=>?_,fun h3=>?_⟩⟩⟩
 ·rw[if_pos (by simpa using h1)]
 ·have h1':ratB p c l=true:=by simpa using h1
  rw[if_neg (by rw[h1'];decide),if_pos]
  by_cases hm:(blkS p c l).m=0
  ·by_cases hw:(blkS p c l).w=0
   ·simp[hm,hw] at h2
   ·exact .inl (.inr hw)
  ·exact .inl (.inl hm)
 ·have h1':ratB p c l=true:=by simpa using h1
  rw[if_neg (by rw[h1'];decide),if_pos (.inr h3)]
 ·have h1':ratB p c l=true:=by simpa using h1
  rw[if_neg (by rw[h1'];decide),if_neg]
  rintro((hm|hw)|hg)
  ·exact hm h2.1
  ·exact hw h2.2
  ·exact h3 hg
def intsF (l:List Int):List Fra:=l.map fun(n:Int)=>frE ((n:Int):Rat)
def Λ56 (a:List Int):Nat→LoopAnn
 |3=> .inv (Int×List Fra) (fun x=>⟨[(3,.ow 0 x.2.length 3),(6,.row (.i .i64) a),(7,.si .i64 a.length),(8,.si .i64 x.1)],[.row sF x.2 66 false]⟩) (fun s=>(iS s 8,oS sF s 0))
   (fun x=>(0≤x.1∧x.1≤a.length)∧x.2=intsF (a.take x.1.toNat)) (fun x=>(a.length - x.1).toNat) fun _ _=> .look
 |_=> .look
def r56:SCtr:=⟨56,List Int,.one (codR (.i .i64)),fun a=>(show List Int from a).length≤1000∧∀n∈(show List Int from a), -9223372036854775808≤n∧n≤9223372036854775807,fun a=> .row sF (intsF a)⟩
theorem h56:Holds Try.prog r56:=by
 refine con (L:=[r51]) r56 F56 Λ56 (OwnOK.none _) (by simpa using h51) (by kernel_rfl) (by kernel_rfl) (fun _=>rfl) ?_
 rintro(l:List Int) ⟨hl,hn⟩
 refine vcOf (let z0:=SV.ow 0 0 3;let z1:=SV.row (SId.i .i64) l;let z2:=(↑l.length:Int);let z3:=SV.si .i64 z2;let z4:=(SId.i .u32).lst;let z5:=SId.b.pair (z4.pair z4);(((z0.same z0∧z1.same z1∧(SV.si .i64 (↑l.length:Int)).same z3∧(SV.il .i64 0).same (SV.si .i64 0)∧True)∧(SObj.row z5 [] 66 false).same (SObj.row sF [] 66 false)∧True)∧((0:Int)≤(0:Int)∧(0:Int)≤z2)∧[]=intsF [])∧∀(x:Int×List Fra),let z6:=nthD l x.fst.toNat (0:Int);let z7:=x.snd.length+1;let z8:=x.fst+(1:Int);let z9:=frE (IntCast.intCast z6);let z10:=x.snd++[(z9.fst,z9.snd.fst,z9.snd.snd)];let z11:=SV.si .i64 z8;((0:Int)≤x.fst∧x.fst≤z2)∧x.snd=intsF (List.take x.fst.toNat l)→(decide (x.fst<z2)=true→(0:Int)≤x.fst∧x.fst<(↑l.length:Int)∧x.fst.toNat<l.length∧((-9223372036854775808:Int)≤z6∧z6≤(9223372036854775807:Int))∧x.snd.length=x.snd.length∧z7*56≤140737488355328∧z7≤1000000000000∧inR .i64 z8∧(((SV.ow 0 z10.length 3).same (SV.ow 0 z10.length 3)∧z1.same z1∧z3.same z3∧z11.same z11∧True)∧(SObj.row z5 z10 66 false).same (SObj.row sF z10 66 false)∧True)∧(((0:Int)≤z8∧z8≤z2)∧z10=intsF (List.take z8.toNat l))∧(z2 - z8).toNat<(z2 - x.fst).toNat)∧(decide (x.fst<z2)=false→x.snd.length=x.snd.length∧(SV.row sF x.snd).same (SV.row sF (intsF l)))) (by kernel_rfl) ?_
 simp only[vcs]
 have hl:l.length≤1000:=hl
 have hn:∀n∈l, -9223372036854775808≤n∧n≤9223372036854775807:=hn
 refine⟨⟨⟨by omega,by omega⟩,rfl⟩,?_⟩
 rintro⟨i,out⟩ ⟨⟨i0,i1⟩,ho⟩
 simp only at i0 i1 ho ⊢
 subst ho
 have hol:(intsF (l.take i.toNat)).length≤1000:=by unfold intsF;rw[List.length_map,List.length_take];omega
 refine⟨fun hi=>?_,fun hi=>?_⟩
 ·have hx:=hn _ (nthD_mem (d:=0) (show i.toNat<l.length by omega))
  have hs:intsF (l.take (i+1).toNat)=intsF (l.take i.toNat)++[frE ((nthD l i.toNat 0:Int):Rat)]:=by
   rw[show(i+1).toNat=i.toNat+1 by omega,take_snoc (show i.toNat<l.length by omega)]
   unfold intsF
   rw[List.map_append]
   rfl
  rw[hs]
  repeat' refine And.intro ?_ ?_
  all_goals first|omega|rfl
 ·rw[show i.toNat=l.length by omega,List.take_length]
  repeat' refine And.intro ?_ ?_
  all_goals first|omega|rfl
def p3:Prob:=⟨⟨1,1,0,0,0,0⟩,⟨1,1,0,0,0,0⟩,⟨0,0,0,0,0,0⟩,[0,0,0],[⟨0,⟨1,1,0,0,0,0⟩,10⟩,⟨1,⟨1,0,0,0,0,0⟩,6⟩,⟨2,⟨0,1,0,0,0,0⟩,6⟩]⟩
def r86:SCtr:=⟨86,Unit,.nil,fun _=>True,fun _=> .tup [codP.put p3,codA.put ⟨[1,2],12⟩]⟩
theorem h86:Holds Try.prog r86:=by
 refine con (L:=[]) r86 F86 (fun _ _=> .look) (OwnOK.none _) (by simp) (by kernel_rfl) (by kernel_rfl) (fun _=>rfl) ?_
 rintro _ -
 refine vcOf (let z0:=SV.il .i64 1;let z1:=SV.il .i64 0;let z2:=SId.i .i64;let z3:=SV.row z2 [(1:Int),(2:Int)];(SV.tup [SV.agg [z0,z0,z1,z1,z1,z1,z0,z0,z1,z1,z1,z1,z1,z1,z1,z1,z1,z1,SV.row z2 [(0:Int),(0:Int),(0:Int)],SV.row SId.off [Off.mk (0:Int) (Bun.mk (1:Int) (1:Int) (0:Int) (0:Int) (0:Int) (0:Int)) (10:Int),Off.mk (1:Int) (Bun.mk (1:Int) (0:Int) (0:Int) (0:Int) (0:Int) (0:Int)) (6:Int),Off.mk (2:Int) (Bun.mk (0:Int) (1:Int) (0:Int) (0:Int) (0:Int) (0:Int)) (6:Int)]],SV.agg [z3,SV.il .i64 12]]).same (SV.tup [SV.agg [SV.si .i64 p3.supply.a0,SV.si .i64 p3.supply.a1,SV.si .i64 p3.supply.a2,SV.si .i64 p3.supply.a3,SV.si .i64 p3.supply.a4,SV.si .i64 p3.supply.a5,SV.si .i64 p3.opn.a0,SV.si .i64 p3.opn.a1,SV.si .i64 p3.opn.a2,SV.si .i64 p3.opn.a3,SV.si .i64 p3.opn.a4,SV.si .i64 p3.opn.a5,SV.si .i64 p3.cls.a0,SV.si .i64 p3.cls.a1,SV.si .i64 p3.cls.a2,SV.si .i64 p3.cls.a3,SV.si .i64 p3.cls.a4,SV.si .i64 p3.cls.a5,SV.row z2 p3.classes,SV.row SId.off p3.offers],SV.agg [z3,SV.si .i64 12]])) (by kernel_rfl) ?_
 conv=>zeta
 rfl
def Λ46 (a:Fra×Fra):Nat→LoopAnn
 |4=> .inv Int (fun x=>⟨[(2,.ptr 0 0 3),(3,.ptr 1 0 3),(5,.si .i64 x)],[fCells a.1,fCells a.2]⟩) (fun s=>iS s 5) (fun x=>(0≤x∧x≤a.1.2.1.length)∧∀j:Nat,(j:Int)<x→nthD a.1.2.1 j 0=nthD a.2.2.1 j 0) (fun x=>(a.1.2.1.length - x).toNat) fun _ _=> .look
 |9=> .inv Int (fun x=>⟨[(2,.ptr 0 0 3),(3,.ptr 1 0 3),(6,.si .i64 x)],[fCells a.1,fCells a.2]⟩) (fun s=>iS s 6) (fun x=>((0≤x∧x≤a.1.2.2.length)∧a.1.2.1=a.2.2.1)∧∀j:Nat,(j:Int)<x→nthD a.1.2.2 j 0=nthD a.2.2.2 j 0) (fun x=>(a.1.2.2.length - x).toNat) fun _ _=> .look
 |_=> .look
def r46:SCtr:=⟨46,Fra×Fra,.cons (codE sF) (.one (codE sF)),fun a=>(a.1.2.1.length≤1000000000∧a.1.2.2.length≤1000000000)∧a.2.2.1.length≤1000000000∧a.2.2.2.length≤1000000000,fun a=> .sb (decide (a.1=a.2))⟩
theorem h46:Holds Try.prog r46:=by
 refine con (L:=[]) r46 F46 Λ46 (OwnOK.none _) (by simp) (by kernel_rfl) (by kernel_rfl) (fun _=>rfl) ?_
 rintro⟨⟨s,n,d⟩,⟨s',n',d'⟩⟩ ⟨⟨hn,hd⟩,hn',hd'⟩
 refine vcOf (let z0:=SV.sb (decide ((s,n,d)=(s',n',d')));let z1:=(↑n.length:Int);let z2:=decide (z1≠(↑n'.length:Int));let z3:=(↑d.length:Int);let z4:=decide (z3≠(↑d'.length:Int));let z5:=SV.ptr 0 0 3;let z6:=SV.ptr 1 0 3;let z7:=SId.i .u32;let z8:=SObj.cells [SV.sb s,SV.row z7 n,SV.row z7 d] 66 3 false;let z9:=SObj.cells [SV.sb s',SV.row z7 n',SV.row z7 d'] 66 3 false;let z10:=(↑n.length:Int);let z11:=(↑d.length:Int);((!s==s')=true→(SV.bl false).same z0)∧((!s==s')=false→(z2=true→(SV.bl false).same z0)∧(z2=false→(z4=true→(SV.bl false).same z0)∧(z4=false→(((z5.same z5∧z6.same z6∧(SV.il .i64 0).same (SV.si .i64 0)∧True)∧z8.same z8∧z9.same z9∧True)∧((0:Int)≤(0:Int)∧(0:Int)≤z10)∧∀(j:Nat),(↑j:Int)<(0:Int)→nthD n j (0:Int)=nthD n' j (0:Int))∧∀(x:Int),let z12:=decide (nthD n x.toNat (0:Int)≠nthD n' x.toNat (0:Int));let z13:=x+(1:Int);let z14:=SV.si .i64 z13;(((0:Int)≤x∧x≤z10)∧∀(j:Nat),(↑j:Int)<x→nthD n j (0:Int)=nthD n' j (0:Int))→(decide (x<z1)=true→(0:Int)≤x∧x<z1∧x.toNat<n.length∧(0:Int)≤x∧x<(↑n'.length:Int)∧x.toNat<n'.length∧(z12=true→(SV.bl false).same z0)∧(z12=false→inR .i64 z13∧((z5.same z5∧z6.same z6∧z14.same z14∧True)∧z8.same z8∧z9.same z9∧True)∧(((0:Int)≤z13∧z13≤z10)∧∀(j:Nat),(↑j:Int)<z13→nthD n j (0:Int)=nthD n' j (0:Int))∧(z10 - z13).toNat<(z10 - x).toNat))∧(decide (x<z1)=false→(((z5.same z5∧z6.same z6∧(SV.il .i64 0).same (SV.si .i64 0)∧True)∧z8.same z8∧z9.same z9∧True)∧(((0:Int)≤(0:Int)∧(0:Int)≤z11)∧n=n')∧∀(j:Nat),(↑j:Int)<(0:Int)→nthD d j (0:Int)=nthD d' j (0:Int))∧∀(x:Int),let z15:=decide (nthD d x.toNat (0:Int)≠nthD d' x.toNat (0:Int));let z16:=x+(1:Int);let z17:=SV.si .i64 z16;((((0:Int)≤x∧x≤z11)∧n=n')∧∀(j:Nat),(↑j:Int)<x→nthD d j (0:Int)=nthD d' j (0:Int))→(decide (x<z3)=true→(0:Int)≤x∧x<z3∧x.toNat<d.length∧(0:Int)≤x∧x<(↑d'.length:Int)∧x.toNat<d'.length∧(z15=true→(SV.bl false).same z0)∧(z15=false→inR .i64 z16∧((z5.same z5∧z6.same z6∧z17.same z17∧True)∧z8.same z8∧z9.same z9∧True)∧((((0:Int)≤z16∧z16≤z11)∧n=n')∧∀(j:Nat),(↑j:Int)<z16→nthD d j (0:Int)=nthD d' j (0:Int))∧(z11 - z16).toNat<(z11 - x).toNat))∧(decide (x<z3)=false→(SV.bl true).same z0)))))) (by kernel_rfl) ?_
 simp only[vcs]
 have hn:n.length≤1000000000:=hn
 have hd:d.length≤1000000000:=hd
 have hn':n'.length≤1000000000:=hn'
 have hd':d'.length≤1000000000:=hd'
 have ext:∀{a b:List Int},a.length=b.length→(∀j:Nat,(j:Int)<a.length→nthD a j 0=nthD b j 0)→a=b:=fun hl hj=>
  List.ext_getElem hl fun j h1 h2=>by
   have:=hj j (by omega)
   simpa[nthD,h1,h2] using this
 have nope:∀{b:Bool},¬((s,n,d)=(s',n',d'))→b=false→b=decide ((s,n,d)=(s',n',d')):=fun h hb=>by
  rw[hb,decide_eq_false h]
 refine⟨fun h1=>nope (fun h=>?_) rfl,fun h1=>⟨fun h2=>nope (fun h=>?_) rfl,fun h2=>⟨fun h3=>nope (fun h=>?_) rfl,fun h3=>⟨⟨⟨by omega,by omega⟩,fun j hj=>by omega⟩,?_⟩⟩⟩⟩
 ·injection h with h4 h5
  subst h4
  simp at h1
 ·injection h with h4 h5
  injection h5 with h5 h6
  subst h5
  omega
 ·injection h with h4 h5
  injection h5 with h5 h6
  subst h6
  omega
 rintro x ⟨⟨x0,x1⟩,hx⟩
 refine⟨fun hi=>⟨by omega,by omega,by omega,by omega,by omega,by omega,fun hne=>nope (fun h=>?_) rfl,fun he=>⟨by omega,⟨⟨by omega,by omega⟩,fun j hj=>?_⟩,by omega⟩⟩,fun hi=>?_⟩
 ·injection h with h4 h5
  injection h5 with h5 h6
  subst h5
  exact hne rfl
 ·by_cases hji:(j:Int)<x
  ·exact hx j hji
  ·have:j=x.toNat:=by omega
   subst this
   simpa using he
 ·have hnn:n=n':=ext (by omega) fun j hj=>hx j (by omega)
  refine⟨⟨⟨⟨by omega,by omega⟩,hnn⟩,fun j hj=>by omega⟩,?_⟩
  rintro y ⟨⟨⟨y0,y1⟩,_⟩,hy⟩
  refine⟨fun hi2=>⟨by omega,by omega,by omega,by omega,by omega,by omega,fun hne=>nope (fun h=>?_) rfl,fun he=>⟨by omega,⟨⟨⟨by omega,by omega⟩,hnn⟩,fun j hj=>?_⟩,by omega⟩⟩,fun hi2=>?_⟩
  ·injection h with h4 h5
   injection h5 with h5 h6
   subst h6
   exact hne rfl
  ·by_cases hji:(j:Int)<y
   ·exact hy j hji
   ·have:j=y.toNat:=by omega
    subst this
    simpa using he
  ·have hdd:d=d':=ext (by omega) fun j hj=>hy j (by omega)
   have hs:s=s':=by simpa using h1
   rw[hs,hnn,hdd]
   simp
theorem pay_ints {l:List Int} (h:l.length≤10) (hn:∀n∈l, -9223372036854775808≤n∧n≤9223372036854775807):payOk (intsF l):=by
 refine⟨by unfold intsF;rw[List.length_map];exact h,fun x hx=>?_⟩
 unfold intsF at hx
 obtain⟨n,hm,rfl⟩:=List.mem_map.1 hx
 exact⟨_,rfl,(szI (hn n hm).1 (hn n hm).2).mono (by omega)⟩
def r39:SCtr:=⟨39,Unit,.nil,fun _=>True,fun _=> .sb true⟩
theorem h39:Holds Try.prog r39:=by
 refine con (L:=[r86,r40,r56,r44,r42,r46,r51,r47,r49]) r39 F39 (fun _ _=> .look) (OwnOK.none _) (by simpa using⟨h86,h40,h56,h44,h42,h46,h51,h47,h49⟩) (by kernel_rfl) (by kernel_rfl) (fun _=>rfl) ?_
 rintro _ -
 refine vcOf (let z0:=[(0:Int),(4:Int),(4:Int)];let z1:=[(1:Int),(2:Int)];let z2:=(frE (blkS p3 z1 (intsF z0)).g).snd;let z3:=(frE (IntCast.intCast (2:Int))).snd;let z4:=[(5:Int),(5:Int)];let z5:=[(0:Int),(7:Int),(5:Int)];let z6:=[(0:Int),(6:Int),(0:Int)];let z7:=ratB p3 z1 (intsF z6);let z8:=intsF ((1:Int)::z4);True∧2≤9223372036854775807∧(3≤1000∧∀(n:Int),n∈z0→(-9223372036854775808:Int)≤n∧n≤(9223372036854775807:Int))∧(2≤9223372036854775807∧payOk (intsF z0))∧(true=true→((needS p3 z1).length≤1000000000∧3≤1000000000)∧(true=true→(true=true→(true=true→((-9223372036854775808:Int)≤(2:Int)∧(2:Int)≤(9223372036854775807:Int))∧((List.length z2.fst≤1000000000∧List.length z2.snd≤1000000000)∧List.length z3.fst≤1000000000∧List.length z3.snd≤1000000000)∧(true=true→(3≤1000∧∀(n:Int),n∈(0:Int)::z4→(-9223372036854775808:Int)≤n∧n≤(9223372036854775807:Int))∧(2≤9223372036854775807∧payOk (intsF ((0:Int)::z4)))∧(true=true→(3≤1000∧∀(n:Int),n∈z0→(-9223372036854775808:Int)≤n∧n≤(9223372036854775807:Int))∧(2≤9223372036854775807∧payOk (intsF z0))∧(true=true→(3≤1000∧∀(n:Int),n∈z5→(-9223372036854775808:Int)≤n∧n≤(9223372036854775807:Int))∧(2≤9223372036854775807∧payOk (intsF z5))∧(true=true→(3≤1000∧∀(n:Int),n∈z6→(-9223372036854775808:Int)≤n∧n≤(9223372036854775807:Int))∧(2≤9223372036854775807∧payOk (intsF z6))∧(z7=true→(3≤1000∧∀(n:Int),n∈(1:Int)::z4→(-9223372036854775808:Int)≤n∧n≤(9223372036854775807:Int))∧(2≤9223372036854775807∧payOk z8)∧(SV.sb !ratB p3 z1 z8).same (SV.sb true))∧(z7=false→(SV.bl false).same (SV.sb true)))∧(true=false→(SV.bl false).same (SV.sb true)))∧(true=false→(SV.bl false).same (SV.sb true)))∧(true=false→(SV.bl false).same (SV.sb true)))∧(true=false→(SV.bl false).same (SV.sb true)))∧(true=false→(SV.bl false).same (SV.sb true)))∧(true=false→(SV.bl false).same (SV.sb true)))∧(true=false→(SV.bl false).same (SV.sb true)))∧(true=false→(SV.bl false).same (SV.sb true))) (by kernel_rfl) ?_
 conv=>zeta
 have k1:(needS p3 [1,2]).length=3:=by kernel_rfl
 have i1:∀n∈[(0:Int),4,4], -9223372036854775808≤n∧n≤9223372036854775807:=by decide
 have i2:∀n∈[(0:Int),5,5], -9223372036854775808≤n∧n≤9223372036854775807:=by decide
 have i3:∀n∈[(0:Int),7,5], -9223372036854775808≤n∧n≤9223372036854775807:=by decide
 have i4:∀n∈[(0:Int),6,0], -9223372036854775808≤n∧n≤9223372036854775807:=by decide
 have i5:∀n∈[(1:Int),5,5], -9223372036854775808≤n∧n≤9223372036854775807:=by decide
 have k2:blkE p3 [1,2] (intsF [0,4,4])=0:=by kernel_rfl
 have k3:ratB p3 [1,2] (intsF [0,6,0])=true:=by kernel_rfl
 have k4:ratB p3 [1,2] (intsF [1,5,5])=false:=by kernel_rfl
 have s1:=frE_len (blkS_sz k2 (pay_ints (by decide) i1))
 have s2:=frE_len (szI (W:=2) (by omega) (by omega))
 have ab:∀{X:Prop},true=false→X:=fun h=>absurd h (by decide)
 rw[k1,k3,k4]
 simp only[forall_const,reduceCtorEq,false_implies,true_implies,and_true,true_and]
 repeat' refine And.intro ?_ ?_
 all_goals first|omega|exact i1|exact i2|exact i3|exact i4|exact i5|exact(pay_ints (by decide) i1).1|exact(pay_ints (by decide) i1).2|exact(pay_ints (by decide) i2).1|exact(pay_ints (by decide) i2).2|exact(pay_ints (by decide) i3).1|exact(pay_ints (by decide) i3).2|exact(pay_ints (by decide) i4).1|exact(pay_ints (by decide) i4).2|exact(pay_ints (by decide) i5).1|exact(pay_ints (by decide) i5).2|exact Nat.le_trans s2.1 (by omega)|exact Nat.le_trans s2.2 (by omega)|rfl
theorem natL_one {g:Int} (h:0≤g):natL g=[1]↔g=1:=by
 constructor
 ·intro hg
  have:=(natL_ok h).1
  rw[hg] at this
  simp[valN] at this
  omega
 ·rintro rfl
  rfl
theorem val_pos {a:List Int} (h:Dig a) (hn:Nrm a) (hne:a≠[]):0<valN a:=by
 have:=val_nonneg h
 by_cases hz:valN a=0
 ·exact absurd (val_zero h hn hz) hne
 ·omega
def okF (x:Fra):Bool:=decide (frE (valF x)=x)
theorem gcdN_pos {n d:Int} (h:0<d):0<gcdN n d:=by
 unfold gcdN
 have:0<Nat.gcd n.toNat d.toNat:=Nat.gcd_pos_of_pos_right _ (by omega)
 omega
theorem okF_nrm {s:Bool} {n d:List Int} (h:okF (s,(n,d))=true):Nrm n∧Nrm d∧d≠[]:=by
 have h:=of_decide_eq_true h
 have h1:=natL_ok (show(0:Int)≤((valF (s,(n,d))).num.natAbs:Int) by omega)
 have h2:=natL_ok (show(0:Int)≤((valF (s,(n,d))).den:Int) by omega)
 have e1:natL ((valF (s,(n,d))).num.natAbs:Int)=n:=congrArg (fun x=>x.2.1) h
 have e2:natL ((valF (s,(n,d))).den:Int)=d:=congrArg (fun x=>x.2.2) h
 rw[e1] at h1
 rw[e2] at h2
 refine⟨h1.2.2,h2.2.2,fun hd=>?_⟩
 have h3:=h2.1
 rw[hd] at h3
 have:=(valF (s,(n,d))).den_pos
 simp only[valN] at h3
 rw[hd] at this
 omega
theorem okF_eq {s:Bool} {n d:List Int} (hn:Dig n) (hd:Dig d) (nn:Nrm n) (nd:Nrm d) (hd0:d≠[]):
  okF (s,(n,d))=if n=[] then !s&&decide (d=[1]) else decide (gcdN (valN n) (valN d)=1):=by
 have dp:=val_pos hd nd hd0
 have n0:=val_nonneg hn
 have hv:valF (s,(n,d))=mkRat (if s then -valN n else valN n) (valN d).toNat:=rfl
 have hm:=@frE_mk s (valN n) (valN d) n0 dp
 have gp:=@gcdN_pos (valN n) (valN d) dp
 unfold okF
 rw[hv,hm]
 by_cases h0:n=[]
 ·rw[if_pos h0,h0]
  have hg:gcdN (valN []) (valN d)=valN d:=by unfold gcdN;simp[valN];omega
  have e1:natL (valN d / gcdN (valN []) (valN d))=[1]:=by rw[hg,Int.ediv_self (by omega)];rfl
  have e2:natL (valN [] / gcdN (valN []) (valN d))=[]:=by
   have:valN []=0:=rfl
   rw[this,Int.zero_ediv];rfl
  rw[e1,e2]
  have e3:decide (0<valN [])=false:=rfl
  rw[e3,Bool.and_false]
  rw[Bool.eq_iff_iff,Bool.and_eq_true,decide_eq_true_eq,decide_eq_true_eq,Bool.not_eq_true']
  constructor
  ·intro h
   injection h with h1 h2
   injection h2 with h2 h3
   exact⟨h1.symm,h3.symm⟩
  ·rintro⟨h1,h2⟩
   rw[h1,h2]
 ·rw[if_neg h0]
  have np:=val_pos hn nn h0
  rw[decide_eq_true (show 0<valN n from np),Bool.and_true]
  rw[Bool.eq_iff_iff,decide_eq_true_eq,decide_eq_true_eq]
  constructor
  ·intro h
   injection h with h1 h2
   injection h2 with h2 h3
   have h4:=(natL_ok (show 0≤valN d / gcdN (valN n) (valN d) from Int.ediv_nonneg (by omega) (by omega))).1
   rw[h3] at h4
   by_cases h5:gcdN (valN n) (valN d)=1
   ·exact h5
   ·have:=Int.ediv_lt_self_of_pos_of_ne_one dp (by omega:gcdN (valN n) (valN d)≠1)
    omega
  ·intro h
   rw[h,Int.ediv_one,Int.ediv_one,natL_val hn nn,natL_val hd nd]
def r93:SCtr:=⟨93,Fra,.one (codE sF),fun x=>(Dig x.2.1∧Dig x.2.2)∧x.2.1.length≤1000000∧x.2.2.length≤1000000,fun x=> .sb (okF x)⟩
theorem h93:Holds Try.prog r93:=by
 refine con (L:=[r124,r125]) r93 F93 (fun _ _=> .look) (OwnOK.none _) (by simpa using⟨h124,h125⟩) (by kernel_rfl) (by kernel_rfl) (fun _=>rfl) ?_
 rintro⟨s,n,d⟩ ⟨⟨hn,hd⟩,hl1,hl2⟩
 refine vcOf (let z0:=SV.sb (okF (s,n,d));let z1:=(↑d.length:Int);let z2:=decide (z1=(0:Int));let z3:=decide ((↑n.length:Int)=(0:Int));let z4:=decide (z1=(1:Int));let z5:=natL (gcdN (valN n) (valN d));let z6:=decide ((↑z5.length:Int)=(1:Int));n.length≤1000000000∧((!nrmB n)=true→(SV.bl false).same z0)∧((!nrmB n)=false→d.length≤1000000000∧((!nrmB d)=true→(SV.bl false).same z0)∧((!nrmB d)=false→(z2=true→(SV.bl false).same z0)∧(z2=false→(z3=true→((!s)=true→(z4=true→(0:Int)≤(0:Int)∧(0:Int)<z1∧0<d.length∧(SV.sb (decide (nthD d 0 (0:Int)=(1:Int)))).same z0)∧(z4=false→(SV.bl false).same z0))∧((!s)=false→(SV.bl false).same z0))∧(z3=false→((Dig n∧Dig d)∧(n.length≤100000000∧d.length≤100000000)∧Nrm d)∧(z6=true→(0:Int)≤(0:Int)∧(0:Int)<(↑z5.length:Int)∧0<z5.length∧(SV.sb (decide (nthD z5 0 (0:Int)=(1:Int)))).same z0)∧(z6=false→(SV.bl false).same z0)))))) (by kernel_rfl) ?_
 simp only[vcs]
 have hn:Dig n:=hn
 have hd:Dig d:=hd
 have hl1:n.length≤1000000:=hl1
 have hl2:d.length≤1000000:=hl2
 have nope:¬(Nrm n∧Nrm d∧d≠[])→false=okF (s,n,d):=fun h=>by
  cases hb:okF (s,n,d) with
  |false=>rfl
  |true=>exact absurd (okF_nrm hb) h
 have nil_of:∀{a:List Int},((a.length:Nat):Int)=0→a=[]:=fun h=>List.eq_nil_of_length_eq_zero (by omega)
 have ne_of:∀{a:List Int},¬((a.length:Nat):Int)=0→a≠[]:=fun h h2=>h (by rw[h2];rfl)
 refine⟨by omega,fun h1=>nope fun h=>?_,fun h1=>⟨by omega,fun h2=>nope fun h=>?_,fun h2=>⟨fun h3=>nope fun h=>h.2.2 (nil_of h3),fun h3=>?_⟩⟩⟩
 ·have:=nrmB_iff.2 h.1
  rw[h1] at this
  cases this
 ·have:=nrmB_iff.2 h.2.1
  rw[h2] at this
  cases this
 have he:=okF_eq (s:=s) hn hd (nrmB_iff.1 h1) (nrmB_iff.1 h2) (ne_of h3)
 have hg:=@gcdN_pos (valN n) (valN d) (val_pos hd (nrmB_iff.1 h2) (ne_of h3))
 obtain⟨g1,g2,g3⟩:=natL_ok (show 0≤gcdN (valN n) (valN d) by omega)
 rw[he]
 have one:∀{a:List Int},((a.length:Nat):Int)=1→a=[nthD a 0 0]:=fun {a} h=>by
  match a,h with
  |[x],_=>rfl
  |[],h=>simp at h
  |_::_::_,h=>simp at h;omega
 refine⟨fun h4=>?_,fun h4=>?_⟩
 ·rw[if_pos (nil_of h4)]
  refine⟨fun h5=>⟨fun h6=>⟨by omega,by omega,by omega,?_⟩,fun h6=>?_⟩,fun h5=>?_⟩
  ·rw[h5]
   have:=one h6
   rw[this]
   simp[nthD]
  ·have:¬d=[1]:=fun h=>h6 (by rw[h];rfl)
   rw[h5]
   simp[this]
  ·rw[h5]
   rfl
 ·rw[if_neg (ne_of h4)]
  refine⟨⟨⟨hn,hd⟩,⟨by omega,by omega⟩,nrmB_iff.1 h2⟩,fun h5=>⟨by omega,by omega,by omega,?_⟩,fun h5=>?_⟩
  ·have h6:=one h5
   have h7:=@natL_one (gcdN (valN n) (valN d)) (by omega)
   rw[Bool.eq_iff_iff,decide_eq_true_eq,decide_eq_true_eq,←h7]
   constructor
   ·intro h8
    rw[h6,h8]
   ·intro h8
    rw[h8]
    rfl
  ·have h7:¬gcdN (valN n) (valN d)=1:=fun h8=>h5 (by rw[(natL_one (by omega)).2 h8];rfl)
   simp[h7]
def okS (x:Fra):Bool:=decide (x.2.1.length≤3)&&decide (x.2.2.length≤3)&&okF x
def smallB (l:List Fra):Bool:=l.all okS&&decide (l.length≤10)
def rowD (l:List Fra):Prop:=∀x∈l,Dig x.2.1∧Dig x.2.2
theorem small_pay {l:List Fra} (hd:rowD l) (h:smallB l=true):payOk l:=by
 unfold smallB at h
 rw[Bool.and_eq_true,decide_eq_true_eq,List.all_eq_true] at h
 refine⟨h.2,fun x hx=>⟨valF x,?_,?_⟩⟩
 ·have:=h.1 x hx
  unfold okS at this
  simp only[Bool.and_eq_true,decide_eq_true_eq] at this
  exact(of_decide_eq_true this.2).symm
 ·have:=h.1 x hx
  unfold okS at this
  simp only[Bool.and_eq_true,decide_eq_true_eq] at this
  obtain⟨⟨l1,l2⟩,l3⟩:=this
  have l3:=of_decide_eq_true l3
  obtain⟨d1,d2⟩:=hd x hx
  have e1:natL ((valF x).num.natAbs:Int)=x.2.1:=congrArg (fun x=>x.2.1) l3
  have e2:natL ((valF x).den:Int)=x.2.2:=congrArg (fun x=>x.2.2) l3
  have v1:=(natL_ok (show(0:Int)≤((valF x).num.natAbs:Int) by omega)).1
  have v2:=(natL_ok (show(0:Int)≤((valF x).den:Int) by omega)).1
  rw[e1] at v1
  rw[e2] at v2
  have b1:=lt_of_len d1 l1
  have b2:=lt_of_len d2 l2
  exact⟨by omega,by omega⟩
def r43:SCtr:=⟨43,List Fra,.one (codR sF),fun l=>rowD (show List Fra from l)∧(show List Fra from l).length≤9223372036854775807,fun l=> .sb (smallB l)⟩
def Λ43 (a:List Fra):Nat→LoopAnn
 |2=> .inv Int (fun x=>⟨[(0,.row sF a),(5,.row sF a),(6,.si .i64 a.length),(7,.si .i64 x)],[]⟩) (fun s=>iS s 7) (fun x=>(0≤x∧x≤a.length)∧∀j:Nat,(j:Int)<x→okS (nthD a j sF.dflt)=true) (fun x=>(a.length - x).toNat) fun _ _=> .look
 |_=> .look
theorem h43:Holds Try.prog r43:=by
 refine con (L:=[r93]) r43 F43 Λ43 (OwnOK.none _) (by simpa using h93) (by kernel_rfl) (by kernel_rfl) (fun _=>rfl) ?_
 rintro(l:List Fra) ⟨hd,hl⟩
 refine vcOf (let z0:=(↑l.length:Int);let z1:=(↑l.length:Int);let z2:=SV.si .i64 z1;((((SV.row sF l).same (SV.row sF l)∧(SV.row sF l).same (SV.row sF l)∧(SV.si .i64 z0).same z2∧(SV.il .i64 0).same (SV.si .i64 0)∧True)∧True)∧((0:Int)≤(0:Int)∧(0:Int)≤z1)∧∀(j:Nat),(↑j:Int)<(0:Int)→okS (nthD l j sF.dflt)=true)∧∀(x:Int),let z3:=nthD l x.toNat sF.dflt;let z4:=z3.snd.fst;let z5:=decide ((3:Int)<(↑(List.length z4):Int));let z6:=z3.snd.snd;let z7:=decide ((3:Int)<(↑(List.length z6):Int));let z8:=!okF (z3.fst,z4,z6);let z9:=x+(1:Int);let z10:=SV.si .i64 z9;(((0:Int)≤x∧x≤z1)∧∀(j:Nat),(↑j:Int)<x→okS (nthD l j sF.dflt)=true)→(decide (x<z1)=true→(0:Int)≤x∧x<z0∧x.toNat<l.length∧(z5=true→(SV.bl false).same (SV.sb (smallB l)))∧(z5=false→(z7=true→(SV.bl false).same (SV.sb (smallB l)))∧(z7=false→((Dig z4∧Dig z6)∧List.length z4≤1000000∧List.length z6≤1000000)∧(z8=true→(SV.bl false).same (SV.sb (smallB l)))∧(z8=false→inR .i64 z9∧(((SV.row sF l).same (SV.row sF l)∧(SV.row sF l).same (SV.row sF l)∧z2.same z2∧z10.same z10∧True)∧True)∧(((0:Int)≤z9∧z9≤z1)∧∀(j:Nat),(↑j:Int)<z9→okS (nthD l j sF.dflt)=true)∧(z1 - z9).toNat<(z1 - x).toNat))))∧(decide (x<z1)=false→(SV.sb (decide (z0≤(10:Int)))).same (SV.sb (smallB l)))) (by kernel_rfl) ?_
 simp only[vcs]
 have hd:rowD l:=hd
 have hl:l.length≤9223372036854775807:=hl
 have nope:(∃x∈l,okS x=false)→false=smallB l:=fun⟨x,hx,h⟩=>by
  cases hb:smallB l with
  |false=>rfl
  |true=>
   unfold smallB at hb
   rw[Bool.and_eq_true,List.all_eq_true] at hb
   have:=hb.1 x hx
   rw[h] at this
   cases this
 refine⟨⟨⟨by omega,by omega⟩,fun j hj=>by omega⟩,?_⟩
 rintro i ⟨⟨i0,i1⟩,hj⟩
 refine⟨fun hi=>?_,fun hi=>?_⟩
 ·have hm:=nthD_mem (d:=sF.dflt) (show i.toNat<l.length by omega)
  obtain⟨d1,d2⟩:=hd _ hm
  have e3:((nthD l i.toNat sF.dflt).1,(nthD l i.toNat sF.dflt).2.1,(nthD l i.toNat sF.dflt).2.2)=nthD l i.toNat sF.dflt:=rfl
  rw[e3]
  generalize hx:nthD l i.toNat sF.dflt=x at*
  refine⟨by omega,by omega,by omega,fun h1=>nope ⟨x,hm,?_⟩,fun h1=>⟨fun h2=>nope ⟨x,hm,?_⟩,fun h2=>⟨⟨⟨d1,d2⟩,by omega,by omega⟩,fun h3=>nope ⟨x,hm,?_⟩,fun h3=>⟨by omega,⟨⟨by omega,by omega⟩,fun j hj2=>?_⟩,by omega⟩⟩⟩⟩
  ·have:¬x.2.1.length≤3:=by omega
   simp[okS,this]
  ·have:¬x.2.2.length≤3:=by omega
   simp[okS,this]
  ·simp[okS,h3]
  ·by_cases hji:(j:Int)<i
   ·exact hj j hji
   ·have:j=i.toNat:=by omega
    subst this
    rw[hx]
    have h4:x.2.1.length≤3:=by omega
    have h5:x.2.2.length≤3:=by omega
    simp[okS,h3,h4,h5]
 ·unfold smallB
  have:l.all okS=true:=by
   rw[List.all_eq_true]
   intro x hx
   obtain⟨j,hj2,rfl⟩:=List.getElem_of_mem hx
   have:=hj j (by omega)
   rwa [nthD_eq hj2] at this
  rw[this,Bool.true_and,Bool.eq_iff_iff,decide_eq_true_eq,decide_eq_true_eq]
  omega
theorem blk_top {V T:List Int} {l:List Fra}:∀{k:Nat},(((blkU V T l k).g=0∧(blkU V T l k).m=0∧(blkU V T l k).w=0)∨(0<(blkU V T l k).g∧∃j,j<k∧(blkU V T l k).g=gainQ V l j (nthD T j 0)))∧∀j:Nat,j<k→gainQ V l j (nthD T j 0)≤(blkU V T l k).g
 |0=>⟨.inl ⟨rfl,rfl,rfl⟩,fun j hj=>absurd hj (Nat.not_lt_zero _)⟩
 |k+1=>by
  obtain⟨h1,h2⟩:=@blk_top V T l k
  have h0:0≤(blkU V T l k).g:=by
   rcases h1 with h|h
   ·rw[h.1];exact Rat.le_refl
   ·have:=h.1;grind
  rw[blkU_succ]
  by_cases h:(blkU V T l k).g<gainQ V l k (nthD T k 0)
  ·rw[if_pos h]
   refine⟨.inr ⟨by simp only;grind,k,by omega,rfl⟩,fun j hj=>?_⟩
   simp only
   by_cases hjk:j=k
   ·subst hjk;exact Rat.le_refl
   ·have:=h2 j (by omega)
    grind
  ·rw[if_neg h]
   refine⟨?_,fun j hj=>?_⟩
   ·rcases h1 with h1|⟨h3,j,h4,h5⟩
    ·exact .inl h1
    ·exact .inr ⟨h3,j,by omega,h5⟩
   ·by_cases hjk:j=k
    ·subst hjk;grind
    ·exact h2 j (by omega)
theorem core_iff {p:Prob} {c:List Int} {l:List Fra} (hb:blkE p c l=0):coreE p c l=0↔ratB p c l=true∧¬0<(blkS p c l).g:=by
 unfold coreE
 rw[if_neg (by omega)]
 by_cases hr:ratB p c l=true
 ·rw[if_neg (by rw[hr];decide)]
  have ht:=(@blk_top (valsS p c) (tabS p) l (tabS p).length).1
  by_cases hg:0<(blkS p c l).g
  ·rw[if_pos (.inr hg)]
   constructor
   ·intro h;omega
   ·intro h;exact absurd hg h.2
  ·have hx:¬(((blkS p c l).m≠0∨(blkS p c l).w≠0)∨0<(blkS p c l).g):=by
    rcases ht with ht|ht
    ·rintro((h|h)|h)
     ·exact h ht.2.1
     ·exact h ht.2.2
     ·exact hg h
    ·exact absurd ht.1 hg
   rw[if_neg hx]
   simp[hr,hg]
 ·have hr':ratB p c l=false:=by simpa using hr
  rw[if_pos hr']
  constructor
  ·intro h;omega
  ·intro h;exact absurd h.1 hr
theorem rat_nn {p:Prob} {c:List Int} {l:List Fra} (h:ratB p c l=true):∀j:Nat,j<l.length→0≤valF (nthD l j sF.dflt):=fun j hj=>by
 have:=(ratB_iff.1 h).2.2 j hj
 unfold rat1 at this
 simp only[Bool.and_eq_true,decide_eq_true_eq] at this
 exact this.1
theorem cmpQ_neg {p q:Rat}:cmpQ p q<0↔p<q:=by
 unfold cmpQ
 by_cases h1:p<q
 ·rw[if_pos h1];simp[h1]
 ·rw[if_neg h1]
  by_cases h2:q<p
  ·rw[if_pos h2];simp[h1]
  ·rw[if_neg h2];simp[h1]
def bidI (p:Prob) (j:Int):Int:=(nthD p.offers j.toNat SId.off.dflt).bidder
def setU (p:Prob) (m s:Int) (n:Nat):List Int:=((List.range n).filter fun(j:Nat)=>hasI s j&&hasI m (bidI p j)).map fun(j:Nat)=>(j:Int)
theorem setU_succ {p:Prob} {m s:Int} {n:Nat}:setU p m s (n+1)=if hasI s n=true∧hasI m (bidI p n)=true then setU p m s n++[(n:Int)] else setU p m s n:=by
 unfold setU
 rw[List.range_succ,List.filter_append,List.map_append]
 by_cases h:hasI s n=true∧hasI m (bidI p n)=true
 ·rw[if_pos h];simp[h.1,h.2]
 ·rw[if_neg h]
  have:(hasI s n&&hasI m (bidI p n))=false:=by
   cases h1:hasI s n with
   |false=>rfl
   |true=>
    cases h2:hasI m (bidI p n) with
    |false=>rfl
    |true=>exact absurd ⟨h1,h2⟩ h
  simp[this]
theorem setU_len {p:Prob} {m s:Int} {n:Nat}:(setU p m s n).length≤n:=by
 unfold setU
 rw[List.length_map]
 exact Nat.le_trans (List.length_filter_le _ _) (by simp)
theorem setU_mem {p:Prob} {m s:Int} {n:Nat} {j:Int}:j∈setU p m s n↔∃k:Nat,(k:Int)=j∧k<n∧hasI s k=true∧hasI m (bidI p k)=true:=by
 unfold setU
 rw[List.mem_map]
 constructor
 ·rintro⟨k,hk,rfl⟩
  rw[List.mem_filter,Bool.and_eq_true,List.mem_range] at hk
  exact⟨k,rfl,hk.1,hk.2.1,hk.2.2⟩
 ·rintro⟨k,rfl,h1,h2,h3⟩
  exact⟨k,by rw[List.mem_filter,Bool.and_eq_true,List.mem_range];exact⟨h1,h2,h3⟩,rfl⟩
theorem setU_inc {p:Prob} {m s:Int}:∀{n:Nat},(setU p m s n).Pairwise (·<·)
 |0=>by simp[setU]
 |n+1=>by
  have h:=@setU_inc p m s n
  rw[setU_succ]
  split
  ·rw[List.pairwise_append]
   refine⟨h,by simp,fun a ha b hb=>?_⟩
   obtain⟨k,rfl,hk,_⟩:=setU_mem.1 ha
   simp only[List.mem_singleton] at hb
   omega
  ·exact h
def wrU (p:Prob) (m:Int) (k:Nat):Int:=(List.range k).foldl (fun(b:Int) (s:Nat)=>if b<valueS p (setU p m s p.offers.length)∧feasE p (setU p m s p.offers.length)=0 then valueS p (setU p m s p.offers.length) else b) 0
theorem wrU_succ {p:Prob} {m:Int} {k:Nat}:wrU p m (k+1)=if wrU p m k<valueS p (setU p m k p.offers.length)∧feasE p (setU p m k p.offers.length)=0 then valueS p (setU p m k p.offers.length) else wrU p m k:=by
 unfold wrU
 rw[List.range_succ,List.foldl_append]
 rfl
def wortW (p:Prob) (m:Int):Int:=wrU p m (2^p.offers.length)
def Λ54 (a:Prob×Int):Nat→LoopAnn
 |3=> .inv (Int×Int) (fun x=>⟨[(1,.si .i64 a.2),(2,.ptr 0 0 20),(5,.si .i64 x.2),(14,.si .i64 (2^a.1.offers.length)),(15,.si .i64 x.1)],[.cells a.1.ss 27 20 false]⟩) (fun s=>(iS s 15,iS s 5))
   (fun x=>(0≤x.1∧x.1≤2^a.1.offers.length)∧x.2=wrU a.1 a.2 x.1.toNat) (fun x=>(2^a.1.offers.length - x.1).toNat) fun x k=>match k with
   |7=> .inv (Int×List Int) (fun y=>⟨[(1,.si .i64 a.2),(2,.ptr 0 0 20),(5,.si .i64 x.2),(6,.si .i64 x.1),(7,.ow 1 y.2.length 1),(14,.si .i64 (2^a.1.offers.length)),(15,.si .i64 x.1),(19,.row .off a.1.offers),(20,.si .i64 a.1.offers.length),(21,.si .i64 y.1)],[.cells a.1.ss 27 20 false,.row (.i .i64) y.2 3 true]⟩)
     (fun s=>(iS s 21,oS (.i .i64) s 1)) (fun y=>(0≤y.1∧y.1≤a.1.offers.length)∧y.2=setU a.1 a.2 x.1 y.1.toNat) (fun y=>(a.1.offers.length - y.1).toNat) fun _ _=> .look
   |_=> .look
 |_=> .look
def r54:SCtr:=⟨54,Prob×Int,.cons codP (.one (codI .i64)),fun a=>(checkE a.1=0∧a.1.offers.length≤8)∧0≤a.2∧a.2<256,fun a=> .si .i64 (wortW a.1 a.2)⟩
theorem h54:Holds Try.prog r54:=by
 refine con (L:=[r55,r58]) r54 F54 Λ54 (OwnOK.none _) (by simpa using⟨h55,h58⟩) (by kernel_rfl) (by kernel_rfl) (fun _=>rfl) ?_
 rintro⟨p,m⟩ ⟨⟨hc,h8⟩,m0,m1⟩
 refine vcOf (let z0:=(↑p.offers.length:Int);let z1:=(1:Int)*(2:Int)^z0.toNat;let z2:=SV.ptr 0 0 20;let z3:=(2:Int)^p.offers.length;let z4:=SV.si .i64 z3;let z5:=SId.i .i64;let z6:=SV.row SId.off p.offers;let z7:=SObj.cells [SV.si .i64 p.supply.a0,SV.si .i64 p.supply.a1,SV.si .i64 p.supply.a2,SV.si .i64 p.supply.a3,SV.si .i64 p.supply.a4,SV.si .i64 p.supply.a5,SV.si .i64 p.opn.a0,SV.si .i64 p.opn.a1,SV.si .i64 p.opn.a2,SV.si .i64 p.opn.a3,SV.si .i64 p.opn.a4,SV.si .i64 p.opn.a5,SV.si .i64 p.cls.a0,SV.si .i64 p.cls.a1,SV.si .i64 p.cls.a2,SV.si .i64 p.cls.a3,SV.si .i64 p.cls.a4,SV.si .i64 p.cls.a5,SV.row z5 p.classes,z6] 27 20 false;let z8:=SV.ow 1 0 1;let z9:=(↑p.offers.length:Int);let z10:=SV.si .i64 z9;let z11:=SObj.row z5 [] 3 true;(0:Int)≤z0∧z0≤(64:Int)∧inR .i64 z1∧((((SV.si .i64 m).same (SV.si .i64 m)∧z2.same z2∧(SV.il .i64 0).same (SV.si .i64 0)∧(SV.si .i64 z1).same z4∧(SV.il .i64 0).same (SV.si .i64 0)∧True)∧z7.same z7∧True)∧((0:Int)≤(0:Int)∧(0:Int)≤z3)∧(0:Int)=wrU p m 0)∧∀(x:Int×Int),let z12:=SV.si .i64 x.snd;let z13:=SV.si .i64 x.fst;let z14:=x.fst+(1:Int);let z15:=SV.si .i64 z14;((0:Int)≤x.fst∧x.fst≤z3)∧x.snd=wrU p m x.fst.toNat→(decide (x.fst<z3)=true→((((SV.si .i64 m).same (SV.si .i64 m)∧z2.same z2∧z12.same z12∧z13.same z13∧z8.same z8∧z4.same z4∧z13.same z13∧z6.same z6∧(SV.si .i64 z0).same z10∧(SV.il .i64 0).same (SV.si .i64 0)∧True)∧z7.same z7∧z11.same z11∧True)∧((0:Int)≤(0:Int)∧(0:Int)≤z9)∧[]=setU p m x.fst 0)∧∀(x_1:Int×List Int),let z16:=x_1.fst.toNat;let z17:=decide (binK.andI .i64 (x.fst / (2:Int)^z16) (1:Int)=(1:Int));let z18:=(nthD p.offers z16 SId.off.dflt).bidder;let z19:=decide (binK.andI .i64 (m / (2:Int)^z18.toNat) (1:Int)=(1:Int));let z20:=x_1.snd.length;let z21:=x_1.snd.length+1;let z22:=x_1.fst+(1:Int);let z23:=x_1.snd++[x_1.fst];let z24:=SV.si .i64 z22;let z25:=SObj.row z5 z23 3 true;let z26:=setU p m x.fst z22.toNat;let z27:=SV.ow 1 z20 1;let z28:=SObj.row z5 x_1.snd 3 true;let z29:=valueS p x_1.snd;let z30:=decide (x.snd<z29);let z31:=decide (feasE p x_1.snd=(0:Int));let z32:=SV.si .i64 z29;((0:Int)≤x_1.fst∧x_1.fst≤z9)∧x_1.snd=setU p m x.fst z16→(decide (x_1.fst<z9)=true→(0:Int)≤x_1.fst∧x_1.fst<z0∧z16<p.offers.length∧(0:Int)≤x_1.fst∧x_1.fst≤(64:Int)∧(z17=true→(0:Int)≤z18∧z18≤(64:Int)∧(z19=true→z20=x_1.snd.length∧z21*8≤140737488355328∧z21≤1000000000000∧inR .i64 z22∧(((SV.si .i64 m).same (SV.si .i64 m)∧z2.same z2∧z12.same z12∧z13.same z13∧(SV.ow 1 z23.length 1).same (SV.ow 1 z23.length 1)∧z4.same z4∧z13.same z13∧z6.same z6∧z10.same z10∧z24.same z24∧True)∧z7.same z7∧z25.same z25∧True)∧(((0:Int)≤z22∧z22≤z9)∧z23=z26)∧(z9 - z22).toNat<(z9 - x_1.fst).toNat)∧(z19=false→inR .i64 z22∧(((SV.si .i64 m).same (SV.si .i64 m)∧z2.same z2∧z12.same z12∧z13.same z13∧z27.same z27∧z4.same z4∧z13.same z13∧z6.same z6∧z10.same z10∧z24.same z24∧True)∧z7.same z7∧z28.same z28∧True)∧(((0:Int)≤z22∧z22≤z9)∧x_1.snd=z26)∧(z9 - z22).toNat<(z9 - x_1.fst).toNat))∧(z17=false→inR .i64 z22∧(((SV.si .i64 m).same (SV.si .i64 m)∧z2.same z2∧z12.same z12∧z13.same z13∧z27.same z27∧z4.same z4∧z13.same z13∧z6.same z6∧z10.same z10∧z24.same z24∧True)∧z7.same z7∧z28.same z28∧True)∧(((0:Int)≤z22∧z22≤z9)∧x_1.snd=z26)∧(z9 - z22).toNat<(z9 - x_1.fst).toNat))∧(decide (x_1.fst<z9)=false→z20=x_1.snd.length∧z20≤9223372036854775807∧(z30=true→z20=x_1.snd.length∧z20≤9223372036854775807∧(z31=true→inR .i64 z14∧(((SV.si .i64 m).same (SV.si .i64 m)∧z2.same z2∧z32.same z32∧z4.same z4∧z15.same z15∧True)∧z7.same z7∧True)∧(((0:Int)≤z14∧z14≤z3)∧z29=wrU p m z14.toNat)∧(z3 - z14).toNat<(z3 - x.fst).toNat)∧(z31=false→inR .i64 z14∧(((SV.si .i64 m).same (SV.si .i64 m)∧z2.same z2∧z12.same z12∧z4.same z4∧z15.same z15∧True)∧z7.same z7∧True)∧(((0:Int)≤z14∧z14≤z3)∧x.snd=wrU p m z14.toNat)∧(z3 - z14).toNat<(z3 - x.fst).toNat))∧(z30=false→inR .i64 z14∧(((SV.si .i64 m).same (SV.si .i64 m)∧z2.same z2∧z12.same z12∧z4.same z4∧z15.same z15∧True)∧z7.same z7∧True)∧(((0:Int)≤z14∧z14≤z3)∧x.snd=wrU p m z14.toNat)∧(z3 - z14).toNat<(z3 - x.fst).toNat)))∧(decide (x.fst<z3)=false→z12.same (SV.si .i64 (wortW p m)))) (by kernel_rfl) ?_
 simp only[vcs]
 have hc:checkE p=0:=hc
 have h8:p.offers.length≤8:=h8
 have m0:0≤m:=m0
 have m1:m<256:=m1
 have hg:=good_of hc
 have hp:=pow8 h8
 have e0:(1:Int)*2^((p.offers.length:Int)).toNat=2^p.offers.length:=by rw[Int.one_mul,Int.toNat_natCast]
 have hpn:((2^p.offers.length:Nat):Int)=2^p.offers.length:=by push_cast;rfl
 rw[e0]
 refine⟨by omega,by omega,by omega,⟨rfl,⟨by omega,by omega⟩,rfl⟩,?_⟩
 rintro⟨s,b⟩ ⟨⟨s0,s1⟩,hb⟩
 simp only at s0 s1 hb ⊢
 subst hb
 have es:((s.toNat:Nat):Int)=s:=by omega
 have es1:(s+1).toNat=s.toNat+1:=by omega
 have hsu:=@wrU_succ p m s.toNat
 rw[es] at hsu
 refine⟨fun hs=>⟨⟨⟨by omega,by omega⟩,rfl⟩,?_⟩,fun hs=>?_⟩
 ·rintro⟨i,l⟩ ⟨⟨i0,i1⟩,hl⟩
  simp only at i0 i1 hl ⊢
  subst hl
  have e:(i+1).toNat=i.toNat+1:=by omega
  have ei:((i.toNat:Nat):Int)=i:=by omega
  have hse:=@setU_succ p m s i.toNat
  rw[ei] at hse
  have hlen:=@setU_len p m s i.toNat
  obtain⟨n0,n1⟩:=half_nn (i:=i.toNat) s0
  have ha:binK.andI .i64 (s / 2^i.toNat) 1=s / 2^i.toNat % 2:=and_one n0 (by omega)
  have hI:hasI s i=decide (s / 2^i.toNat % 2=1):=rfl
  refine⟨fun hi=>?_,fun hi=>?_⟩
  ·have hx:=hg.2.2.2.2 _ (nthD_mem (d:=SId.off.dflt) (show i.toNat<p.offers.length by omega))
   have hx1:=hx.1
   have hx2:=hx.2.1
   have hg1:=hg.1
   obtain⟨k0,k1⟩:=half_nn (i:=(bidI p i).toNat) m0
   have hbi:(nthD p.offers i.toNat SId.off.dflt).bidder=bidI p i:=rfl
   rw[hbi] at hx1 hx2 ⊢
   have hb2:binK.andI .i64 (m / 2^(bidI p i).toNat) 1=m / 2^(bidI p i).toNat % 2:=and_one k0 (by omega)
   have hJ:hasI m (bidI p i)=decide (m / 2^(bidI p i).toNat % 2=1):=rfl
   rw[ha,hb2,e,hse,hI,hJ]
   refine⟨by omega,by omega,by omega,by omega,by omega,fun h1=>⟨by omega,by omega,fun h2=>?_,fun h2=>?_⟩,fun h1=>?_⟩
   ·rw[if_pos ⟨decide_eq_true h1,decide_eq_true h2⟩]
    refine⟨by omega,by omega,by omega,⟨⟨by omega,by omega⟩,rfl⟩,by omega⟩
   ·rw[if_neg (fun h=>h2 (of_decide_eq_true h.2))]
    refine⟨by omega,⟨⟨by omega,by omega⟩,rfl⟩,by omega⟩
   ·rw[if_neg (fun h=>h1 (of_decide_eq_true h.1))]
    refine⟨by omega,⟨⟨by omega,by omega⟩,rfl⟩,by omega⟩
  ·have hin:i.toNat=p.offers.length:=by omega
   rw[hin] at hlen ⊢
   rw[es1,hsu]
   refine⟨by omega,fun h1=>⟨by omega,fun h2=>?_,fun h2=>?_⟩,fun h1=>?_⟩
   ·rw[if_pos ⟨h1,h2⟩]
    refine⟨by omega,⟨⟨by omega,by omega⟩,rfl⟩,by omega⟩
   ·rw[if_neg (fun h=>h2 h.2)]
    refine⟨by omega,⟨⟨by omega,by omega⟩,rfl⟩,by omega⟩
   ·rw[if_neg (fun h=>h1 h.1)]
    refine⟨by omega,⟨⟨by omega,by omega⟩,rfl⟩,by omega⟩
 ·unfold wortW
  rw[show s.toNat=2^p.offers.length by omega]
theorem wr_top {p:Prob} {m:Int}:∀{k:Nat},(wrU p m k=0∨∃s,s<k∧feasE p (setU p m s p.offers.length)=0∧wrU p m k=valueS p (setU p m s p.offers.length))∧0≤wrU p m k∧∀s:Nat,s<k→feasE p (setU p m s p.offers.length)=0→valueS p (setU p m s p.offers.length)≤wrU p m k
 |0=>⟨.inl rfl,Int.le_refl _,fun s hs=>absurd hs (Nat.not_lt_zero _)⟩
 |k+1=>by
  obtain⟨h1,h2,h3⟩:=@wr_top p m k
  rw[wrU_succ]
  by_cases h:wrU p m k<valueS p (setU p m k p.offers.length)∧feasE p (setU p m k p.offers.length)=0
  ·rw[if_pos h]
   refine⟨.inr ⟨k,by omega,h.2,rfl⟩,by omega,fun s hs hf=>?_⟩
   by_cases hk:s=k
   ·subst hk;omega
   ·have:=h3 s (by omega) hf;omega
  ·rw[if_neg h]
   refine⟨?_,h2,fun s hs hf=>?_⟩
   ·rcases h1 with h1|⟨s,h4,h5,h6⟩
    ·exact .inl h1
    ·exact .inr ⟨s,by omega,h5,h6⟩
   ·by_cases hk:s=k
    ·subst hk
     by_cases hlt:wrU p m s<valueS p (setU p m s p.offers.length)
     ·exact absurd ⟨hlt,hf⟩ h
     ·omega
    ·exact h3 s (by omega) hf
theorem has_bit {s j:Nat}:hasI (s:Int) (j:Int)=s.testBit j:=by
 unfold hasI
 rw[Nat.testBit_eq_decide_div_mod_eq,Int.toNat_natCast]
 rw[Bool.eq_iff_iff,decide_eq_true_eq,decide_eq_true_eq]
 have h1:((2^j:Nat):Int)=2^j:=by push_cast;rfl
 have h:((s / 2^j % 2:Nat):Int)=(s:Int) / 2^j % 2:=by rw[←h1];omega
 omega
theorem bits_ex (P:Nat→Bool):∀n:Nat,∃s:Nat,s<2^n∧∀j,j<n→s.testBit j=P j
 |0=>⟨0,by simp,fun j hj=>absurd hj (Nat.not_lt_zero _)⟩
 |n+1=>by
  obtain⟨s,h1,h2⟩:=bits_ex P n
  cases hP:P n with
  |true=>
   refine⟨2^n+s,by rw[Nat.pow_succ];omega,fun j hj=>?_⟩
   by_cases hjn:j=n
   ·subst hjn
    rw[Nat.testBit_two_pow_add_eq,Nat.testBit_lt_two_pow h1,hP]
    rfl
   ·rw[Nat.testBit_two_pow_add_gt (by omega)]
    exact h2 j (by omega)
  |false=>
   refine⟨s,by rw[Nat.pow_succ];omega,fun j hj=>?_⟩
   by_cases hjn:j=n
   ·subst hjn
    rw[Nat.testBit_lt_two_pow h1,hP]
   ·exact h2 j (by omega)
theorem inc_ext:∀{a b:List Int},a.Pairwise (·<·)→b.Pairwise (·<·)→(∀x,x∈a↔x∈b)→a=b
 |[],[],_,_,_=>rfl
 |[],y::b,_,_,h=>by
  have:=(h y).2 (by simp)
  simp at this
 |x::a,[],_,_,h=>by
  have:=(h x).1 (by simp)
  simp at this
 |x::a,y::b,ha,hb,h=>by
  obtain⟨a1,a2⟩:=List.pairwise_cons.1 ha
  obtain⟨b1,b2⟩:=List.pairwise_cons.1 hb
  have hxy:x=y:=by
   rcases List.mem_cons.1 ((h x).1 (by simp)) with h1|h1
   ·exact h1
   ·rcases List.mem_cons.1 ((h y).2 (by simp)) with h2|h2
    ·exact h2.symm
    ·have:=b1 x h1
     have:=a1 y h2
     omega
  subst hxy
  rw[inc_ext a2 b2 fun z=>?_]
  constructor
  ·intro hz
   have:=a1 z hz
   rcases List.mem_cons.1 ((h z).1 (by simp[hz])) with h1|h1
   ·omega
   ·exact h1
  ·intro hz
   have:=b1 z hz
   rcases List.mem_cons.1 ((h z).2 (by simp[hz])) with h1|h1
   ·omega
   ·exact h1
theorem inM_has {p:Prob} {m j:Int} (m0:0≤m) (m1:m<256):inM p m j↔hasI m (bidI p j)=true:=by
 unfold inM bitI hasI bidI
 obtain⟨k0,k1⟩:=half_nn (i:=((nthD p.offers j.toNat SId.off.dflt).bidder).toNat) m0
 rw[and_one k0 (by omega),decide_eq_true_eq]
theorem tab_get {p:Prob} {m:Int} (m0:0≤m) (m1:m<2^p.classes.length):nthD (tabS p) m.toNat 0=bestS p ⟨m,p.supply,p.opn⟩:=by
 have hpn:((2^p.classes.length:Nat):Int)=2^p.classes.length:=by push_cast;rfl
 unfold tabS tabP nthD
 have h:m.toNat<2^p.classes.length:=by omega
 simp only[List.getElem?_map,List.getElem?_range h,Option.map_some,Option.getD_some]
 rw[show((m.toNat:Nat):Int)=m by omega]
theorem best_ge {p:Prob} {m:Int} (hc:checkE p=0) (m0:0≤m) (m1:m<2^p.classes.length) {t:List Int} (ht:FeasI p t) (hm:∀j∈t,hasI m (bidI p j)=true):valueS p t≤nthD (tabS p) m.toNat 0:=by
 have hg:=good_of hc
 have hp:=pow8 hg.1
 rw[tab_get m0 m1,←src_worth hc m0 m1,feasI_val hc ht]
 have:=(@src_ge p m hc p.offers.length 0 [] 0 ⟨[],0⟩).2 t ⟨ht.1,fun j hj=>(inM_has m0 (by omega)).2 (hm j hj),fun _=>by simpa using ht⟩
 unfold sumI at this
 omega
theorem best_hit {p:Prob} {m:Int} (hc:checkE p=0) (m0:0≤m) (m1:m<2^p.classes.length):∃t,FeasI p t∧(∀j∈t,hasI m (bidI p j)=true)∧valueS p t=nthD (tabS p) m.toNat 0:=by
 have hg:=good_of hc
 have hp:=pow8 hg.1
 rw[tab_get m0 m1,←src_worth hc m0 m1]
 rcases @src_hit p m hc p.offers.length 0 [] 0 ⟨[],0⟩ with h|⟨t,h1,h2⟩
 ·refine⟨[],feasI_nil hg,by simp,?_⟩
  rw[h,feasI_val hc (feasI_nil hg)]
  rfl
 ·by_cases ht:t=[]
  ·subst ht
   refine⟨[],feasI_nil hg,by simp,?_⟩
   rw[h2,feasI_val hc (feasI_nil hg)]
   rfl
  ·have hF:FeasI p t:=by simpa using h1.2.2 ht
   refine⟨t,hF,fun j hj=>(inM_has m0 (by omega)).1 (h1.2.1 j hj),?_⟩
   rw[h2,feasI_val hc hF]
   unfold sumI
   omega
theorem wort_eq {p:Prob} {m:Int} (hc:checkE p=0) (m0:0≤m) (m1:m<2^p.classes.length):wortW p m=nthD (tabS p) m.toNat 0:=by
 have hg:=good_of hc
 have hp:=pow8 hg.1
 obtain⟨h1,h2,h3⟩:=@wr_top p m (2^p.offers.length)
 obtain⟨_,hb⟩:=tabS_ok hg
 have hb:=hb m.toNat
 unfold wortW
 apply Int.le_antisymm
 ·rcases h1 with h1|⟨s,h4,h5,h6⟩
  ·omega
  ·rw[h6]
   refine best_ge hc m0 m1 ((feas_iff hc).1 h5) fun j hj=>?_
   obtain⟨k,rfl,_,_,h7⟩:=setU_mem.1 hj
   exact h7
 ·obtain⟨t,hF,hm,hv⟩:=best_hit hc m0 m1
  rw[←hv]
  obtain⟨s,hs,hbit⟩:=bits_ex (fun j=>decide ((j:Int)∈t)) p.offers.length
  have ht:setU p m s p.offers.length=t:=by
   refine inc_ext setU_inc hF.1.1 fun x=>?_
   constructor
   ·intro hx
    obtain⟨k,rfl,hk,h7,h8⟩:=setU_mem.1 hx
    rw[has_bit,hbit k hk] at h7
    exact of_decide_eq_true h7
   ·intro hx
    have:=hF.1.2 x hx
    refine setU_mem.2 ⟨x.toNat,by omega,by omega,?_,?_⟩
    ·rw[has_bit,hbit x.toNat (by omega)]
     exact decide_eq_true (by rw[show((x.toNat:Nat):Int)=x by omega];exact hx)
    ·rw[show((x.toNat:Nat):Int)=x by omega]
     exact hm x hx
  have h9:=h3 s hs (by rw[ht];exact(feas_iff hc).2 hF)
  rw[ht] at h9
  exact h9
def unpQ (l:List Fra) (m:Int) (n:Nat):Rat:=(List.range n).foldl (fun(s:Rat) (j:Nat)=>if hasI m j=false then s+valF (nthD l j sF.dflt) else s) 0
theorem unpQ_succ {l:List Fra} {m:Int} {n:Nat}:unpQ l m (n+1)=if hasI m n=false then unpQ l m n+valF (nthD l n sF.dflt) else unpQ l m n:=by
 unfold unpQ
 rw[List.range_succ,List.foldl_append]
 rfl
theorem unpQ_sz {l:List Fra} {m:Int} (h:payOk l):∀{n:Nat},n≤l.length→Sz (1+4*n) (unpQ l m n)
 |0,_=>by simpa[unpQ] using sz_zero
 |n+1,hn=>by
  have h1:=@unpQ_sz l m h n (by omega)
  obtain⟨q,hq,hs⟩:=payOk_get h (show n<l.length by omega)
  rw[unpQ_succ]
  split
  ·rw[hq,valF_frE]
   exact(sz_add h1 hs).mono (by omega)
  ·exact h1.mono (by omega)
def winQ (p:Prob) (c:List Int) (m:Int) (n:Nat):Int:=(List.range n).foldl (fun(s:Int) (j:Nat)=>if hasI m (bidI p (nthD c j 0))=true then s+valI p (nthD c j 0) else s) 0
theorem winQ_succ {p:Prob} {c:List Int} {m:Int} {n:Nat}:winQ p c m (n+1)=if hasI m (bidI p (nthD c n 0))=true then winQ p c m n+valI p (nthD c n 0) else winQ p c m n:=by
 unfold winQ
 rw[List.range_succ,List.foldl_append]
 rfl
theorem winQ_bd {p:Prob} (hg:Good p) {c:List Int} {m:Int} (hc:∀i∈c,0≤i∧i<p.offers.length):∀{n:Nat},n≤c.length→0≤winQ p c m n∧winQ p c m n≤1000000*n
 |0,_=>by simp[winQ]
 |n+1,hn=>by
  have h:=@winQ_bd p hg c m hc n (by omega)
  have hi:=hc _ (nthD_mem (d:=0) (show n<c.length by omega))
  have hx:=hg.2.2.2.2 _ (nthD_mem (d:=SId.off.dflt) (show(nthD c n 0).toNat<p.offers.length by omega))
  have h1:valI p (nthD c n 0)=(nthD p.offers (nthD c n 0).toNat SId.off.dflt).value:=rfl
  rw[winQ_succ,h1]
  split<;>omega
def memS (V:List Int) (m:Int) (n:Nat):Int:=(List.range n).foldl (fun(s:Int) (j:Nat)=>if hasI m j=true then s+nthD V j 0 else s) 0
theorem memS_succ {V:List Int} {m:Int} {n:Nat}:memS V m (n+1)=if hasI m n=true then memS V m n+nthD V n 0 else memS V m n:=by
 unfold memS
 rw[List.range_succ,List.foldl_append]
 rfl
theorem least_mem {V:List Int} {m w:Int}:∀{n:Nat},leastU V m w n=w - memS V m n
 |0=>by simp[leastU,memS]
 |n+1=>by
  rw[leastU_succ,memS_succ,@least_mem V m w n]
  split<;>omega
theorem memS_set {V:List Int} {m v:Int} {b:Nat}:∀{n:Nat},b<V.length→memS (V.set b v) m n=memS V m n+(if b<n∧hasI m b=true then v - nthD V b 0 else 0)
 |0,_=>by simp[memS]
 |n+1,hb=>by
  have ih:=@memS_set V m v b n hb
  rw[memS_succ,memS_succ,ih]
  have hget:nthD (V.set b v) n 0=if n=b then v else nthD V n 0:=by
   unfold nthD
   by_cases hn:n=b
   ·subst hn;simp[hb]
   ·rw[if_neg hn,List.getElem?_set_ne (fun h=>hn h.symm)]
  rw[hget]
  by_cases hn:n=b
  ·subst hn
   by_cases h1:hasI m n=true
   ·simp[h1]<;>omega
   ·simp[h1]
  ·have e:(b<n+1∧hasI m b=true)↔(b<n∧hasI m b=true):=by
    constructor
    ·rintro⟨a,c⟩;exact⟨by omega,c⟩
    ·rintro⟨a,c⟩;exact⟨by omega,c⟩
   rw[if_neg hn]
   have e2:(if b<n+1∧hasI m b=true then v - nthD V b 0 else 0)=(if b<n∧hasI m b=true then v - nthD V b 0 else 0):=by simp only[e]
   rw[e2]
   generalize (if b<n∧hasI m b=true then v - nthD V b 0 else 0)=X
   by_cases h5:hasI m n=true
   ·rw[if_pos h5,if_pos h5];omega
   ·rw[if_neg h5,if_neg h5]
theorem memS_zero {m:Int} {k:Nat}:∀{n:Nat},memS (List.replicate k 0) m n=0
 |0=>rfl
 |n+1=>by
  rw[memS_succ,@memS_zero m k n]
  have:nthD (List.replicate k (0:Int)) n 0=0:=by
   unfold nthD
   rw[List.getElem?_replicate]
   split<;>rfl
  rw[this]
  simp
theorem nthD_ne {l:List Int} {i b:Nat} {v:Int} (h:¬i=b):nthD (l.set i v) b 0=nthD l b 0:=by
 unfold nthD
 rw[List.getElem?_set_ne h]
theorem vals_nth {p:Prob} {c:List Int} (hcl:∀i∈c,0≤i∧i<p.offers.length) (hb:∀i∈c,0≤bidI p i∧bidI p i<p.classes.length):∀{n:Nat},n≤c.length→∀b:Nat,(∀j,j<n→bidI p (nthD c j 0)≠b)→nthD (valsS p (c.take n)) b 0=0
 |0,_,b,_=>by
  have:valsS p (c.take 0)=List.replicate p.classes.length 0:=rfl
  rw[this]
  unfold nthD
  rw[List.getElem?_replicate]
  split<;>rfl
 |n+1,hn,b,h=>by
  rw[vals_succ (by omega)]
  have ih:=@vals_nth p c hcl hb n (by omega) b fun j hj=>h j (by omega)
  unfold setV
  have h1:=h n (by omega)
  have h2:=hb _ (nthD_mem (d:=0) (show n<c.length by omega))
  have hne:¬(bidI p (nthD c n 0)).toNat=b:=by omega
  have hq:(nthD p.offers (nthD c n 0).toNat SId.off.dflt).bidder=bidI p (nthD c n 0):=rfl
  rw[hq,nthD_ne hne]
  exact ih
theorem mem_win {p:Prob} {c:List Int} {m:Int} (hcl:∀i∈c,0≤i∧i<p.offers.length) (hb:∀i∈c,0≤bidI p i∧bidI p i<p.classes.length) (hnd:∀i j,i<j→j<c.length→bidI p (nthD c i 0)≠bidI p (nthD c j 0)):∀{n:Nat},n≤c.length→memS (valsS p (c.take n)) m p.classes.length=winQ p c m n
 |0,_=>memS_zero
 |n+1,hn=>by
  have ih:=@mem_win p c m hcl hb hnd n (by omega)
  have h2:=hb _ (nthD_mem (d:=0) (show n<c.length by omega))
  have hz:=vals_nth (n:=n) hcl hb (by omega) (bidI p (nthD c n 0)).toNat fun j hj=>by
   have:=hnd j n hj (by omega)
   omega
  rw[vals_succ (by omega),winQ_succ]
  unfold setV
  have hq:(nthD p.offers (nthD c n 0).toNat SId.off.dflt).bidder=bidI p (nthD c n 0):=rfl
  have hv:(nthD p.offers (nthD c n 0).toNat SId.off.dflt).value=valI p (nthD c n 0):=rfl
  have hlen:=@vals_lenN p (c.take n)
  rw[hq,hv,memS_set (by omega),ih,hz,show(((bidI p (nthD c n 0)).toNat:Nat):Int)=bidI p (nthD c n 0) by omega]
  by_cases h:hasI m (bidI p (nthD c n 0))=true
  ·rw[if_pos ⟨by omega,h⟩,if_pos h];omega
  ·rw[if_neg (fun h3=>h h3.2),if_neg h];omega
theorem feas_bid {p:Prob} {c:List Int} (hf:feasE p c=0):Good p∧(∀i∈c,0≤i∧i<p.offers.length)∧(∀i∈c,0≤bidI p i∧bidI p i<p.classes.length)∧(∀i j,i<j→j<c.length→bidI p (nthD c i 0)≠bidI p (nthD c j 0))∧c.length≤p.offers.length:=by
 obtain⟨q1,q2,hg,hcl,hix⟩:=feas_ok hf
 have hnd:=feas_nd hf
 have hI:=(feas_iff q1).1 hf
 refine⟨hg,hix,fun i hi=>?_,fun i j hij hj=>?_,?_⟩
 ·have h1:=hix i hi
  have hx:=hg.2.2.2.2 _ (nthD_mem (d:=SId.off.dflt) (show i.toNat<p.offers.length by omega))
  exact⟨hx.1,hx.2.1⟩
 ·have hlen:((offsI p c).map Off.bidder).length=c.length:=by unfold offsI;simp
  have h2:=List.pairwise_iff_getElem.1 hnd i j (by omega) (by omega) hij
  intro h3
  apply h2
  unfold offsI
  simp only[List.getElem_map]
  have e1:=nthD_eq (d:=(0:Int)) (show i<c.length by omega)
  have e2:=nthD_eq (d:=(0:Int)) hj
  rw[e1,e2] at h3
  exact h3
 ·have h1:=hI.1.1
  have:∀(l:List Int) (k:Int),l.Pairwise (·<·)→(∀x∈l,k≤x∧x<p.offers.length)→k≤p.offers.length→(l.length:Int)≤p.offers.length - k:=by
   intro l
   induction l with
   |nil=>intro k _ _ _;simp;omega
   |cons x l ih=>
    intro k hp hx _
    obtain⟨p1,p2⟩:=List.pairwise_cons.1 hp
    have h5:=hx x (by simp)
    have:=ih (x+1) p2 (fun y hy=>by have:=p1 y hy;have:=hx y (by simp[hy]);omega) (by omega)
    simp only[List.length_cons]
    omega
  have:=this c 0 h1 (fun x hx=>hix x hx) (by omega)
  omega
theorem has_add {x:Int} {n:Nat} (x0:0≤x) (x1:x<2^n) (j:Nat):hasI (x+2^n) j=(if j=n then true else hasI x j)∨n<j:=by
 by_cases hj:n<j
 ·exact .inr hj
 left
 have hpn:((2^n:Nat):Int)=2^n:=by push_cast;rfl
 obtain⟨k,rfl⟩:=Int.eq_ofNat_of_zero_le x0
 have h1:((k:Nat):Int)+2^n=((2^n+k:Nat):Int):=by omega
 have h2:k<2^n:=by omega
 rw[h1,has_bit]
 by_cases hjn:j=n
 ·subst hjn
  rw[if_pos rfl,Nat.testBit_two_pow_add_eq,Nat.testBit_lt_two_pow h2]
  rfl
 ·rw[if_neg hjn,Nat.testBit_two_pow_add_gt (by omega)]
  exact has_bit.symm
theorem has_lt {x:Int} {n j:Nat} (x0:0≤x) (x1:x<2^n) (h:n≤j):hasI x j=false:=by
 have hpn:((2^n:Nat):Int)=2^n:=by push_cast;rfl
 obtain⟨k,rfl⟩:=Int.eq_ofNat_of_zero_le x0
 rw[has_bit]
 exact Nat.testBit_lt_two_pow (Nat.lt_of_lt_of_le (show k<2^n by omega) (Nat.pow_le_pow_right (by omega) h))
theorem pay_bits {V:List Int} {m:Int}:∀{n:Nat} (j:Nat),hasI (payU V m n) j=(decide (j<n)&&(decide (0<nthD V j 0)&&!hasI m j))
 |0,j=>by
  have:payU V m 0=0:=rfl
  rw[this,has_lt (n:=0) (by omega) (by simp) (by omega)]
  simp
 |n+1,j=>by
  have ih:=@pay_bits V m n j
  have hb:=@payU_bd V m n
  rw[payU_succ]
  by_cases h:0<nthD V n 0∧hasI m n=false
  ·rw[if_pos h]
   rcases has_add (x:=payU V m n) hb.1 hb.2 j with h1|h1
   ·rw[h1]
    by_cases hj:j=n
    ·subst hj
     rw[if_pos rfl]
     simp[h.1,h.2]
    ·rw[if_neg hj,ih]
     have:decide (j<n)=decide (j<n+1):=by
      rw[Bool.eq_iff_iff,decide_eq_true_eq,decide_eq_true_eq];omega
     rw[this]
   ·have hb1:=@payU_bd V m (n+1)
    rw[payU_succ,if_pos h] at hb1
    rw[has_lt hb1.1 hb1.2 (by omega)]
    have:decide (j<n+1)=false:=decide_eq_false (by omega)
    rw[this]
    rfl
  ·rw[if_neg h,ih]
   by_cases hj:j=n
   ·subst hj
    have h1:decide (j<j)=false:=decide_eq_false (by omega)
    have h2:decide (j<j+1)=true:=decide_eq_true (by omega)
    rw[h1,h2]
    by_cases h3:0<nthD V j 0
    ·have h4:hasI m j=true:=by
      cases h5:hasI m j with
      |true=>rfl
      |false=>exact absurd ⟨h3,h5⟩ h
     simp[h4]
    ·simp[h3]
   ·have:decide (j<n)=decide (j<n+1):=by
     rw[Bool.eq_iff_iff,decide_eq_true_eq,decide_eq_true_eq];omega
    rw[this]
theorem paid_le {l:List Fra} {P m:Int} (hnn:∀j:Nat,j<l.length→0≤valF (nthD l j sF.dflt)) (hP:∀j:Nat,hasI P j=true→hasI m j=false):∀{n:Nat},n≤l.length→paidQ l P n≤unpQ l m n
 |0,_=>Rat.le_refl
 |n+1,hn=>by
  have ih:=@paid_le l P m hnn hP n (by omega)
  have h0:=hnn n (by omega)
  rw[paidQ_succ,unpQ_succ]
  by_cases h:hasI P n=true
  ·rw[if_pos h,if_pos (hP n h)]
   grind
  ·rw[if_neg h]
   split
   ·grind
   ·exact ih
theorem coal_law {p:Prob} {c:List Int} {l:List Fra} {m:Int} (h:coreE p c l=0) (m0:0≤m) (m1:m<2^p.classes.length):((wortW p m:Int):Rat)≤unpQ l m l.length+((winQ p c m c.length:Int):Rat):=by
 have hb:blkE p c l=0:=by
  by_cases hb:blkE p c l=0
  ·exact hb
  ·unfold coreE at h
   rw[if_pos hb] at h
   exact h
 obtain⟨hr,hg⟩:=(core_iff hb).1 h
 obtain⟨hz,hl⟩:=blkE_zero hb
 obtain⟨hf,hc⟩:=faultC_zero hz
 obtain⟨hV,h8,hv⟩:=vals_good hf
 obtain⟨hT,ht⟩:=tabS_ok (good_of hc)
 obtain⟨hgd,hix,hbd,hnd,hcl⟩:=feas_bid hf
 have hmT:m.toNat<(tabS p).length:=by omega
 have h1:=(@blk_top (valsS p c) (tabS p) l (tabS p).length).2 m.toNat hmT
 have h2:gainQ (valsS p c) l (m.toNat:Nat) (nthD (tabS p) m.toNat 0)≤(blkS p c l).g:=h1
 rw[show((m.toNat:Nat):Int)=m by omega] at h2
 unfold gainQ lU at h2
 rw[least_mem] at h2
 have h3:=mem_win (m:=m) hix hbd hnd (Nat.le_refl c.length)
 rw[List.take_length] at h3
 rw[hV,h3,←wort_eq hc m0 m1] at h2
 have h4:=paid_le (l:=l) (P:=pU (valsS p c) m) (m:=m) (rat_nn hr) (fun j hj=>by
  unfold pU at hj
  rw[pay_bits] at hj
  simp only[Bool.and_eq_true,Bool.not_eq_true'] at hj
  exact hj.2.2) (Nat.le_refl _)
 have h5:((wortW p m - winQ p c m c.length:Int):Rat)=((wortW p m:Int):Rat) - ((winQ p c m c.length:Int):Rat):=Rat.intCast_sub _ _
 rw[h5] at h2
 grind
def Λ13 (a:Prob×Alloc×List Fra×Int):Nat→LoopAnn
 |5=> .inv (Int×Fra) (fun x=>⟨[(3,.si .i64 a.2.2.2),(4,.ptr 0 0 20),(5,.ptr 1 0 2),(9,.ptr 2 0 3),(50,.row sF a.2.2.1),(51,.si .i64 a.2.2.1.length),(52,.si .i64 x.1)],[.cells a.1.ss 27 20 false,.cells [.row (.i .i64) a.2.1.chosen,.si .i64 a.2.1.value] 31 2 false,fCells x.2]⟩)
   (fun s=>(iS s 52,cS sF s 2 0)) (fun x=>(0≤x.1∧x.1≤a.2.2.1.length)∧x.2=frE (unpQ a.2.2.1 a.2.2.2 x.1.toNat)) (fun x=>(a.2.2.1.length - x.1).toNat) fun _ _=> .look
 |11=> .inv (Int×Fra) (fun x=>⟨[(3,.si .i64 a.2.2.2),(4,.ptr 0 0 20),(9,.ptr 2 0 3),(67,.row (.i .i64) a.2.1.chosen),(68,.si .i64 a.2.1.chosen.length),(69,.si .i64 x.1)],[.cells a.1.ss 27 20 false,.cells [.row (.i .i64) a.2.1.chosen,.si .i64 a.2.1.value] 31 2 false,fCells x.2]⟩)
   (fun s=>(iS s 69,cS sF s 2 0)) (fun x=>(0≤x.1∧x.1≤a.2.1.chosen.length)∧x.2=frE (unpQ a.2.2.1 a.2.2.2 a.2.2.1.length+((winQ a.1 a.2.1.chosen a.2.2.2 x.1.toNat:Int):Rat))) (fun x=>(a.2.1.chosen.length - x.1).toNat) fun _ _=> .look
 |_=> .look
def r13:SCtr:=⟨13,Prob×Alloc×List Fra×Int,.cons codP (.cons codA (.cons (codR sF) (.one (codI .i64)))),fun a=>a.2.1.chosen.length≤9223372036854775807∧rowD a.2.2.1∧a.2.2.1.length≤9223372036854775807,fun _=> .sb true⟩
theorem h13:Holds Try.prog r13:=by
 refine con (L:=[r38,r43,r47,r39,r51,r52,r54,r53]) r13 F13 Λ13 (OwnOK.none _) (by simpa using⟨h38,h43,h47,h39,h51,h52,h54,h53⟩) (by kernel_rfl) (by kernel_rfl) (fun _=>rfl) ?_
 rintro⟨p,⟨c,v⟩,l,m⟩ ⟨h,hd,hl⟩
 refine vcOf (let z0:=(↑p.offers.length:Int);let z1:=decide ((8:Int)<z0);let z2:=!(decide (p.offers.length≤12)&&decide (p.classes.length≤6));let z3:=decide (m<(0:Int));let z4:=(↑p.classes.length:Int);let z5:=(1:Int)*(2:Int)^z4.toNat;let z6:=decide (coreE p c l≠(0:Int));let z7:=SV.ptr 0 0 20;let z8:=SV.ptr 1 0 2;let z9:=SV.ptr 2 0 3;let z10:=(↑l.length:Int);let z11:=SV.si .i64 z10;let z12:=SObj.cells (Prob.ss p) 27 20 false;let z13:=SV.row (SId.i .i64) c;let z14:=SObj.cells [z13,SV.si .i64 v] 31 2 false;let z15:=frE (IntCast.intCast (0:Int));let z16:=SId.i .u32;let z17:=SObj.cells [SV.sb z15.fst,SV.row z16 z15.snd.fst,SV.row z16 z15.snd.snd] 66 3 false;let z18:=(↑c.length:Int);let z19:=SV.si .i64 z18;let z20:=unpQ l m l.length;let z21:=frE (IntCast.intCast (wortW p m));let z22:=(z21.fst,z21.snd.fst,z21.snd.snd);(z1=true→True∧(SV.sb true).same (SV.sb true))∧(z1=false→True∧(z2=true→True∧(SV.sb true).same (SV.sb true))∧(z2=false→(rowD l∧l.length≤9223372036854775807)∧((!smallB l)=true→True∧(SV.sb true).same (SV.sb true))∧((!smallB l)=false→(z3=true→True∧(SV.sb true).same (SV.sb true))∧(z3=false→(0:Int)≤z4∧z4≤(64:Int)∧inR .i64 z5∧(decide (z5≤m)=true→True∧(SV.sb true).same (SV.sb true))∧(decide (z5≤m)=false→(c.length≤9223372036854775807∧payOk l)∧(z6=true→True∧(SV.sb true).same (SV.sb true))∧(z6=false→((-9223372036854775808:Int)≤(0:Int)∧(0:Int)≤(9223372036854775807:Int))∧((((SV.si .i64 m).same (SV.si .i64 m)∧z7.same z7∧z8.same z8∧z9.same z9∧(SV.row sF l).same (SV.row sF l)∧(SV.si .i64 (↑l.length:Int)).same z11∧(SV.il .i64 0).same (SV.si .i64 0)∧True)∧z12.same z12∧z14.same z14∧z17.same z17∧True)∧((0:Int)≤(0:Int)∧(0:Int)≤z10)∧(z15.fst,z15.snd.fst,z15.snd.snd)=frE (unpQ l m 0))∧∀(x:Int×Fra),let z23:=x.fst.toNat;let z24:=decide (x.fst<z10);let z25:=decide (binK.andI .i64 (m / (2:Int)^z23) (1:Int)=(0:Int));let z26:=(x.snd.fst,x.snd.snd.fst,x.snd.snd.snd);let z27:=(nthD l z23 sF.dflt).snd;let z28:=((nthD l z23 sF.dflt).fst,z27.fst,z27.snd);let z29:=x.fst+(1:Int);let z30:=SV.si .i64 z29;let z31:=frE (valF z26+valF z28);let z32:=SObj.cells [SV.sb z31.fst,SV.row z16 z31.snd.fst,SV.row z16 z31.snd.snd] 66 3 false;let z33:=frE (unpQ l m z29.toNat);let z34:=SObj.cells [SV.sb x.snd.fst,SV.row z16 x.snd.snd.fst,SV.row z16 x.snd.snd.snd] 66 3 false;((0:Int)≤x.fst∧x.fst≤z10)∧x.snd=frE (unpQ l m z23)→(z24=true→(0:Int)≤x.fst∧x.fst<(↑l.length:Int)∧z23<l.length∧(0:Int)≤x.fst∧x.fst≤(64:Int)∧(z25=true→(isG z26∧isG z28)∧inR .i64 z29∧(((SV.si .i64 m).same (SV.si .i64 m)∧z7.same z7∧z8.same z8∧z9.same z9∧(SV.row sF l).same (SV.row sF l)∧z11.same z11∧z30.same z30∧True)∧z12.same z12∧z14.same z14∧z32.same z32∧True)∧(((0:Int)≤z29∧z29≤z10)∧(z31.fst,z31.snd.fst,z31.snd.snd)=z33)∧(z10 - z29).toNat<(z10 - x.fst).toNat)∧(z25=false→inR .i64 z29∧(((SV.si .i64 m).same (SV.si .i64 m)∧z7.same z7∧z8.same z8∧z9.same z9∧(SV.row sF l).same (SV.row sF l)∧z11.same z11∧z30.same z30∧True)∧z12.same z12∧z14.same z14∧z34.same z34∧True)∧(((0:Int)≤z29∧z29≤z10)∧z26=z33)∧(z10 - z29).toNat<(z10 - x.fst).toNat))∧(z24=false→((((SV.si .i64 m).same (SV.si .i64 m)∧z7.same z7∧z9.same z9∧z13.same z13∧(SV.si .i64 (↑c.length:Int)).same z19∧(SV.il .i64 0).same (SV.si .i64 0)∧True)∧z12.same z12∧z14.same z14∧z34.same z34∧True)∧((0:Int)≤(0:Int)∧(0:Int)≤z18)∧z26=frE (z20+IntCast.intCast (winQ p c m 0)))∧∀(x:Int×Fra),let z35:=decide (x.fst<z18);let z36:=nthD c x.fst.toNat (0:Int);let z37:=nthD p.offers z36.toNat SId.off.dflt;let z38:=decide (binK.andI .i64 (m / (2:Int)^z37.bidder.toNat) (1:Int)=(1:Int));let z39:=(x.snd.fst,x.snd.snd.fst,x.snd.snd.snd);let z40:=frE (IntCast.intCast z37.value);let z41:=(z40.fst,z40.snd.fst,z40.snd.snd);let z42:=x.fst+(1:Int);let z43:=SV.si .i64 z42;let z44:=frE (valF z39+valF z41);let z45:=SObj.cells [SV.sb z44.fst,SV.row z16 z44.snd.fst,SV.row z16 z44.snd.snd] 66 3 false;let z46:=frE (z20+IntCast.intCast (winQ p c m z42.toNat));let z47:=SObj.cells [SV.sb x.snd.fst,SV.row z16 x.snd.snd.fst,SV.row z16 x.snd.snd.snd] 66 3 false;let z48:=decide ((0:Int)≤cmpQ (valF z39) (valF z22));((0:Int)≤x.fst∧x.fst≤z18)∧x.snd=frE (z20+IntCast.intCast (winQ p c m x.fst.toNat))→(z35=true→(0:Int)≤x.fst∧x.fst<(↑c.length:Int)∧x.fst.toNat<c.length∧(0:Int)≤z36∧z36<z0∧z36.toNat<p.offers.length∧(0:Int)≤z37.bidder∧z37.bidder≤(64:Int)∧(z38=true→((-9223372036854775808:Int)≤z37.value∧z37.value≤(9223372036854775807:Int))∧(isG z39∧isG z41)∧inR .i64 z42∧(((SV.si .i64 m).same (SV.si .i64 m)∧z7.same z7∧z9.same z9∧z13.same z13∧z19.same z19∧z43.same z43∧True)∧z12.same z12∧z14.same z14∧z45.same z45∧True)∧(((0:Int)≤z42∧z42≤z18)∧(z44.fst,z44.snd.fst,z44.snd.snd)=z46)∧(z18 - z42).toNat<(z18 - x.fst).toNat)∧(z38=false→inR .i64 z42∧(((SV.si .i64 m).same (SV.si .i64 m)∧z7.same z7∧z9.same z9∧z13.same z13∧z19.same z19∧z43.same z43∧True)∧z12.same z12∧z14.same z14∧z47.same z47∧True)∧(((0:Int)≤z42∧z42≤z18)∧z39=z46)∧(z18 - z42).toNat<(z18 - x.fst).toNat))∧(z35=false→((checkE p=(0:Int)∧p.offers.length≤8)∧(0:Int)≤m∧m<(256:Int))∧((-9223372036854775808:Int)≤wortW p m∧wortW p m≤(9223372036854775807:Int))∧(isG z39∧isG z22)∧(z48=true→True∧(SV.sb true).same (SV.sb true))∧(z48=false→(SV.bl false).same (SV.sb true))))))))))) (by kernel_rfl) ?_
 simp only[vcs]
 have h:c.length≤9223372036854775807:=h
 have hd:rowD l:=hd
 have hl:l.length≤9223372036854775807:=hl
 have e2:∀q:Rat,valF ((frE q).1,(frE q).2.1,(frE q).2.2)=q:=valF_frE
 have e3:∀q:Rat,((frE q).1,(frE q).2.1,(frE q).2.2)=frE q:=fun _=>rfl
 refine⟨fun _=>trivial,fun ho=>⟨fun _=>trivial,fun hf=>⟨⟨hd,hl⟩,fun _=>trivial,fun hs=>⟨fun _=>trivial,fun m0=>?_⟩⟩⟩⟩
 have hp:=small_pay hd hs
 have hll:=hp.1
 have h6:=pow8 (n:=p.classes.length) (by omega)
 have e0:(1:Int)*2^((p.classes.length:Int)).toNat=2^p.classes.length:=by rw[Int.one_mul,Int.toNat_natCast]
 rw[e0]
 refine⟨by omega,by omega,by omega,fun _=>trivial,fun m1=>⟨⟨h,hp⟩,fun _=>trivial,fun hco=>?_⟩⟩
 have hco:coreE p c l=0:=by simpa using hco
 have hb:blkE p c l=0:=by
  by_cases hb:blkE p c l=0
  ·exact hb
  ·have h2:=hco
   unfold coreE at h2
   rw[if_pos hb] at h2
   exact h2
 obtain⟨hf2,hck⟩:=faultC_zero (blkE_zero hb).1
 obtain⟨hgd,hix,hbd,hnd,hcl⟩:=feas_bid hf2
 have m0':0≤m:=by omega
 refine⟨by omega,⟨⟨by omega,by omega⟩,rfl⟩,?_⟩
 rintro⟨i,s⟩ ⟨⟨i0,i1⟩,hs2⟩
 simp only at i0 i1 hs2 ⊢
 subst hs2
 have e:(i+1).toNat=i.toNat+1:=by omega
 have ei:((i.toNat:Nat):Int)=i:=by omega
 have hsu:=@unpQ_succ l m i.toNat
 rw[ei] at hsu
 have hz:=@unpQ_sz l m hp i.toNat (by omega)
 obtain⟨n0,n1⟩:=half_nn (i:=i.toNat) m0'
 have ha:binK.andI .i64 (m / 2^i.toNat) 1=m / 2^i.toNat % 2:=and_one n0 (by omega)
 have hI:hasI m i=decide (m / 2^i.toNat % 2=1):=rfl
 simp only[e2,e3]
 refine⟨fun hi=>?_,fun hi=>⟨⟨⟨by omega,by omega⟩,?_⟩,?_⟩⟩
 ·rw[ha,e,hsu,hI]
  obtain⟨q,hq,hsz⟩:=payOk_get hp (show i.toNat<l.length by omega)
  have e4:((nthD l i.toNat sF.dflt).1,(nthD l i.toNat sF.dflt).2.1,(nthD l i.toNat sF.dflt).2.2)=nthD l i.toNat sF.dflt:=rfl
  rw[e4]
  refine⟨by omega,by omega,by omega,by omega,by omega,fun h1=>?_,fun h1=>?_⟩
  ·rw[if_pos (decide_eq_false (by omega))]
   refine⟨⟨⟨_,_,rfl,hz,by omega⟩,⟨q,3,hq,hsz,by omega⟩⟩,by omega,⟨⟨by omega,by omega⟩,rfl⟩,by omega⟩
  ·rw[if_neg (fun h3=>by have:=of_decide_eq_false h3;omega)]
   refine⟨by omega,⟨⟨by omega,by omega⟩,rfl⟩,by omega⟩
 ·rw[show i.toNat=l.length by omega]
  have:unpQ l m l.length+((winQ p c m 0:Int):Rat)=unpQ l m l.length:=by
   show unpQ l m l.length+((0:Int):Rat)=_
   exact Rat.add_zero _
  exact congrArg frE this.symm
 rw[show i.toNat=l.length by omega] at hz
 rintro⟨k,s⟩ ⟨⟨k0,k1⟩,hs2⟩
 simp only at k0 k1 hs2 ⊢
 subst hs2
 have f:(k+1).toNat=k.toNat+1:=by omega
 have fk:((k.toNat:Nat):Int)=k:=by omega
 have hsw:=@winQ_succ p c m k.toNat
 have hbw:=@winQ_bd p hgd c m hix k.toNat (by omega)
 have hzs:=sz_add hz (szI (W:=winQ p c m k.toNat) (by omega) (by omega))
 simp only[e2,e3]
 refine⟨fun hk=>?_,fun hk=>?_⟩
 ·have hm:=nthD_mem (d:=(0:Int)) (show k.toNat<c.length by omega)
  have hi:=hix _ hm
  have hx:=hgd.2.2.2.2 _ (nthD_mem (d:=SId.off.dflt) (show(nthD c k.toNat 0).toNat<p.offers.length by omega))
  have hbi:(nthD p.offers (nthD c k.toNat 0).toNat SId.off.dflt).bidder=bidI p (nthD c k.toNat 0):=rfl
  have hvi:(nthD p.offers (nthD c k.toNat 0).toNat SId.off.dflt).value=valI p (nthD c k.toNat 0):=rfl
  have hg1:=hgd.1
  rw[hbi,hvi] at hx ⊢
  obtain⟨j0,j1⟩:=half_nn (i:=(bidI p (nthD c k.toNat 0)).toNat) m0'
  have hb2:binK.andI .i64 (m / 2^(bidI p (nthD c k.toNat 0)).toNat) 1=m / 2^(bidI p (nthD c k.toNat 0)).toNat % 2:=and_one j0 (by omega)
  have hJ:hasI m (bidI p (nthD c k.toNat 0))=decide (m / 2^(bidI p (nthD c k.toNat 0)).toNat % 2=1):=rfl
  rw[hb2,f,hsw,hJ]
  refine⟨by omega,by omega,by omega,by omega,by omega,by omega,by omega,by omega,fun h1=>?_,fun h1=>?_⟩
  ·rw[if_pos (decide_eq_true h1)]
   refine⟨by omega,⟨⟨_,_,rfl,hzs,by omega⟩,⟨_,2,rfl,szI (by omega) (by omega),by omega⟩⟩,by omega,⟨⟨by omega,by omega⟩,?_⟩,by omega⟩
   have h3:((winQ p c m k.toNat+valI p (nthD c k.toNat 0):Int):Rat)=((winQ p c m k.toNat:Int):Rat)+((valI p (nthD c k.toNat 0):Int):Rat):=Rat.intCast_add _ _
   refine congrArg frE ?_
   show unpQ l m l.length+((winQ p c m k.toNat:Int):Rat)+((valI p (nthD c k.toNat 0):Int):Rat)=unpQ l m l.length+((winQ p c m k.toNat+valI p (nthD c k.toNat 0):Int):Rat)
   rw[h3,Rat.add_assoc]
  ·rw[if_neg (fun h3=>h1 (of_decide_eq_true h3))]
   refine⟨by omega,⟨⟨by omega,by omega⟩,rfl⟩,by omega⟩
 ·have hw:=wort_eq hck m0' (by omega)
  have hb9:=(tabS_ok hgd).2 m.toNat
  have hlaw:=coal_law hco m0' (by omega)
  rw[show k.toNat=c.length by omega] at hzs ⊢
  refine⟨⟨⟨hck,by omega⟩,m0',by omega⟩,⟨by omega,by omega⟩,⟨⟨_,_,rfl,hzs,by omega⟩,⟨_,2,rfl,szI (by omega) (by omega),by omega⟩⟩,fun h9=>?_,fun h9=>?_⟩
  ·trivial
  ·have h10:cmpQ (unpQ l m l.length+IntCast.intCast (winQ p c m c.length)) (IntCast.intCast (wortW p m))<0:=by omega
   have h11:unpQ l m l.length+((winQ p c m c.length:Int):Rat)<((wortW p m:Int):Rat):=cmpQ_neg.1 h10
   exact absurd h11 (Rat.not_lt.2 hlaw)
end Go.Vi
