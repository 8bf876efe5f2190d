/-
  Contracts: a copy of a row of offers; a new finder.
  Conditions: none.
-/
import Derived.Shelf.SlicesE.Clone
import Derived.Test.YtddpfdamlefbgaaSZ09
import Derived.WalkKit
import Derived.Maps.Ext
import Derived.Test.YtddpfdamlefbgaaSZ06
import Derived.Test.YtddpfdamlefbgaaSZ07
import Derived.Test.YtddpfdamlefbgaaSZ08
import Derived.Shelf.SlSortCmp.NoneTotal
import Derived.WalkSpells
import Derived.Laws.Pointers
import Derived.Maps.OwnOps
import Derived.Maps.RangeWalk
import Derived.Maps.OwnSet
set_option maxRecDepth 100000
set_option maxHeartbeats 4000000
set_option linter.all false
namespace Go.Vi
open Go.Proofs.Ytddpfdamlefbgaa.Ir
open Go.Proofs Go.RowKit
theorem off_info:(Try.prog.info? (Try.layO_ren.t 23)).map (fun i=>(i.zero,i.size,i.bytes))=some (some (.agg #[.int .i64 0,.int .i64 0,.int .i64 0,.int .i64 0,.int .i64 0,.int .i64 0,.int .i64 0,.int .i64 0]),8,64):=by kernel_rfl
theorem off_size (w:World):(Go.sizeOf (Try.layO_ren.t 23)).run Try.prog w= .ok 8 w:=by kernel_rfl
theorem flatO (l:List Off):flatA .off l=(l.flatMap (encV .off)).map AV.sc:=by
 unfold flatA
 induction l with
 |nil=>rfl
 |cons x l ih=>rw[List.flatMap_cons,ih,List.flatMap_cons,List.map_append];rfl
theorem flatV_len (l:List Off):(l.flatMap (encV .off)).length=l.length*8:=by
 induction l with
 |nil=>rfl
 |cons x l ih=>rw[List.flatMap_cons,List.length_append,ih,encV_len];simp[SId.sz];omega
def r519:SCtr:=⟨22,List Off,.one (codR .off),fun l=>l.length≤1000000,fun l=> .row .off l⟩
theorem h519:Holds Try.prog r519:=by
 intro(l:List Off) (hl:l.length≤1000000)
 refine⟨by kernel_rfl,?_⟩
 intro A w σ vs hS hR
 have hσ:σ=[]:=by have:=hS.len;simpa using this
 subst hσ
 have e1:gL (r519.A.put l)=[.sl l.length (flatA .off l)]:=rfl
 have e2:(r519.res l).G= .sl l.length (flatA .off l):=rfl
 rw[e1] at hR
 rw[e2]
 simp only[RepL] at hR
 obtain⟨v,r,rfl,hv,rfl⟩:=hR
 simp only[Rep] at hv
 obtain⟨a,cap,rfl,hcap,hpu,hM⟩:=hv
 cases a with
 |none=>
  have hnil:l=[]:=by
   cases l with
   |nil=>rfl
   |cons x l=>
    have h0:=(flatO (x::l))▸hM
    simp only[List.flatMap_cons,encV,List.cons_append,List.map_cons,RepM] at h0
    obtain⟨⟨b,_,e,_⟩,_⟩:=h0
    cases e
  subst hnil
  refine Calls.mono (AnyE.slices_Clone_nil Try.layO 0 cap w) ?_
  rintro e w' ⟨rfl,rfl⟩
  exact⟨_,[],rfl,hS,by simp only[Rep];exact⟨none,0,rfl,by simp,by simp[flatA,pureL],by simp[flatA,RepM]⟩,Ext.refl _ _ _⟩
 |some p=>
  have hc:∀j u,(l.flatMap (encV .off))[j]?=some u→w.cell? (p.add j)=some u:=by
   intro j u hj
   obtain⟨b,v,e,_,hcell,hrep⟩:=RepM.get _ _ _ hM j (.sc u) (by rw[flatO,List.getElem?_map,hj];rfl)
   injection e with e
   subst e
   simp only[Rep] at hrep
   rw[Nat.zero_add,hrep.1] at hcell
   exact hcell
  have h1c:∀u∈l.flatMap (encV .off),u.oneCell'=true:=by
   intro u hu
   obtain⟨x,_,hx⟩:=List.mem_flatMap.1 hu
   exact encV_one .off x u hx
  obtain⟨i0,hi,hz0,hz1,hz2⟩:=info_parts off_info
  refine Calls.mono (cloneW Try.layO i0 _ 8 64 hi hz0 hz1 hz2 (by rfl) (by omega) off_size p l.length cap (l.flatMap (encV .off)) w (flatV_len l) (by have:maxLen=9223372036854775807:=rfl;omega) (by omega) hc h1c) ?_
  rintro e w' ⟨v',rfl,hown,hne,hb⟩
  have hS':SimO A w' [] []:=⟨rfl,by simp,by simp,by simp,by simp,fun b h=>Nat.lt_of_lt_of_le (hS.avb b h) hb.size⟩
  have hE:Ext w [] [] w' [] []:=⟨hb.size,fun b h _=>⟨hb.block b h,fun⟨i,c,hi⟩=>by simp at hi⟩,Nat.le_refl _,fun _ _ ⟨_,_,_,_,h,_⟩=>by simp at h,fun _ ⟨_,_,_,h⟩=>by simp at h,hb.os,hb.tape,hb.output⟩
  obtain⟨_,h|⟨g,cap',cur,rfl,h1,h2,h3,h4,h5,h6⟩⟩:=hown
  ·exact absurd h.1 hne
  refine⟨_,[],rfl,hS',?_,hE⟩
  simp only[Rep]
  refine⟨_,_,rfl,by omega,flatA_pure _ _,RepM.of_get _ _ _ fun i c hi=>?_⟩
  rw[flatO,List.getElem?_map] at hi
  obtain⟨u,hu,rfl⟩:=Option.map_eq_some_iff.1 hi
  have hil:=(List.getElem?_eq_some_iff.1 hu).1
  rw[flatV_len] at hil
  have h9:(cur.toList.take (l.length*8))[i]?=some u:=by rw[h6];exact hu
  rw[List.getElem?_take_of_lt hil,Array.getElem?_toList] at h9
  refine⟨⟨g,0,none⟩,u,rfl,⟨fun⟨i,c,hi⟩=>by simp at hi,fun hA=>by have:=hS.avb g hA;omega⟩,?_,by simp only[Rep];exact⟨trivial,h1c u (List.mem_of_getElem? hu)⟩⟩
  rw[Addr.add_lit]
  simp only[World.cell?,h2,Nat.zero_add,Option.isSome_none,Bool.false_eq_true,if_false]
  exact h9
theorem winU_succ {V:List Int} {n:Nat}:winU V (n+1)=if 0<nthD V n 0 then winU V n+2^n else winU V n:=by
 unfold winU
 rw[List.range_succ,List.foldl_append]
 rfl
theorem winU_bd {V:List Int}:∀{n:Nat},0≤winU V n∧winU V n<2^n
 |0=>by simp[winU]
 |n+1=>by
  have h:=@winU_bd V n
  have h2:(2:Int)^(n+1)=2*2^n:=by rw[Int.pow_succ];omega
  rw[winU_succ]
  split<;>omega
def finN (p:Prob) (c:List Int):FnF:=⟨p,valsS p c,winU (valsS p c) (valsS p c).length,[],[]⟩
theorem okFn_new {p:Prob} {c:List Int} (h:feasE p c=0) (h4:p.classes.length≤4):okFn (finN p c):=by
 obtain⟨h1,h2,h3⟩:=vals_good h
 exact⟨(feas_ok h).1,h4,h1,h3,rfl,fun e he=>by simp[finN] at he⟩
def newCtr (f:FuncId) (dom:Prob→Alloc→Prop) (res:Prob→Alloc→SV) (out:Prob→Alloc→SStore):OCtr where
 f:=f
 α:=Prob×Alloc
 put a:=[codP.put a.1,codA.put a.2]
 st _:=[]
 dec v o:=match v,o with
  |[v,u],[]=>match codP.dec v,codA.dec u with
   |some p,some a=>some (p,a)
   |_,_=>none
  |_,_=>none
 ok v o a h:=by
  split at h
  ·split at h
   ·rename_i h1 h2
    simp only[Option.some.injEq] at h;subst h
    exact⟨by simp only[gL,codP.ok _ _ h1,codA.ok _ _ h2],rfl⟩
   ·cases h
  ·cases h
 inj a b h _:=by
  simp only[gL,List.cons.injEq,and_true] at h
  exact Prod.ext (codP.inj _ _ h.1) (codA.inj _ _ h.2)
 dom a:=dom a.1 a.2
 res a:=res a.1 a.2
 out a:=out a.1 a.2
def newE (p:Prob) (a:Alloc):Int:=if feasE p a.chosen≠0 then feasE p a.chosen else if a.value≠valueS p a.chosen then 13 else 0
def r513:OCtr:=newCtr 8 (fun p a=>(feasE p a.chosen=0∧a.value=valueS p a.chosen)∧p.classes.length≤4∧a.chosen.length≤1000) (fun _ _=> .tup [.ptr 0 0 24,.si .i64 0]) (fun p a=>(finN p a.chosen).sto)
def r513e:OCtr:=newCtr 8 (fun p a=>newE p a≠0∧a.chosen.length≤1000) (fun p a=> .tup [.sc (.pointer none),.si .i64 (newE p a)]) (fun _ _=>[])
def Λ513 (a:Prob×Alloc):Nat→LoopAnn
 |10=> .inv (Int×Int) (fun x=>⟨[(7,.ptr 4 0 24),(49,.row (.i .i64) (valsS a.1 a.2.chosen)),(50,.si .i64 (valsS a.1 a.2.chosen).length),(51,.si .i64 x.1)],
   [.cells a.1.ss 27 20 false,.cells [.row (.i .i64) a.2.chosen,.si .i64 a.2.value] 29 2 false,.map (.i .i64) (.i .i64) false [] ([0],false) true,.map (.i .i64) .b false [] ([0],false) true,
    .cells (a.1.ss++[.row (.i .i64) (valsS a.1 a.2.chosen),.si .i64 x.2,.mp 2,.mp 3]) 75 24 false]⟩)
   (fun s=>(iS s 51,cS (.i .i64) s 4 21)) (fun x=>(0≤x.1∧x.1≤(valsS a.1 a.2.chosen).length)∧x.2=winU (valsS a.1 a.2.chosen) x.1.toNat) (fun x=>((valsS a.1 a.2.chosen).length - x.1).toNat) fun _ _=> .look
 |_=> .look
theorem h513:HoldsO Try.prog r513:=by
 refine conN (L:=[r100,r437,r101,r519,r330]) (W:=[]) r513 (fun _=>none) Λ513 (by simp) (by simpa using⟨h100,h437,h101,h519,h330⟩) ?_
 rintro⟨p,⟨c,v⟩⟩ ⟨⟨hf,hv⟩,h4,hc⟩
 refine vcOf (let z0:=decide (feasE p c≠(0:Int));let z1:=SV.sc (Value.pointer none);let z2:=SV.ptr 0 0 24;let z3:=SV.si .i64 0;let z4:=SV.tup [z2,z3];let z5:=decide (v≠valueS p c);let z6:=SV.ptr 4 0 24;let z7:=SId.i .i64;let z8:=if feasE p c=(0:Int) then valsS p c else[];let z9:=SV.row z7 (valsS p c);let z10:=(↑(valsS p c).length:Int);let z11:=SV.si .i64 z10;let z12:=SV.il .i64 0;let z13:=SV.si .i64 p.supply.a0;let z14:=SV.si .i64 p.supply.a1;let z15:=SV.si .i64 p.supply.a2;let z16:=SV.si .i64 p.supply.a3;let z17:=SV.si .i64 p.supply.a4;let z18:=SV.si .i64 p.supply.a5;let z19:=SV.si .i64 p.opn.a0;let z20:=SV.si .i64 p.opn.a1;let z21:=SV.si .i64 p.opn.a2;let z22:=SV.si .i64 p.opn.a3;let z23:=SV.si .i64 p.opn.a4;let z24:=SV.si .i64 p.opn.a5;let z25:=SV.si .i64 p.cls.a0;let z26:=SV.si .i64 p.cls.a1;let z27:=SV.si .i64 p.cls.a2;let z28:=SV.si .i64 p.cls.a3;let z29:=SV.si .i64 p.cls.a4;let z30:=SV.si .i64 p.cls.a5;let z31:=SV.row z7 p.classes;let z32:=SV.row SId.off p.offers;let z33:=SObj.cells [z13,z14,z15,z16,z17,z18,z19,z20,z21,z22,z23,z24,z25,z26,z27,z28,z29,z30,z31,z32] 27 20 false;let z34:=SObj.cells [SV.row z7 c,SV.si .i64 v] 29 2 false;let z35:=([0],false);let z36:=SObj.map z7 z7 false [] z35 true;let z37:=SObj.map z7 SId.b false [] z35 true;let z38:=[SV.mp 2,SV.mp 3];let z39:=[SV.mp 1,SV.mp 2];let z40:=(finN p c).p;let z41:=z40.supply;let z42:=z40.opn;let z43:=z40.cls;c.length≤9223372036854775807∧(z0=true→(SV.tup [z1,SV.si .i64 (feasE p c)]).same z4∧False)∧(z0=false→(checkE p=(0:Int)∧c.length≤9223372036854775807)∧(z5=true→(SV.tup [z1,SV.il .i64 13]).same z4∧False)∧(z5=false→c.length≤9223372036854775807∧p.offers.length≤1000000∧p.classes.length≤1000000∧(((z6.same z6∧(SV.row z7 z8).same z9∧(SV.si .i64 (↑z8.length:Int)).same z11∧z12.same z3∧True)∧z33.same z33∧z34.same z34∧z36.same z36∧z36.same z37∧(SObj.cells (z13::z14::z15::z16::z17::z18::z19::z20::z21::z22::z23::z24::z25::z26::z27::z28::z29::z30::z31::z32::SV.row z7 z8::z12::z38) 75 24 false).same (SObj.cells (z13::z14::z15::z16::z17::z18::z19::z20::z21::z22::z23::z24::z25::z26::z27::z28::z29::z30::z31::z32::z9::z3::z38) 75 24 false)∧True)∧((0:Int)≤(0:Int)∧(0:Int)≤z10)∧(0:Int)=winU (valsS p c) 0)∧∀(x:Int×Int),let z44:=x.fst.toNat;let z45:=decide (x.fst<z10);let z46:=decide ((0:Int)<nthD (valsS p c) z44 (0:Int));let z47:=(1:Int)*(2:Int)^z44;let z48:=x.fst+(1:Int);let z49:=SV.si .i64 z48;let z50:=binK.orI .i64 x.snd z47;let z51:=SObj.cells (z13::z14::z15::z16::z17::z18::z19::z20::z21::z22::z23::z24::z25::z26::z27::z28::z29::z30::z31::z32::z9::SV.si .i64 z50::z38) 75 24 false;let z52:=winU (valsS p c) z48.toNat;let z53:=SV.si .i64 x.snd;let z54:=SObj.cells (z13::z14::z15::z16::z17::z18::z19::z20::z21::z22::z23::z24::z25::z26::z27::z28::z29::z30::z31::z32::z9::z53::z38) 75 24 false;((0:Int)≤x.fst∧x.fst≤z10)∧x.snd=winU (valsS p c) z44→(z45=true→(0:Int)≤x.fst∧x.fst<(↑(valsS p c).length:Int)∧z44<(valsS p c).length∧(z46=true→(0:Int)≤x.fst∧x.fst≤(64:Int)∧inR .i64 z47∧inR .i64 z48∧((z6.same z6∧z9.same z9∧z11.same z11∧z49.same z49∧True)∧z33.same z33∧z34.same z34∧z36.same z36∧z37.same z37∧z51.same z51∧True)∧(((0:Int)≤z48∧z48≤z10)∧z50=z52)∧(z10 - z48).toNat<(z10 - x.fst).toNat)∧(z46=false→inR .i64 z48∧((z6.same z6∧z9.same z9∧z11.same z11∧z49.same z49∧True)∧z33.same z33∧z34.same z34∧z36.same z36∧z37.same z37∧z54.same z54∧True)∧(((0:Int)≤z48∧z48≤z10)∧x.snd=z52)∧(z10 - z48).toNat<(z10 - x.fst).toNat))∧(z45=false→(SV.tup [z2,z12]).same z4∧(SObj.cells (z13::z14::z15::z16::z17::z18::z19::z20::z21::z22::z23::z24::z25::z26::z27::z28::z29::z30::z31::z32::z9::z53::z39) 75 24 false).same (SObj.cells (SV.si .i64 z41.a0::SV.si .i64 z41.a1::SV.si .i64 z41.a2::SV.si .i64 z41.a3::SV.si .i64 z41.a4::SV.si .i64 z41.a5::SV.si .i64 z42.a0::SV.si .i64 z42.a1::SV.si .i64 z42.a2::SV.si .i64 z42.a3::SV.si .i64 z42.a4::SV.si .i64 z42.a5::SV.si .i64 z43.a0::SV.si .i64 z43.a1::SV.si .i64 z43.a2::SV.si .i64 z43.a3::SV.si .i64 z43.a4::SV.si .i64 z43.a5::SV.row z7 z40.classes::SV.row SId.off z40.offers::SV.row z7 (finN p c).vals::SV.si .i64 (finN p c).wins::z39) 75 24 false)∧z36.same (SObj.map z7 z7 false (finN p c).wor z35 true)∧z37.same (SObj.map z7 SId.b false (finN p c).seen z35 true)∧True)))) (by kernel_rfl) ?_
 simp only[vcs]
 have hf:feasE p c=0:=hf
 have hv:v=valueS p c:=hv
 have h4:p.classes.length≤4:=h4
 have hc:c.length≤1000:=hc
 have hg:=good_of (feas_ok hf).1
 have ho:=hg.2.1
 have hV:=(vals_good hf).1
 have hp:=pow_4 h4
 rw[if_pos hf]
 refine⟨by omega,fun h=>absurd hf h,fun _=>⟨⟨(feas_ok hf).1,by omega⟩,fun h=>absurd hv h,fun _=>⟨by omega,by omega,by omega,⟨⟨⟨rfl,rfl⟩,rfl,rfl⟩,⟨by omega,by omega⟩,rfl⟩,?_⟩⟩⟩
 rintro⟨i,s⟩ ⟨⟨i0,i1⟩,hs⟩
 simp only at i0 i1 hs
 subst hs
 have e:(i+1).toNat=i.toNat+1:=by omega
 have hsu:=@winU_succ (valsS p c) i.toNat
 have hbd:=@winU_bd (valsS p c) i.toNat
 have hp2:i.toNat<4→(2:Int)^i.toNat≤8∧0<(2:Int)^i.toNat:=fun h=>by
  have:i.toNat=0∨i.toNat=1∨i.toNat=2∨i.toNat=3:=by omega
  rcases this with h|h|h|h<;>rw[h]<;>decide
 simp only
 refine⟨fun hi=>⟨i0,hi,by omega,fun h1=>?_,fun h1=>?_⟩,fun hi=>?_⟩
 ·have h3:=hp2 (by omega)
  rw[e,hsu,if_pos h1,or_pow hbd.1 hbd.2 (by omega)]
  exact⟨i0,by omega,⟨by omega,by omega⟩,⟨by omega,by omega⟩,⟨⟨by omega,by omega⟩,rfl⟩,by omega⟩
 ·rw[e,hsu,if_neg h1]
  exact⟨⟨by omega,by omega⟩,⟨⟨by omega,by omega⟩,rfl⟩,by omega⟩
 ·rw[show i.toNat=(valsS p c).length by omega]
  repeat' refine And.intro ?_ ?_
  all_goals rfl
theorem h513e:HoldsO Try.prog r513e:=by
 refine conN (L:=[r100,r437,r101,r519,r330]) (W:=[]) r513e (fun _=>none) Λ513 (by simp) (by simpa using⟨h100,h437,h101,h519,h330⟩) ?_
 rintro⟨p,⟨c,v⟩⟩ ⟨hf,hc⟩
 refine vcOf (let z0:=decide (feasE p c≠(0:Int));let z1:=SV.sc (Value.pointer none);let z2:=SV.tup [z1,SV.si .i64 (newE p (Alloc.mk c v))];let z3:=decide (v≠valueS p c);let z4:=SV.ptr 4 0 24;let z5:=SId.i .i64;let z6:=if feasE p c=(0:Int) then valsS p c else[];let z7:=SV.row z5 (valsS p c);let z8:=(↑(valsS p c).length:Int);let z9:=SV.si .i64 z8;let z10:=SV.il .i64 0;let z11:=SV.si .i64 0;let z12:=SV.si .i64 p.supply.a0;let z13:=SV.si .i64 p.supply.a1;let z14:=SV.si .i64 p.supply.a2;let z15:=SV.si .i64 p.supply.a3;let z16:=SV.si .i64 p.supply.a4;let z17:=SV.si .i64 p.supply.a5;let z18:=SV.si .i64 p.opn.a0;let z19:=SV.si .i64 p.opn.a1;let z20:=SV.si .i64 p.opn.a2;let z21:=SV.si .i64 p.opn.a3;let z22:=SV.si .i64 p.opn.a4;let z23:=SV.si .i64 p.opn.a5;let z24:=SV.si .i64 p.cls.a0;let z25:=SV.si .i64 p.cls.a1;let z26:=SV.si .i64 p.cls.a2;let z27:=SV.si .i64 p.cls.a3;let z28:=SV.si .i64 p.cls.a4;let z29:=SV.si .i64 p.cls.a5;let z30:=SV.row z5 p.classes;let z31:=SV.row SId.off p.offers;let z32:=SObj.cells [z12,z13,z14,z15,z16,z17,z18,z19,z20,z21,z22,z23,z24,z25,z26,z27,z28,z29,z30,z31] 27 20 false;let z33:=SObj.cells [SV.row z5 c,SV.si .i64 v] 29 2 false;let z34:=([0],false);let z35:=SObj.map z5 z5 false [] z34 true;let z36:=SObj.map z5 SId.b false [] z34 true;let z37:=[SV.mp 2,SV.mp 3];c.length≤9223372036854775807∧(z0=true→(SV.tup [z1,SV.si .i64 (feasE p c)]).same z2∧True)∧(z0=false→(checkE p=(0:Int)∧c.length≤9223372036854775807)∧(z3=true→(SV.tup [z1,SV.il .i64 13]).same z2∧True)∧(z3=false→c.length≤9223372036854775807∧p.offers.length≤1000000∧p.classes.length≤1000000∧(((z4.same z4∧(SV.row z5 z6).same z7∧(SV.si .i64 (↑z6.length:Int)).same z9∧z10.same z11∧True)∧z32.same z32∧z33.same z33∧z35.same z35∧z35.same z36∧(SObj.cells (z12::z13::z14::z15::z16::z17::z18::z19::z20::z21::z22::z23::z24::z25::z26::z27::z28::z29::z30::z31::SV.row z5 z6::z10::z37) 75 24 false).same (SObj.cells (z12::z13::z14::z15::z16::z17::z18::z19::z20::z21::z22::z23::z24::z25::z26::z27::z28::z29::z30::z31::z7::z11::z37) 75 24 false)∧True)∧((0:Int)≤(0:Int)∧(0:Int)≤z8)∧(0:Int)=winU (valsS p c) 0)∧∀(x:Int×Int),let z38:=x.fst.toNat;let z39:=decide ((0:Int)<nthD (valsS p c) z38 (0:Int));let z40:=(1:Int)*(2:Int)^z38;let z41:=x.fst+(1:Int);let z42:=SV.si .i64 z41;let z43:=binK.orI .i64 x.snd z40;let z44:=SObj.cells (z12::z13::z14::z15::z16::z17::z18::z19::z20::z21::z22::z23::z24::z25::z26::z27::z28::z29::z30::z31::z7::SV.si .i64 z43::z37) 75 24 false;let z45:=winU (valsS p c) z41.toNat;let z46:=SObj.cells (z12::z13::z14::z15::z16::z17::z18::z19::z20::z21::z22::z23::z24::z25::z26::z27::z28::z29::z30::z31::z7::SV.si .i64 x.snd::z37) 75 24 false;((0:Int)≤x.fst∧x.fst≤z8)∧x.snd=winU (valsS p c) z38→(decide (x.fst<z8)=true→(0:Int)≤x.fst∧x.fst<(↑(valsS p c).length:Int)∧z38<(valsS p c).length∧(z39=true→(0:Int)≤x.fst∧x.fst≤(64:Int)∧inR .i64 z40∧inR .i64 z41∧((z4.same z4∧z7.same z7∧z9.same z9∧z42.same z42∧True)∧z32.same z32∧z33.same z33∧z35.same z35∧z36.same z36∧z44.same z44∧True)∧(((0:Int)≤z41∧z41≤z8)∧z43=z45)∧(z8 - z41).toNat<(z8 - x.fst).toNat)∧(z39=false→inR .i64 z41∧((z4.same z4∧z7.same z7∧z9.same z9∧z42.same z42∧True)∧z32.same z32∧z33.same z33∧z35.same z35∧z36.same z36∧z46.same z46∧True)∧(((0:Int)≤z41∧z41≤z8)∧x.snd=z45)∧(z8 - z41).toNat<(z8 - x.fst).toNat))∧(decide (x.fst<z8)=false→(SV.tup [SV.ptr 0 0 24,z10]).same z2∧False)))) (by kernel_rfl) ?_
 simp only[vcs]
 have hf:newE p ⟨c,v⟩≠0:=hf
 have hc:c.length≤1000:=hc
 unfold newE at hf ⊢
 simp only at hf ⊢
 refine⟨by omega,fun h=>by rw[if_pos h],fun h=>⟨⟨(feas_ok (Classical.not_not.1 h)).1,by omega⟩,fun h2=>by rw[if_neg h,if_pos h2],fun h2=>?_⟩⟩
 rw[if_neg h,if_neg h2] at hf
 exact absurd rfl hf
open Go.Proofs
theorem cmpQ_pos {p q:Rat}:0<cmpQ p q↔q<p:=by
 unfold cmpQ
 by_cases h1:p<q
 ·rw[if_pos h1]
  constructor
  ·intro h;omega
  ·intro h;exact absurd h1 (by grind)
 ·rw[if_neg h1]
  by_cases h2:q<p
  ·rw[if_pos h2];simp[h2]
  ·rw[if_neg h2];simp[h2]
def r414:SCtr:=⟨46,List Int,.one (codR (.i .u32)),fun a=>Dig (show List Int from a)∧(show List Int from a).length≤1000000000,fun a=> .sb (nrmB a)⟩
theorem h414:Holds Try.prog r414:=by
 refine con0 (L:=[r152]) r414 lk (by simpa using h152) ?_
 rintro(a:List Int) h
 refine vcOf (a.length≤1000000000000∧(SV.sb (decide ((↑(trimN a).length:Int)=(↑a.length:Int)))).same (SV.sb (nrmB a))) (by kernel_rfl) ?_
 simp only[vcs]
 obtain⟨hd,hl⟩:Dig a∧a.length≤1000000000:=h
 refine⟨by omega,?_⟩
 cases hb:nrmB a with
 |true=>
  rw[trim_eq hd,natL_val hd (nrmB_iff.1 hb)]
  exact decide_eq_true rfl
 |false=>
  refine decide_eq_false fun h2=>?_
  have h3:trimN a=a:=by
   unfold trimN at h2 ⊢
   rw[List.length_take] at h2
   exact List.take_of_length_le (by omega)
  have h4:=(@trim_val a).2
  rw[h3] at h4
  rw[nrmB_iff.2 h4] at hb
  cases hb
def r415:SCtr:=⟨47,Fra,.one (codE sF),fun x=>x.2.1.length≤1000000000,fun x=> .agg [.sb x.1,.sb (decide (x.2.1=[]))]⟩
theorem h415:Holds Try.prog r415:=by
 refine con0 (L:=[]) r415 lk (by simp) ?_
 rintro⟨s,n,d⟩ h
 refine vcOf ((SV.agg [SV.sb s,SV.sb (decide ((↑n.length:Int)=(0:Int)))]).same (SV.agg [SV.sb s,SV.sb (decide (n=[]))])) (by kernel_rfl) ?_
 have e:decide ((n.length:Int)=0)=decide (n=[]):=by
  rw[decide_eq_decide]
  exact⟨fun h=>List.eq_nil_of_length_eq_zero (by omega),fun h=>by rw[h];rfl⟩
 rw[e]
 rfl
def r407:SCtr:=⟨24,Fra,.one (codE sF),fun x=>(Dig x.2.1∧Dig x.2.2)∧x.2.1.length≤10000000∧x.2.2.length≤10000000,fun x=> .sb (okF x)⟩
theorem h407:Holds Try.prog r407:=by
 refine con0 (L:=[r414,r415,r165g,r128,r132]) r407 lk (by simpa using⟨h414,h415,h165g,h128,h132⟩) ?_
 rintro⟨s,n,d⟩ ⟨⟨hn,hd⟩,hl1,hl2⟩
 refine vcOf (let z0:=SV.sb (okF (s,n,d));let z1:=decide ((↑d.length:Int)=(0:Int));let z2:=s==true&&(decide (n=[])==true&&true);let z3:=natL (gcdN (valN n) (valN d));let z4:=natL (1:Int);(Dig n∧n.length≤1000000000)∧((!nrmB n)=true→(SV.bl false).same z0)∧((!nrmB n)=false→(Dig d∧d.length≤1000000000)∧((!nrmB d)=true→(SV.bl false).same z0)∧((!nrmB d)=false→(z1=true→(SV.bl false).same z0)∧(z1=false→n.length≤1000000000∧(z2=true→(SV.bl false).same z0)∧(z2=false→((Dig n∧Dig d)∧n.length≤1000000000∧d.length≤1000000000)∧((0:Int)≤(1:Int)∧(1:Int)<(18446744073709551616:Int))∧((Dig z3∧Dig z4)∧z3.length≤1000000000000∧z4.length≤1000000000000)∧(SV.sb (decide (cmpN (valN z3) (valN z4)=(0:Int)))).same z0))))) (by kernel_rfl) ?_
 simp only[vcs]
 have hn:Dig n:=hn
 have hd:Dig d:=hd
 have hl1:n.length≤10000000:=hl1
 have hl2:d.length≤10000000:=hl2
 have nope:¬(Nrm n∧Nrm d∧d≠[])→false=okF (s,n,d):=fun h=>by
  cases hb:okF (s,n,d) with
  |false=>rfl
  |true=>exact absurd (okF_nrm hb) h
 have nil_of:∀{a:List Int},((a.length:Nat):Int)=0→a=[]:=fun h=>List.eq_nil_of_length_eq_zero (by omega)
 have ne_of:∀{a:List Int},¬((a.length:Nat):Int)=0→a≠[]:=fun h h2=>h (by rw[h2];rfl)
 refine⟨⟨hn,by omega⟩,fun h1=>nope fun h=>?_,fun h1=>⟨⟨hd,by omega⟩,fun h2=>nope fun h=>?_,fun h2=>⟨fun h3=>nope fun h=>h.2.2 (nil_of h3),fun h3=>⟨by omega,fun h4=>?_,fun h4=>?_⟩⟩⟩⟩
 ·have:=nrmB_iff.2 h.1
  rw[h1] at this
  cases this
 ·have:=nrmB_iff.2 h.2.1
  rw[h2] at this
  cases this
 all_goals
  have he:=okF_eq (s:=s) hn hd (nrmB_iff.1 h1) (nrmB_iff.1 h2) (ne_of h3)
  have dp:=val_pos hd (nrmB_iff.1 h2) (ne_of h3)
  have hg:=@gcdN_pos (valN n) (valN d) dp
  obtain⟨g1,g2,g3⟩:=natL_ok (show 0≤gcdN (valN n) (valN d) by omega)
  obtain⟨o1,o2,o3⟩:=natL_ok (show(0:Int)≤1 by omega)
  have gle:gcdN (valN n) (valN d)≤valN d:=by
   unfold gcdN
   have:=Nat.gcd_le_right (valN n).toNat (show 0<(valN d).toNat by omega)
   omega
  rw[he]
 ·simp only[beq_iff_eq,Bool.and_true,Bool.and_eq_true,decide_eq_true_eq] at h4
  rw[if_pos h4.2,h4.1]
  rfl
 ·have hgl:=len_of g2 hd g3 (by rw[g1];exact gle)
  refine⟨⟨⟨hn,hd⟩,by omega,by omega⟩,by omega,⟨⟨g2,o2⟩,by omega,by decide⟩,?_⟩
  rw[g1,o1]
  have hcm:(cmpN (gcdN (valN n) (valN d)) 1=0)=(gcdN (valN n) (valN d)=1):=by
   unfold cmpN
   apply propext
   constructor
   ·intro h
    split at h
    ·omega
    ·split at h<;>omega
   ·intro h
    rw[h]
    rfl
  simp only[hcm]
  by_cases hn0:n=[]
  ·rw[if_pos hn0]
   have hs:s=false:=by
    cases s with
    |false=>rfl
    |true=>exact absurd h4 (by simp[hn0])
   have hgd:gcdN (valN n) (valN d)=valN d:=by
    rw[hn0];unfold gcdN;simp[valN];omega
   rw[hgd,hs,Bool.not_false,Bool.true_and,decide_eq_decide]
   constructor
   ·intro h
    rw[←natL_val hd (nrmB_iff.1 h2),h]
    rfl
   ·intro h
    rw[h]
    rfl
  ·rw[if_neg hn0]
def gnQ (p:Prob) (V:List Int) (l:List Fra) (m:Int):Rat:=gainQ V l m (worthS p m)
def stpZ:Stp:=(⟨0,0⟩,(⟨0,0⟩,(false,([],[]))))
def stpM (p:Prob) (V:List Int) (l:List Fra) (m:Int):Stp:=(⟨m,worthS p m⟩,(⟨pU V m,lU V m (worthS p m)⟩,frE (gnQ p V l m)))
def bstM (p:Prob) (V:List Int) (l:List Fra):Nat→Bool×Int×Rat
 |0=>(false,0,0)
 |m+1=>let r:=bstM p V l m
  if 0<gnQ p V l m∧(r.1=false∨r.2.2<gnQ p V l m) then(true,(m:Int),gnQ p V l m) else r
def stpO (p:Prob) (V:List Int) (l:List Fra) (r:Bool×Int×Rat):Stp:=if r.1=true then stpM p V l r.2.1 else stpZ
def senM (p:Prob) (V:List Int) (l:List Fra):Nat→List (Int×Bool)→List (Int×Bool)
 |0,es=>es
 |m+1,es=>if 0<gnQ p V l m then setT (.i .i64) .b (m:Int) true (senM p V l m es) else senM p V l m es
def worM (p:Prob):Nat→List (Int×Int)→List (Int×Int)
 |0,es=>es
 |m+1,es=>worU p (worM p m es) m
def okPay (l:List Fra):Bool:=l.all okF
def fndE (x:FnF) (l:List Fra):Int:=if l.length≠x.vals.length then 3 else if okPay l=false then 2 else 0
def rawP (l:List Fra):Prop:=l.length≤9223372036854775807∧∀x∈l,(Dig x.2.1∧Dig x.2.2)∧x.2.1.length≤1000∧x.2.2.length≤1000
def nOf (x:FnF):Nat:=2^x.p.classes.length
def r514:OCtr:=finCtr 9 (List Fra) (.one (codR sF)) (fun x l=>(okFn x∧rawP l)∧fndE x l=0)
 (fun x l=> .tup [.agg (encS sStp (stpO x.p x.vals l (bstM x.p x.vals l (nOf x)))),.sb (bstM x.p x.vals l (nOf x)).1,.si .i64 0])
 (fun x l=>⟨x.p,x.vals,x.wins,worM x.p (nOf x) x.wor,senM x.p x.vals l (nOf x) x.seen⟩)
def r514e:OCtr:=finCtr 9 (List Fra) (.one (codR sF)) (fun x l=>rawP l∧fndE x l≠0)
 (fun x l=> .tup [.agg (encS sStp stpZ),.sb false,.si .i64 (fndE x l)]) (fun x _=>x)
def zStp:SObj:=.cells [.il .i64 0,.il .i64 0,.il .i64 0,.il .i64 0,.bl false,.sc (.slice none 0 0),.sc (.slice none 0 0)] 47 7 false
def Λ514 (a:FnF×List Fra):Nat→LoopAnn
 |6=> .inv Int (fun i=>⟨[(0,.ptr 0 0 24),(1,.row sF a.2),(4,.ptr 3 0 7),(29,.row sF a.2),(30,.si .i64 a.2.length),(31,.si .i64 i)],a.1.sto++[zStp]⟩)
   (fun s=>iS s 31) (fun i=>(0≤i∧i≤a.2.length)∧∀j:Nat,(j:Int)<i→okF (nthD a.2 j sF.dflt)=true) (fun i=>(a.2.length - i).toNat) fun _ _=> .look
 |14=> .inv Int (fun m=>⟨[(0,.ptr 0 0 24),(1,.row sF a.2),(4,.ptr 3 0 7),(9,.ptr 4 0 7),(10,.sb (bstM a.1.p a.1.vals a.2 m.toNat).1),(11,.si .i64 m)],
   (FnF.mk a.1.p a.1.vals a.1.wins (worM a.1.p m.toNat a.1.wor) (senM a.1.p a.1.vals a.2 m.toNat a.1.seen)).sto++[zStp,.cells (encS sStp (stpO a.1.p a.1.vals a.2 (bstM a.1.p a.1.vals a.2 m.toNat))) 47 7 false,.dead,.dead]⟩)
   (fun s=>iS s 11) (fun m=>0≤m∧m≤2^a.1.p.classes.length) (fun m=>(2^a.1.p.classes.length - m).toNat) fun m k=>match k with
   |19=> .inv (Int×Fra) (fun y=>⟨[(0,.ptr 0 0 24),(1,.row sF a.2),(4,.ptr 3 0 7),(9,.ptr 4 0 7),(10,.sb (bstM a.1.p a.1.vals a.2 m.toNat).1),(11,.si .i64 m),(12,.ptr 7 0 2),(13,.si .i64 (worthS a.1.p m)),(14,.ptr 8 0 3),
     (56,.row sF a.2),(57,.si .i64 a.2.length),(58,.si .i64 y.1)],
     (FnF.mk a.1.p a.1.vals a.1.wins (worU a.1.p (worM a.1.p m.toNat a.1.wor) m) (senM a.1.p a.1.vals a.2 m.toNat a.1.seen)).sto++[zStp,.cells (encS sStp (stpO a.1.p a.1.vals a.2 (bstM a.1.p a.1.vals a.2 m.toNat))) 47 7 false,.dead,.dead,
      .cells [.si .i64 (pU a.1.vals m),.si .i64 (lU a.1.vals m (worthS a.1.p m))] 41 2 false,fCells y.2]⟩)
     (fun s=>(iS s 58,cS sF s 8 0)) (fun y=>(0≤y.1∧y.1≤a.2.length)∧y.2=frE ((lU a.1.vals m (worthS a.1.p m):Rat) - paidQ a.2 (pU a.1.vals m) y.1.toNat)) (fun y=>(a.2.length - y.1).toNat) fun _ _=> .look
   |_=> .look
 |_=> .look
theorem bstM_succ (p:Prob) (V:List Int) (l:List Fra) (m:Nat):bstM p V l (m+1)=if 0<gnQ p V l m∧((bstM p V l m).1=false∨(bstM p V l m).2.2<gnQ p V l m) then(true,(m:Int),gnQ p V l m) else bstM p V l m:=rfl
theorem bstM_gn (p:Prob) (V:List Int) (l:List Fra):∀m,(bstM p V l m).1=true→(bstM p V l m).2.2=gnQ p V l (bstM p V l m).2.1∧0≤(bstM p V l m).2.1∧(bstM p V l m).2.1<m∧0<(bstM p V l m).2.2
 |0,h=>by cases h
 |m+1,h=>by
  rw[bstM_succ] at h ⊢
  split
  ·rename_i hc
   exact⟨rfl,by simp,by simp only;omega,hc.1⟩
  ·rename_i hc
   rw[if_neg hc] at h
   obtain⟨h1,h2,h3,h4⟩:=bstM_gn p V l m h
   exact⟨h1,h2,by omega,h4⟩
def payK (K:Nat) (l:List Fra):Prop:=l.length≤10∧∀x∈l,∃q,x=frE q∧Sz K q
theorem payK_get {K:Nat} {l:List Fra} (h:payK K l) {n:Nat} (hn:n<l.length):∃q,nthD l n sF.dflt=frE q∧Sz K q:=h.2 _ (nthD_mem hn)
theorem paidK_sz {K:Nat} {l:List Fra} {m:Int} (h:payK K l):∀{n:Nat},n≤l.length→Sz (1+(K+1)*n) (paidQ l m n)
 |0,_=>by simpa[paidQ] using sz_zero
 |n+1,hn=>by
  have h1:=@paidK_sz K l m h n (by omega)
  obtain⟨q,hq,hs⟩:=payK_get h (show n<l.length by omega)
  rw[paidQ_succ,Nat.mul_succ]
  split
  ·rw[hq,valF_frE]
   exact(sz_add h1 hs).mono (by omega)
  ·exact h1.mono (by omega)
theorem okK_sz {K:Nat} {x:Fra} (h:okF x=true) (h1:Dig x.2.1) (h2:Dig x.2.2) (l1:x.2.1.length≤K) (l2:x.2.2.length≤K):x=frE (valF x)∧Sz K (valF x):=by
 have e:=of_decide_eq_true h
 refine⟨e.symm,?_⟩
 have e1:natL ((valF x).num.natAbs:Int)=x.2.1:=congrArg (fun x=>x.2.1) e
 have e2:natL ((valF x).den:Int)=x.2.2:=congrArg (fun x=>x.2.2) e
 have v1:=(natL_ok (show(0:Int)≤((valF x).num.natAbs:Int) by omega)).1
 have v2:=(natL_ok (show(0:Int)≤((valF x).den:Int) by omega)).1
 rw[e1] at v1
 rw[e2] at v2
 have b1:=lt_of_len h1 l1
 have b2:=lt_of_len h2 l2
 unfold Sz
 rw[←v1,←v2]
 exact⟨b1,b2⟩
theorem rawP_pay {l:List Fra} (h:rawP l) (hl:l.length≤10) (ho:okPay l=true):payK 1000 l:=by
 refine⟨hl,fun x hx=>?_⟩
 obtain⟨⟨h1,h2⟩,h3,h4⟩:=h.2 x hx
 have:=List.all_eq_true.1 ho x hx
 exact⟨_,(okK_sz this h1 h2 h3 h4).1,(okK_sz this h1 h2 h3 h4).2⟩
theorem lU_sz {x:FnF} (hx:okFn x) (m:Int): -9000000000000000≤lU x.vals m (worthS x.p m)∧lU x.vals m (worthS x.p m)≤9000000000000000:=by
 have h:=@leastU_bd x.vals m (worthS x.p m) hx.v x.vals.length (by omega)
 have h2:=worth_bd x.p m
 have h3:=hx.l
 have h4:=hx.n4
 unfold lU
 omega
theorem gp_sz {K:Nat} {x:FnF} (hx:okFn x) {l:List Fra} (hl:payK K l) (m:Int) {n:Nat} (hn:n≤l.length):Sz (2+(1+(K+1)*n)+1) ((lU x.vals m (worthS x.p m):Rat) - paidQ l (pU x.vals m) n):=by
 have h:=lU_sz hx m
 have hW:Sz 2 (lU x.vals m (worthS x.p m):Rat):=by
  unfold Sz
  simp
  omega
 rw[Rat.sub_eq_add_neg]
 exact sz_add hW (sz_neg (paidK_sz hl hn))
theorem gn_isF {x:FnF} (hx:okFn x) {l:List Fra} (hl:payK 1000 l) (m:Int):isF (frE (gnQ x.p x.vals l m)):=
 ⟨_,_,rfl,gp_sz hx hl m (Nat.le_refl _),by have:=hl.1;omega⟩
theorem worM_k {p:Prob} {es:List (Int×Int)} (h:∀e∈es,e.2=worthS p e.1):∀m,∀e∈worM p m es,e.2=worthS p e.1
 |0=>h
 |m+1=>by
  have ih:=worM_k h m
  have hs:∀{es:List (Int×Int)} {k:Int},(∀e∈es,e.2=worthS p e.1)→∀e∈setT (.i .i64) (.i .i64) k (worthS p k) es,e.2=worthS p e.1:=by
   intro es k
   induction es with
   |nil=>intro _ e he;simp[setT] at he;subst he;rfl
   |cons q es ih=>
    intro h e he
    unfold setT at he
    split at he
    ·rcases List.mem_cons.1 he with rfl|he
     ·rfl
     ·exact h e (by simp[he])
    ·rcases List.mem_cons.1 he with rfl|he
     ·exact h _ (by simp)
     ·exact ih (fun e he=>h e (by simp[he])) e he
  show ∀e∈worU p (worM p m es) m,_
  unfold worU
  split
  ·exact ih
  ·exact hs ih
theorem okFn_st {x:FnF} (hx:okFn x) (l:List Fra) (m:Nat):okFn ⟨x.p,x.vals,x.wins,worM x.p m x.wor,senM x.p x.vals l m x.seen⟩:=⟨hx.c,hx.n4,hx.l,hx.v,hx.w,worM_k hx.k m⟩
theorem fnd_ok {x:FnF} {l:List Fra} (h:fndE x l=0):l.length=x.vals.length∧okPay l=true:=by
 unfold fndE at h
 split at h
 ·cases h
 ·rename_i h1
  split at h
  ·cases h
  ·rename_i h2
   exact⟨Classical.not_not.1 h1,by simpa using h2⟩
theorem h514:HoldsO Try.prog r514:=by
 refine conO (L:=[r407,r94,r95,r99,r97]) (W:=[r520]) r514 Λ514 (by simpa using h520) (by simpa using⟨h407,h94,h95,h99,h97⟩) ?_
 rintro⟨x,l⟩ ⟨⟨hx,hl⟩,hz⟩
 refine vcOf (let z0:=(↑l.length:Int);let z1:=decide (z0≠(↑x.vals.length:Int));let z2:=SV.il .i64 0;let z3:=SV.bl false;let z4:=SId.i .u32;let z5:=[z2,z2,z2,z2,z3,SV.row z4 [],SV.row z4 []];let z6:=bstM x.p x.vals l (nOf x);let z7:=stpO x.p x.vals l z6;let z8:=SV.si .i64 0;let z9:=SV.tup [SV.agg [SV.si .i64 z7.fst.payers,SV.si .i64 z7.fst.least,SV.si .i64 z7.snd.fst.payers,SV.si .i64 z7.snd.fst.least,SV.sb z7.snd.snd.fst,SV.row z4 z7.snd.snd.snd.fst,SV.row z4 z7.snd.snd.snd.snd],SV.sb z6.fst,z8];let z10:=SId.i .i64;let z11:=SObj.cells [SV.si .i64 x.p.supply.a0,SV.si .i64 x.p.supply.a1,SV.si .i64 x.p.supply.a2,SV.si .i64 x.p.supply.a3,SV.si .i64 x.p.supply.a4,SV.si .i64 x.p.supply.a5,SV.si .i64 x.p.opn.a0,SV.si .i64 x.p.opn.a1,SV.si .i64 x.p.opn.a2,SV.si .i64 x.p.opn.a3,SV.si .i64 x.p.opn.a4,SV.si .i64 x.p.opn.a5,SV.si .i64 x.p.cls.a0,SV.si .i64 x.p.cls.a1,SV.si .i64 x.p.cls.a2,SV.si .i64 x.p.cls.a3,SV.si .i64 x.p.cls.a4,SV.si .i64 x.p.cls.a5,SV.row z10 x.p.classes,SV.row SId.off x.p.offers,SV.row z10 x.vals,SV.si .i64 x.wins,SV.mp 1,SV.mp 2] 75 24 false;let z12:=([0],false);let z13:=SObj.map z10 z10 false x.wor z12 true;let z14:=SObj.map z10 z10 false (worM x.p (nOf x) x.wor) z12 true;let z15:=SObj.map z10 SId.b false x.seen z12 true;let z16:=SObj.map z10 SId.b false (senM x.p x.vals l (nOf x) x.seen) z12 true;let z17:=SV.ptr 0 0 24;let z18:=SV.ptr 3 0 7;let z19:=(↑l.length:Int);let z20:=SV.si .i64 z19;let z21:=SV.sc (Value.slice none 0 0);let z22:=SObj.cells [z2,z2,z2,z2,z3,z21,z21] 47 7 false;let z23:=SV.ptr 4 0 7;let z24:=bstM x.p x.vals l 0;let z25:=stpO x.p x.vals l z24;let z26:=(2:Int)^x.p.classes.length;let z27:=(1:Int)*(2:Int)^z0.toNat;let z28:=SV.ptr 7 0 2;let z29:=SV.ptr 8 0 3;(z1=true→0=0∧0=0∧(SV.tup [SV.agg z5,z3,SV.il .i64 3]).same z9∧z11.same z11∧z13.same z14∧z15.same z16∧True)∧(z1=false→(((z17.same z17∧(SV.row sF l).same (SV.row sF l)∧z18.same z18∧(SV.row sF l).same (SV.row sF l)∧(SV.si .i64 z0).same z20∧z2.same z8∧True)∧z11.same z11∧z13.same z13∧z15.same z15∧z22.same z22∧True)∧((0:Int)≤(0:Int)∧(0:Int)≤z19)∧∀(j:Nat),(↑j:Int)<(0:Int)→okF (nthD l j sF.dflt)=true)∧∀(x_1:Int),let z30:=nthD l x_1.toNat sF.dflt;let z31:=!okF (z30.fst,z30.snd.fst,z30.snd.snd);let z32:=x_1+(1:Int);let z33:=SV.si .i64 z32;(((0:Int)≤x_1∧x_1≤z19)∧∀(j:Nat),(↑j:Int)<x_1→okF (nthD l j sF.dflt)=true)→(decide (x_1<z19)=true→(0:Int)≤x_1∧x_1<z0∧x_1.toNat<l.length∧((Dig z30.snd.fst∧Dig z30.snd.snd)∧List.length z30.snd.fst≤10000000∧List.length z30.snd.snd≤10000000)∧(z31=true→0=0∧0=0∧(SV.tup [SV.agg z5,z3,SV.il .i64 2]).same z9∧z11.same z11∧z13.same z14∧z15.same z16∧True)∧(z31=false→inR .i64 z32∧((z17.same z17∧(SV.row sF l).same (SV.row sF l)∧z18.same z18∧(SV.row sF l).same (SV.row sF l)∧z20.same z20∧z33.same z33∧True)∧z11.same z11∧z13.same z13∧z15.same z15∧z22.same z22∧True)∧(((0:Int)≤z32∧z32≤z19)∧∀(j:Nat),(↑j:Int)<z32→okF (nthD l j sF.dflt)=true)∧(z19 - z32).toNat<(z19 - x_1).toNat))∧(decide (x_1<z19)=false→0=0∧0=0∧(((z17.same z17∧(SV.row sF l).same (SV.row sF l)∧z18.same z18∧z23.same z23∧z3.same (SV.sb z24.fst)∧z2.same z8∧True)∧z11.same z11∧z13.same (SObj.map z10 z10 false (worM x.p 0 x.wor) z12 true)∧z15.same (SObj.map z10 SId.b false (senM x.p x.vals l 0 x.seen) z12 true)∧z22.same z22∧(SObj.cells z5 47 7 false).same (SObj.cells [SV.si .i64 z25.fst.payers,SV.si .i64 z25.fst.least,SV.si .i64 z25.snd.fst.payers,SV.si .i64 z25.snd.fst.least,SV.sb z25.snd.snd.fst,SV.row z4 z25.snd.snd.snd.fst,SV.row z4 z25.snd.snd.snd.snd] 47 7 false)∧SObj.dead.same SObj.dead∧SObj.dead.same SObj.dead∧True)∧(0:Int)≤(0:Int)∧(0:Int)≤z26)∧∀(x_2:Int),let z34:=worM x.p x_2.toNat x.wor;let z35:=senM x.p x.vals l x_2.toNat x.seen;let z36:=lU x.vals x_2 (worthS x.p x_2);let z37:=bstM x.p x.vals l x_2.toNat;let z38:=SV.sb z37.fst;let z39:=SV.si .i64 x_2;let z40:=SV.si .i64 (worthS x.p x_2);let z41:=SObj.map z10 z10 false (worU x.p z34 x_2) z12 true;let z42:=SObj.map z10 SId.b false z35 z12 true;let z43:=stpO x.p x.vals l z37;let z44:=[SV.si .i64 z43.fst.payers,SV.si .i64 z43.fst.least,SV.si .i64 z43.snd.fst.payers,SV.si .i64 z43.snd.fst.least,SV.sb z43.snd.snd.fst,SV.row z4 z43.snd.snd.snd.fst,SV.row z4 z43.snd.snd.snd.snd];let z45:=SObj.cells z44 47 7 false;let z46:=pU x.vals x_2;let z47:=SV.si .i64 z46;let z48:=SV.si .i64 z36;let z49:=SObj.cells [z47,z48] 41 2 false;let z50:=IntCast.intCast z36;let z51:=SObj.cells [SV.sb (frE z50).fst,SV.row z4 (frE z50).snd.fst,SV.row z4 (frE z50).snd.snd] 45 3 false;let z52:=x_2+(1:Int);let z53:=bstM x.p x.vals l z52.toNat;let z54:=SV.si .i64 z52;let z55:=SObj.map z10 SId.b false (senM x.p x.vals l z52.toNat x.seen) z12 true;let z56:=stpO x.p x.vals l z53;let z57:=SObj.cells [SV.si .i64 z56.fst.payers,SV.si .i64 z56.fst.least,SV.si .i64 z56.snd.fst.payers,SV.si .i64 z56.snd.fst.least,SV.sb z56.snd.snd.fst,SV.row z4 z56.snd.snd.snd.fst,SV.row z4 z56.snd.snd.snd.snd] 47 7 false;let z58:=(z43.snd.snd.fst,z43.snd.snd.snd.fst,z43.snd.snd.snd.snd);(0:Int)≤x_2∧x_2≤z26→(0:Int)≤z0∧z0≤(64:Int)∧inR .i64 z27∧(decide (x_2<z27)=true→(okFn (FnF.mk x.p x.vals x.wins z34 z35)∧(0:Int)≤x_2∧x_2<z26)∧((-9223372036854775808:Int)≤z36∧z36≤(9223372036854775807:Int))∧(((z17.same z17∧(SV.row sF l).same (SV.row sF l)∧z18.same z18∧z23.same z23∧z38.same z38∧z39.same z39∧z28.same z28∧z40.same z40∧z29.same z29∧(SV.row sF l).same (SV.row sF l)∧(SV.si .i64 z0).same z20∧z2.same z8∧True)∧z11.same z11∧z41.same z41∧z42.same z42∧z22.same z22∧z45.same z45∧SObj.dead.same SObj.dead∧SObj.dead.same SObj.dead∧z49.same z49∧z51.same z51∧True)∧((0:Int)≤(0:Int)∧(0:Int)≤z19)∧((frE z50).fst,(frE z50).snd.fst,(frE z50).snd.snd)=frE (z50 - paidQ l z46 0))∧∀(x_3:Int×Fra),let z59:=x_3.fst.toNat;let z60:=decide (x_3.fst<z19);let z61:=decide (binK.andI .i64 (z46 / (2:Int)^z59) (1:Int)=(1:Int));let z62:=(x_3.snd.fst,x_3.snd.snd.fst,x_3.snd.snd.snd);let z63:=(nthD l z59 sF.dflt).snd;let z64:=((nthD l z59 sF.dflt).fst,z63.fst,z63.snd);let z65:=x_3.fst+(1:Int);let z66:=SV.si .i64 z65;let z67:=frE (valF z62 - valF z64);let z68:=SObj.cells [SV.sb z67.fst,SV.row z4 z67.snd.fst,SV.row z4 z67.snd.snd] 45 3 false;let z69:=frE (z50 - paidQ l z46 z65.toNat);let z70:=[SV.sb x_3.snd.fst,SV.row z4 x_3.snd.snd.fst,SV.row z4 x_3.snd.snd.snd];let z71:=SObj.cells z70 45 3 false;let z72:=decide (sgnQ (valF z62)≤(0:Int));let z73:=decide ((0:Int)<cmpQ (valF z62) (valF z58));((0:Int)≤x_3.fst∧x_3.fst≤z19)∧x_3.snd=frE (z50 - paidQ l z46 z59)→(z60=true→(0:Int)≤x_3.fst∧x_3.fst<z0∧z59<l.length∧(0:Int)≤x_3.fst∧x_3.fst≤(64:Int)∧(z61=true→(isF z62∧isF z64)∧inR .i64 z65∧((z17.same z17∧(SV.row sF l).same (SV.row sF l)∧z18.same z18∧z23.same z23∧z38.same z38∧z39.same z39∧z28.same z28∧z40.same z40∧z29.same z29∧(SV.row sF l).same (SV.row sF l)∧z20.same z20∧z66.same z66∧True)∧z11.same z11∧z41.same z41∧z42.same z42∧z22.same z22∧z45.same z45∧SObj.dead.same SObj.dead∧SObj.dead.same SObj.dead∧z49.same z49∧z68.same z68∧True)∧(((0:Int)≤z65∧z65≤z19)∧(z67.fst,z67.snd.fst,z67.snd.snd)=z69)∧(z19 - z65).toNat<(z19 - x_3.fst).toNat)∧(z61=false→inR .i64 z65∧((z17.same z17∧(SV.row sF l).same (SV.row sF l)∧z18.same z18∧z23.same z23∧z38.same z38∧z39.same z39∧z28.same z28∧z40.same z40∧z29.same z29∧(SV.row sF l).same (SV.row sF l)∧z20.same z20∧z66.same z66∧True)∧z11.same z11∧z41.same z41∧z42.same z42∧z22.same z22∧z45.same z45∧SObj.dead.same SObj.dead∧SObj.dead.same SObj.dead∧z49.same z49∧z71.same z71∧True)∧(((0:Int)≤z65∧z65≤z19)∧z62=z69)∧(z19 - z65).toNat<(z19 - x_3.fst).toNat))∧(z60=false→isF z62∧(z72=true→inR .i64 z52∧((z17.same z17∧(SV.row sF l).same (SV.row sF l)∧z18.same z18∧z23.same z23∧z38.same (SV.sb z53.fst)∧z54.same z54∧True)∧z11.same z11∧z41.same (SObj.map z10 z10 false (worM x.p z52.toNat x.wor) z12 true)∧z42.same z55∧z22.same z22∧z45.same z57∧SObj.dead.same SObj.dead∧SObj.dead.same SObj.dead∧True)∧((0:Int)≤z52∧z52≤z26)∧(z26 - z52).toNat<(z26 - x_2).toNat)∧(z72=false→((!z37.fst)=true→inR .i64 z52∧((z17.same z17∧(SV.row sF l).same (SV.row sF l)∧z18.same z18∧z23.same z23∧(SV.bl true).same (SV.sb z53.fst)∧z54.same z54∧True)∧z11.same z11∧z41.same (SObj.map z10 z10 false (worM x.p z52.toNat x.wor) z12 true)∧(SObj.map z10 SId.b false (setT z10 SId.b x_2 true z35) z12 true).same z55∧z22.same z22∧(SObj.cells (z39::z40::z47::z48::z70) 47 7 false).same z57∧SObj.dead.same SObj.dead∧SObj.dead.same SObj.dead∧True)∧((0:Int)≤z52∧z52≤z26)∧(z26 - z52).toNat<(z26 - x_2).toNat)∧((!z37.fst)=false→(isF z62∧isF z58)∧(z73=true→inR .i64 z52∧((z17.same z17∧(SV.row sF l).same (SV.row sF l)∧z18.same z18∧z23.same z23∧(SV.bl true).same (SV.sb z53.fst)∧z54.same z54∧True)∧z11.same z11∧z41.same (SObj.map z10 z10 false (worM x.p z52.toNat x.wor) z12 true)∧(SObj.map z10 SId.b false (setT z10 SId.b x_2 true z35) z12 true).same z55∧z22.same z22∧(SObj.cells (z39::z40::z47::z48::z70) 47 7 false).same z57∧SObj.dead.same SObj.dead∧SObj.dead.same SObj.dead∧True)∧((0:Int)≤z52∧z52≤z26)∧(z26 - z52).toNat<(z26 - x_2).toNat)∧(z73=false→inR .i64 z52∧((z17.same z17∧(SV.row sF l).same (SV.row sF l)∧z18.same z18∧z23.same z23∧z38.same (SV.sb z53.fst)∧z54.same z54∧True)∧z11.same z11∧z41.same (SObj.map z10 z10 false (worM x.p z52.toNat x.wor) z12 true)∧(SObj.map z10 SId.b false (setT z10 SId.b x_2 true z35) z12 true).same z55∧z22.same z22∧z45.same z57∧SObj.dead.same SObj.dead∧SObj.dead.same SObj.dead∧True)∧((0:Int)≤z52∧z52≤z26)∧(z26 - z52).toNat<(z26 - x_2).toNat)))))∧(decide (x_2<z27)=false→(SV.tup [SV.agg z44,z38,z2]).same z9∧z11.same z11∧(SObj.map z10 z10 false z34 z12 true).same z14∧z42.same z16∧True)))) (by kernel_rfl) ?_
 simp only[vcs]
 have hx:okFn x:=hx
 have hl:rawP l:=hl
 have hz:fndE x l=0:=hz
 obtain⟨hln,hok⟩:=fnd_ok hz
 have h4:=hx.n4
 have hV:=hx.l
 have hp:=rawP_pay hl (by omega) hok
 have hok2:∀x∈l,okF x=true:=List.all_eq_true.1 hok
 have h16:=pow_4 h4
 have e2:(1:Int)*2^((l.length:Int)).toNat=2^x.p.classes.length:=by rw[Int.one_mul,Int.toNat_natCast,hln,hV]
 rw[e2]
 refine⟨fun h=>absurd (by omega) h,fun _=>⟨⟨⟨by omega,by omega⟩,fun j hj=>by omega⟩,?_⟩⟩
 rintro i ⟨⟨i0,i1⟩,hi⟩
 refine⟨fun hlt=>?_,fun hge=>?_⟩
 ·have hm:=nthD_mem (d:=sF.dflt) (show i.toNat<l.length by omega)
  obtain⟨⟨d1,d2⟩,d3,d4⟩:=hl.2 _ hm
  have ho:=hok2 _ hm
  refine⟨i0,hlt,by omega,⟨⟨d1,d2⟩,by omega,by omega⟩,fun h=>?_,fun _=>⟨⟨by omega,by omega⟩,⟨⟨by omega,by omega⟩,fun j hj=>?_⟩,by omega⟩⟩
  ·exact absurd (ho.symm.trans h) (by decide)
  ·by_cases hji:(j:Int)<i
   ·exact hi j hji
   ·rw[show j=i.toNat by omega];exact ho
 clear hi
 refine⟨⟨⟨rfl,rfl,rfl,rfl⟩,by omega,by omega⟩,?_⟩
 rintro m ⟨m0,m1⟩
 obtain⟨m,rfl⟩:∃k:Nat,m=k:=⟨m.toNat,by omega⟩
 have eM:((m:Int)+1).toNat=m+1:=by omega
 have eN:((m:Int)).toNat=m:=by omega
 rw[eM,eN]
 have hlb:=lU_sz hx m
 refine⟨by omega,by omega,⟨by omega,by omega⟩,fun hlt=>⟨⟨okFn_st hx l m,m0,hlt⟩,⟨by omega,by omega⟩,⟨⟨by omega,by omega⟩,?_⟩,?_⟩,fun hge=>?_⟩
 ·have e0:(lU x.vals m (worthS x.p m):Rat) - paidQ l (pU x.vals m) 0=(lU x.vals m (worthS x.p m):Rat):=by
   simp[paidQ,Rat.sub_eq_add_neg,Rat.add_zero]
  rw[e0]
 ·have hbst:=bstM_succ x.p x.vals l m
  have hgn:=bstM_gn x.p x.vals l m
  have hgF:=gn_isF hx hp m
  have hpb:=(@win_not x.vals m (by omega) m0 (by omega))
  have hP:=@payU_bd x.vals m x.vals.length
  rintro⟨i,s⟩ ⟨⟨i0,i1⟩,hs⟩
  simp only at i0 i1 hs
  subst hs
  simp only
  have e:(i+1).toNat=i.toNat+1:=by omega
  have ei:((i.toNat:Nat):Int)=i:=by omega
  refine⟨fun hi=>?_,fun hi=>?_⟩
  ·have hsu:=@paidQ_succ l (pU x.vals m) i.toNat
   rw[ei] at hsu
   have hp0:0≤pU x.vals m:=hP.1
   have hp1:pU x.vals m<2^x.vals.length:=hP.2
   rw[hV] at hp1
   obtain⟨n0,n1⟩:=half_nn (i:=i.toNat) hp0
   have ha:binK.andI .i64 (pU x.vals m / 2^i.toNat) 1=pU x.vals m / 2^i.toNat % 2:=and_one n0 (by omega)
   have hI:hasI (pU x.vals m) i=decide (pU x.vals m / 2^i.toNat % 2=1):=rfl
   have hD:=gp_sz hx hp m (n:=i.toNat) (by omega)
   have hll:=hp.1
   rw[ha,e]
   refine⟨i0,hi,by omega,i0,by omega,fun h1=>?_,fun h1=>?_⟩
   ·obtain⟨q,hq,hsz⟩:=payK_get hp (show i.toNat<l.length by omega)
    rw[if_pos (by rw[hI];exact decide_eq_true h1)] at hsu
    have e1:valF ((frE ((lU x.vals m (worthS x.p m):Rat) - paidQ l (pU x.vals m) i.toNat)).1,(frE ((lU x.vals m (worthS x.p m):Rat) - paidQ l (pU x.vals m) i.toNat)).2.1,(frE ((lU x.vals m (worthS x.p m):Rat) - paidQ l (pU x.vals m) i.toNat)).2.2) - valF ((nthD l i.toNat sF.dflt).1,(nthD l i.toNat sF.dflt).2.1,(nthD l i.toNat sF.dflt).2.2)=(lU x.vals m (worthS x.p m):Rat) - paidQ l (pU x.vals m) (i.toNat+1):=by
     rw[hsu]
     show valF (frE _) - valF (nthD l i.toNat sF.dflt)=_
     rw[valF_frE]
     grind
    refine⟨⟨⟨_,_,rfl,hD,by omega⟩,⟨q,1000,hq,hsz,by omega⟩⟩,?_⟩
    rw[e1]
    exact⟨⟨by omega,by omega⟩,⟨⟨by omega,by omega⟩,rfl⟩,by omega⟩
   ·rw[if_neg (by rw[hI];simpa using h1)] at hsu
    rw[hsu]
    exact⟨⟨by omega,by omega⟩,⟨⟨by omega,by omega⟩,rfl⟩,by omega⟩
  ·have eg:(lU x.vals m (worthS x.p m):Rat) - paidQ l (pU x.vals m) i.toNat=gnQ x.p x.vals l m:=by
    rw[show i.toNat=l.length by omega]
    rfl
   rw[eg]
   have ev:valF ((frE (gnQ x.p x.vals l m)).1,(frE (gnQ x.p x.vals l m)).2.1,(frE (gnQ x.p x.vals l m)).2.2)=gnQ x.p x.vals l m:=valF_frE _
   rw[ev]
   have hsp:=@sgn_pos (gnQ x.p x.vals l m)
   have hse:senM x.p x.vals l (m+1) x.seen=if 0<gnQ x.p x.vals l m then setT (.i .i64) .b (m:Int) true (senM x.p x.vals l m x.seen) else senM x.p x.vals l m x.seen:=rfl
   refine⟨hgF,fun h1=>?_,fun h1=>?_⟩
   ·have hng:¬0<gnQ x.p x.vals l m:=fun h=>by have:=hsp.2 h;omega
    rw[if_neg (fun h=>hng h.1)] at hbst
    rw[if_neg hng] at hse
    rw[hbst,hse]
    exact⟨⟨by omega,by omega⟩,⟨rfl,rfl,rfl,rfl⟩,⟨by omega,by omega⟩,by omega⟩
   ·have hg:0<gnQ x.p x.vals l m:=hsp.1 (by omega)
    rw[if_pos hg] at hse
    rw[hse]
    refine⟨fun h2=>?_,fun h2=>?_⟩
    ·rw[if_pos ⟨hg,.inl h2⟩] at hbst
     rw[hbst]
     exact⟨⟨by omega,by omega⟩,⟨rfl,rfl,rfl,rfl⟩,⟨by omega,by omega⟩,by omega⟩
    ·obtain⟨g1,g2,g3,g4⟩:=hgn h2
     have est:stpO x.p x.vals l (bstM x.p x.vals l m)=stpM x.p x.vals l (bstM x.p x.vals l m).2.1:=by unfold stpO;rw[if_pos h2]
     have esF:((stpO x.p x.vals l (bstM x.p x.vals l m)).2.2.1,(stpO x.p x.vals l (bstM x.p x.vals l m)).2.2.2.1,(stpO x.p x.vals l (bstM x.p x.vals l m)).2.2.2.2)=frE (gnQ x.p x.vals l (bstM x.p x.vals l m).2.1):=by rw[est];rfl
     rw[esF,valF_frE,←g1]
     have hcp:=@cmpQ_pos (gnQ x.p x.vals l m) (bstM x.p x.vals l m).2.2
     refine⟨⟨hgF,by rw[g1];exact gn_isF hx hp _⟩,fun h3=>?_,fun h3=>?_⟩
     ·rw[if_pos ⟨hg,.inr (hcp.1 h3)⟩] at hbst
      rw[hbst]
      exact⟨⟨by omega,by omega⟩,⟨rfl,rfl,rfl,rfl⟩,⟨by omega,by omega⟩,by omega⟩
     ·rw[if_neg (fun h=>by
       rcases h.2 with h|h
       ·rw[h2] at h;cases h
       ·exact h3 (hcp.2 h))] at hbst
      rw[hbst]
      exact⟨⟨by omega,by omega⟩,⟨rfl,rfl,rfl,rfl⟩,⟨by omega,by omega⟩,by omega⟩
 ·have en:nOf x=m:=by
   unfold nOf
   have:((2^x.p.classes.length:Nat):Int)=2^x.p.classes.length:=by simp
   omega
  rw[en]
  exact⟨⟨rfl,rfl⟩,rfl,rfl⟩
theorem h514e:HoldsO Try.prog r514e:=by
 refine conO (L:=[r407,r94,r95,r99,r97]) (W:=[r520]) r514e Λ514 (by simpa using h520) (by simpa using⟨h407,h94,h95,h99,h97⟩) ?_
 rintro⟨x,l⟩ ⟨hl,hz⟩
 refine vcOf (let z0:=(↑l.length:Int);let z1:=decide (z0≠(↑x.vals.length:Int));let z2:=SV.il .i64 0;let z3:=SV.bl false;let z4:=SId.i .u32;let z5:=[z2,z2,z2,z2,z3,SV.row z4 [],SV.row z4 []];let z6:=SV.tup [SV.agg [SV.si .i64 stpZ.fst.payers,SV.si .i64 stpZ.fst.least,SV.si .i64 stpZ.snd.fst.payers,SV.si .i64 stpZ.snd.fst.least,SV.sb stpZ.snd.snd.fst,SV.row z4 stpZ.snd.snd.snd.fst,SV.row z4 stpZ.snd.snd.snd.snd],SV.sb false,SV.si .i64 (fndE x l)];let z7:=SId.i .i64;let z8:=SObj.cells [SV.si .i64 x.p.supply.a0,SV.si .i64 x.p.supply.a1,SV.si .i64 x.p.supply.a2,SV.si .i64 x.p.supply.a3,SV.si .i64 x.p.supply.a4,SV.si .i64 x.p.supply.a5,SV.si .i64 x.p.opn.a0,SV.si .i64 x.p.opn.a1,SV.si .i64 x.p.opn.a2,SV.si .i64 x.p.opn.a3,SV.si .i64 x.p.opn.a4,SV.si .i64 x.p.opn.a5,SV.si .i64 x.p.cls.a0,SV.si .i64 x.p.cls.a1,SV.si .i64 x.p.cls.a2,SV.si .i64 x.p.cls.a3,SV.si .i64 x.p.cls.a4,SV.si .i64 x.p.cls.a5,SV.row z7 x.p.classes,SV.row SId.off x.p.offers,SV.row z7 x.vals,SV.si .i64 x.wins,SV.mp 1,SV.mp 2] 75 24 false;let z9:=([0],false);let z10:=SObj.map z7 z7 false x.wor z9 true;let z11:=SObj.map z7 SId.b false x.seen z9 true;let z12:=SV.ptr 0 0 24;let z13:=SV.ptr 3 0 7;let z14:=(↑l.length:Int);let z15:=SV.si .i64 z14;let z16:=SV.sc (Value.slice none 0 0);let z17:=SObj.cells [z2,z2,z2,z2,z3,z16,z16] 47 7 false;let z18:=SV.ptr 4 0 7;let z19:=bstM x.p x.vals l 0;let z20:=stpO x.p x.vals l z19;let z21:=(2:Int)^x.p.classes.length;let z22:=(1:Int)*(2:Int)^z0.toNat;let z23:=SV.ptr 7 0 2;let z24:=SV.ptr 8 0 3;(z1=true→0=0∧0=0∧(SV.tup [SV.agg z5,z3,SV.il .i64 3]).same z6∧z8.same z8∧z10.same z10∧z11.same z11∧True)∧(z1=false→(((z12.same z12∧(SV.row sF l).same (SV.row sF l)∧z13.same z13∧(SV.row sF l).same (SV.row sF l)∧(SV.si .i64 z0).same z15∧z2.same (SV.si .i64 0)∧True)∧z8.same z8∧z10.same z10∧z11.same z11∧z17.same z17∧True)∧((0:Int)≤(0:Int)∧(0:Int)≤z14)∧∀(j:Nat),(↑j:Int)<(0:Int)→okF (nthD l j sF.dflt)=true)∧∀(x_1:Int),let z25:=nthD l x_1.toNat sF.dflt;let z26:=!okF (z25.fst,z25.snd.fst,z25.snd.snd);let z27:=x_1+(1:Int);let z28:=SV.si .i64 z27;(((0:Int)≤x_1∧x_1≤z14)∧∀(j:Nat),(↑j:Int)<x_1→okF (nthD l j sF.dflt)=true)→(decide (x_1<z14)=true→(0:Int)≤x_1∧x_1<z0∧x_1.toNat<l.length∧((Dig z25.snd.fst∧Dig z25.snd.snd)∧List.length z25.snd.fst≤10000000∧List.length z25.snd.snd≤10000000)∧(z26=true→0=0∧0=0∧(SV.tup [SV.agg z5,z3,SV.il .i64 2]).same z6∧z8.same z8∧z10.same z10∧z11.same z11∧True)∧(z26=false→inR .i64 z27∧((z12.same z12∧(SV.row sF l).same (SV.row sF l)∧z13.same z13∧(SV.row sF l).same (SV.row sF l)∧z15.same z15∧z28.same z28∧True)∧z8.same z8∧z10.same z10∧z11.same z11∧z17.same z17∧True)∧(((0:Int)≤z27∧z27≤z14)∧∀(j:Nat),(↑j:Int)<z27→okF (nthD l j sF.dflt)=true)∧(z14 - z27).toNat<(z14 - x_1).toNat))∧(decide (x_1<z14)=false→0=0∧0=0∧(((z12.same z12∧(SV.row sF l).same (SV.row sF l)∧z13.same z13∧z18.same z18∧z3.same (SV.sb z19.fst)∧z2.same (SV.si .i64 0)∧True)∧z8.same z8∧z10.same (SObj.map z7 z7 false (worM x.p 0 x.wor) z9 true)∧z11.same (SObj.map z7 SId.b false (senM x.p x.vals l 0 x.seen) z9 true)∧z17.same z17∧(SObj.cells z5 47 7 false).same (SObj.cells [SV.si .i64 z20.fst.payers,SV.si .i64 z20.fst.least,SV.si .i64 z20.snd.fst.payers,SV.si .i64 z20.snd.fst.least,SV.sb z20.snd.snd.fst,SV.row z4 z20.snd.snd.snd.fst,SV.row z4 z20.snd.snd.snd.snd] 47 7 false)∧SObj.dead.same SObj.dead∧SObj.dead.same SObj.dead∧True)∧(0:Int)≤(0:Int)∧(0:Int)≤z21)∧∀(x_2:Int),let z29:=worM x.p x_2.toNat x.wor;let z30:=senM x.p x.vals l x_2.toNat x.seen;let z31:=lU x.vals x_2 (worthS x.p x_2);let z32:=bstM x.p x.vals l x_2.toNat;let z33:=SV.sb z32.fst;let z34:=SV.si .i64 x_2;let z35:=SV.si .i64 (worthS x.p x_2);let z36:=SObj.map z7 z7 false (worU x.p z29 x_2) z9 true;let z37:=SObj.map z7 SId.b false z30 z9 true;let z38:=stpO x.p x.vals l z32;let z39:=[SV.si .i64 z38.fst.payers,SV.si .i64 z38.fst.least,SV.si .i64 z38.snd.fst.payers,SV.si .i64 z38.snd.fst.least,SV.sb z38.snd.snd.fst,SV.row z4 z38.snd.snd.snd.fst,SV.row z4 z38.snd.snd.snd.snd];let z40:=SObj.cells z39 47 7 false;let z41:=pU x.vals x_2;let z42:=SV.si .i64 z41;let z43:=SV.si .i64 z31;let z44:=SObj.cells [z42,z43] 41 2 false;let z45:=IntCast.intCast z31;let z46:=SObj.cells [SV.sb (frE z45).fst,SV.row z4 (frE z45).snd.fst,SV.row z4 (frE z45).snd.snd] 45 3 false;let z47:=x_2+(1:Int);let z48:=bstM x.p x.vals l z47.toNat;let z49:=SV.si .i64 z47;let z50:=SObj.map z7 SId.b false (senM x.p x.vals l z47.toNat x.seen) z9 true;let z51:=stpO x.p x.vals l z48;let z52:=SObj.cells [SV.si .i64 z51.fst.payers,SV.si .i64 z51.fst.least,SV.si .i64 z51.snd.fst.payers,SV.si .i64 z51.snd.fst.least,SV.sb z51.snd.snd.fst,SV.row z4 z51.snd.snd.snd.fst,SV.row z4 z51.snd.snd.snd.snd] 47 7 false;let z53:=(z38.snd.snd.fst,z38.snd.snd.snd.fst,z38.snd.snd.snd.snd);(0:Int)≤x_2∧x_2≤z21→(0:Int)≤z0∧z0≤(64:Int)∧inR .i64 z22∧(decide (x_2<z22)=true→(okFn (FnF.mk x.p x.vals x.wins z29 z30)∧(0:Int)≤x_2∧x_2<z21)∧((-9223372036854775808:Int)≤z31∧z31≤(9223372036854775807:Int))∧(((z12.same z12∧(SV.row sF l).same (SV.row sF l)∧z13.same z13∧z18.same z18∧z33.same z33∧z34.same z34∧z23.same z23∧z35.same z35∧z24.same z24∧(SV.row sF l).same (SV.row sF l)∧(SV.si .i64 z0).same z15∧z2.same (SV.si .i64 0)∧True)∧z8.same z8∧z36.same z36∧z37.same z37∧z17.same z17∧z40.same z40∧SObj.dead.same SObj.dead∧SObj.dead.same SObj.dead∧z44.same z44∧z46.same z46∧True)∧((0:Int)≤(0:Int)∧(0:Int)≤z14)∧((frE z45).fst,(frE z45).snd.fst,(frE z45).snd.snd)=frE (z45 - paidQ l z41 0))∧∀(x_3:Int×Fra),let z54:=x_3.fst.toNat;let z55:=decide (x_3.fst<z14);let z56:=decide (binK.andI .i64 (z41 / (2:Int)^z54) (1:Int)=(1:Int));let z57:=(x_3.snd.fst,x_3.snd.snd.fst,x_3.snd.snd.snd);let z58:=(nthD l z54 sF.dflt).snd;let z59:=((nthD l z54 sF.dflt).fst,z58.fst,z58.snd);let z60:=x_3.fst+(1:Int);let z61:=SV.si .i64 z60;let z62:=frE (valF z57 - valF z59);let z63:=SObj.cells [SV.sb z62.fst,SV.row z4 z62.snd.fst,SV.row z4 z62.snd.snd] 45 3 false;let z64:=frE (z45 - paidQ l z41 z60.toNat);let z65:=[SV.sb x_3.snd.fst,SV.row z4 x_3.snd.snd.fst,SV.row z4 x_3.snd.snd.snd];let z66:=SObj.cells z65 45 3 false;let z67:=decide (sgnQ (valF z57)≤(0:Int));let z68:=decide ((0:Int)<cmpQ (valF z57) (valF z53));((0:Int)≤x_3.fst∧x_3.fst≤z14)∧x_3.snd=frE (z45 - paidQ l z41 z54)→(z55=true→(0:Int)≤x_3.fst∧x_3.fst<z0∧z54<l.length∧(0:Int)≤x_3.fst∧x_3.fst≤(64:Int)∧(z56=true→(isF z57∧isF z59)∧inR .i64 z60∧((z12.same z12∧(SV.row sF l).same (SV.row sF l)∧z13.same z13∧z18.same z18∧z33.same z33∧z34.same z34∧z23.same z23∧z35.same z35∧z24.same z24∧(SV.row sF l).same (SV.row sF l)∧z15.same z15∧z61.same z61∧True)∧z8.same z8∧z36.same z36∧z37.same z37∧z17.same z17∧z40.same z40∧SObj.dead.same SObj.dead∧SObj.dead.same SObj.dead∧z44.same z44∧z63.same z63∧True)∧(((0:Int)≤z60∧z60≤z14)∧(z62.fst,z62.snd.fst,z62.snd.snd)=z64)∧(z14 - z60).toNat<(z14 - x_3.fst).toNat)∧(z56=false→inR .i64 z60∧((z12.same z12∧(SV.row sF l).same (SV.row sF l)∧z13.same z13∧z18.same z18∧z33.same z33∧z34.same z34∧z23.same z23∧z35.same z35∧z24.same z24∧(SV.row sF l).same (SV.row sF l)∧z15.same z15∧z61.same z61∧True)∧z8.same z8∧z36.same z36∧z37.same z37∧z17.same z17∧z40.same z40∧SObj.dead.same SObj.dead∧SObj.dead.same SObj.dead∧z44.same z44∧z66.same z66∧True)∧(((0:Int)≤z60∧z60≤z14)∧z57=z64)∧(z14 - z60).toNat<(z14 - x_3.fst).toNat))∧(z55=false→isF z57∧(z67=true→inR .i64 z47∧((z12.same z12∧(SV.row sF l).same (SV.row sF l)∧z13.same z13∧z18.same z18∧z33.same (SV.sb z48.fst)∧z49.same z49∧True)∧z8.same z8∧z36.same (SObj.map z7 z7 false (worM x.p z47.toNat x.wor) z9 true)∧z37.same z50∧z17.same z17∧z40.same z52∧SObj.dead.same SObj.dead∧SObj.dead.same SObj.dead∧True)∧((0:Int)≤z47∧z47≤z21)∧(z21 - z47).toNat<(z21 - x_2).toNat)∧(z67=false→((!z32.fst)=true→inR .i64 z47∧((z12.same z12∧(SV.row sF l).same (SV.row sF l)∧z13.same z13∧z18.same z18∧(SV.bl true).same (SV.sb z48.fst)∧z49.same z49∧True)∧z8.same z8∧z36.same (SObj.map z7 z7 false (worM x.p z47.toNat x.wor) z9 true)∧(SObj.map z7 SId.b false (setT z7 SId.b x_2 true z30) z9 true).same z50∧z17.same z17∧(SObj.cells (z34::z35::z42::z43::z65) 47 7 false).same z52∧SObj.dead.same SObj.dead∧SObj.dead.same SObj.dead∧True)∧((0:Int)≤z47∧z47≤z21)∧(z21 - z47).toNat<(z21 - x_2).toNat)∧((!z32.fst)=false→(isF z57∧isF z53)∧(z68=true→inR .i64 z47∧((z12.same z12∧(SV.row sF l).same (SV.row sF l)∧z13.same z13∧z18.same z18∧(SV.bl true).same (SV.sb z48.fst)∧z49.same z49∧True)∧z8.same z8∧z36.same (SObj.map z7 z7 false (worM x.p z47.toNat x.wor) z9 true)∧(SObj.map z7 SId.b false (setT z7 SId.b x_2 true z30) z9 true).same z50∧z17.same z17∧(SObj.cells (z34::z35::z42::z43::z65) 47 7 false).same z52∧SObj.dead.same SObj.dead∧SObj.dead.same SObj.dead∧True)∧((0:Int)≤z47∧z47≤z21)∧(z21 - z47).toNat<(z21 - x_2).toNat)∧(z68=false→inR .i64 z47∧((z12.same z12∧(SV.row sF l).same (SV.row sF l)∧z13.same z13∧z18.same z18∧z33.same (SV.sb z48.fst)∧z49.same z49∧True)∧z8.same z8∧z36.same (SObj.map z7 z7 false (worM x.p z47.toNat x.wor) z9 true)∧(SObj.map z7 SId.b false (setT z7 SId.b x_2 true z30) z9 true).same z50∧z17.same z17∧z40.same z52∧SObj.dead.same SObj.dead∧SObj.dead.same SObj.dead∧True)∧((0:Int)≤z47∧z47≤z21)∧(z21 - z47).toNat<(z21 - x_2).toNat)))))∧(decide (x_2<z22)=false→(SV.tup [SV.agg z39,z33,z2]).same z6∧z8.same z8∧(SObj.map z7 z7 false z29 z9 true).same z10∧z37.same z11∧True)))) (by kernel_rfl) ?_
 simp only[vcs]
 have hl:rawP l:=hl
 have hz:fndE x l≠0:=hz
 refine⟨fun h=>⟨rfl,by unfold fndE;rw[if_pos (by omega)]⟩,fun hln=>⟨⟨⟨by omega,by have:=hl.1;omega⟩,fun j hj=>by omega⟩,?_⟩⟩
 have hln:l.length=x.vals.length:=by omega
 rintro i ⟨⟨i0,i1⟩,hi⟩
 refine⟨fun hlt=>?_,fun hge=>?_⟩
 ·have hm:=nthD_mem (d:=sF.dflt) (show i.toNat<l.length by omega)
  obtain⟨⟨d1,d2⟩,d3,d4⟩:=hl.2 _ hm
  have hb:=hl.1
  refine⟨i0,hlt,by omega,⟨⟨d1,d2⟩,by omega,by omega⟩,fun h=>⟨rfl,?_⟩,fun ho=>⟨⟨by omega,by omega⟩,⟨⟨by omega,by omega⟩,fun j hj=>?_⟩,by omega⟩⟩
  ·have hn:okPay l=false:=by
    rw[Bool.eq_false_iff]
    intro hk
    exact absurd ((List.all_eq_true.1 hk _ hm).symm.trans h) (by decide)
   unfold fndE
   rw[if_neg (by omega),if_pos hn]
  ·by_cases hji:(j:Int)<i
   ·exact hi j hji
   ·rw[show j=i.toNat by omega];exact ho
 ·exfalso
  apply hz
  unfold fndE
  rw[if_neg (by omega),if_neg]
  rw[Bool.not_eq_false]
  unfold okPay
  rw[List.all_eq_true]
  intro y hy
  obtain⟨j,hj2,rfl⟩:=List.getElem_of_mem hy
  have:=hi j (by omega)
  rwa [nthD_eq hj2] at this
section
variable {p:Prob} {f t:List Int}
end
section
variable {p:Prob} {m:Int}
end
end Go.Vi
namespace Go.Proofs
open Go.RowKit Go.Maps Go.ChangeShapes Go.Sort Go.Shelf Go.Lib
theorem coa_info:(Try.prog.info? 39).map (fun i=>(i.zero,i.size,i.bytes))=some (some (.agg #[.int .i64 0,.int .i64 0]),2,16):=by kernel_rfl
theorem coa_z64 (w:World):(zeroValue 2).run Try.prog w= .ok (.int .i64 0) w:=by kernel_rfl
theorem coa_law:Keyed Try.prog 3:=int_keyed Try.underlying3
def encC (wf:Nat→Int) (x:Fin 256):List Value:=[.int .i64 (x.val:Int),.int .i64 (wf x.val)]
theorem coa_cmp (a b u v:Int) (h0:0≤a) (h1:a<256) (g0:0≤b) (g1:b<256) (W:World):
  Calls Try.prog 42 #[.agg #[.int .i64 a,.int .i64 u],.agg #[.int .i64 b,.int .i64 v]] W fun e w'=>e= .returned (.int .i64 (a - b))∧∃q os',w'=grow (W.drewN q) os':=by
 go_enter Try.func42,Try.ntmps42
 go_wp2
 go_ret
 exact⟨rfl,0,_,by rw[alloc_eq_grow,alloc_eq_grow,grow_grow];rfl⟩
theorem cell_two (w:World) (a b:Value) (t:TypeId):∀j u,[a,b][j]?=some u→(w.alloc (.cells #[a,b] t)).cell? ((⟨w.heap.size,0,none⟩:Addr).add j)=some u:=by
 intro j u hj
 have hh:(w.alloc (.cells #[a,b] t)).heap[w.heap.size]?=some (.cells #[a,b] t (0,0)):=heap_alloc_new w _
 rw[Addr.add_lit]
 simp only[World.cell?,hh,Nat.zero_add,Option.isSome_none,Bool.false_eq_true,if_false]
 match j,hj with
 |0,hj=>simpa using hj
 |1,hj=>simpa using hj
 |j+2,hj=>simp at hj
structure Seen (D:DataW Unit) (ks:List Nat) (left:Lit→Bool) (cnt:Nat) (hs:List (Fin 256)):Prop where
 d:hs.Nodup
 i:∀x∈hs,x.val∈ks∧left (.int .i64 (x.val:Int))=false
 a:∀m∈ks,left (.int .i64 (m:Int))=false→∃x∈hs,x.val=m
 c:hs.length+cnt≤256
 h:∀kl,left kl=true→Maps.has D kl=true
theorem Seen.step {D:DataW Unit} {ks:List Nat} {left:Lit→Bool} {cnt:Nat} {hs:List (Fin 256)} (h:Seen D ks left cnt hs) {x:Fin 256} (hx:x.val∈ks) (hl:left (.int .i64 (x.val:Int))=true) {cnt':Nat} (hc:cnt'<cnt):
  Seen D ks (fun z=>left z&&!z.sameKey (.int .i64 (x.val:Int))) cnt' (hs++[x]):=by
 have hsk:∀m:Nat,(Lit.int .i64 (m:Int)).sameKey (.int .i64 (x.val:Int))=decide (m=x.val):=fun m=>by
  simp[Lit.sameKey]
  omega
 refine⟨?_,?_,?_,?_,?_⟩
 ·rw[List.nodup_append]
  refine⟨h.d,by simp,?_⟩
  intro a ha b hb hab
  simp at hb
  subst hb
  subst hab
  rw[(h.i _ ha).2] at hl
  cases hl
 ·intro y hy
  rcases List.mem_append.1 hy with hy|hy
  ·refine⟨(h.i y hy).1,?_⟩
   rw[(h.i y hy).2]
   rfl
  ·simp at hy
   subst hy
   refine⟨hx,?_⟩
   rw[hsk,hl]
   simp
 ·intro m hm hlm
  rw[hsk] at hlm
  by_cases he:m=x.val
  ·exact⟨x,by simp,he.symm⟩
  ·rw[decide_eq_false he] at hlm
   simp at hlm
   obtain⟨y,hy,hv⟩:=h.a m hm hlm
   exact⟨y,by simp[hy],hv⟩
 ·have:=h.c
  simp
  omega
 ·intro kl hk
  simp only[Bool.and_eq_true] at hk
  exact h.h kl hk.1
theorem holdsV {w:World} {g:Nat} {cur:Array Value} {e:TypeId} {vs:Array Value} (hb:w.heap[g]?=some (.cells cur e (0,0))) (ht:cur.toList.take vs.size=vs.toList):Sort.Holds id w g 0 vs:=by
 intro j hj
 refine⟨?_,by simp[World.frozen?,hb]⟩
 have h1:(cur.toList.take vs.size)[j]?=vs.toList[j]?:=by rw[ht]
 rw[List.getElem?_take_of_lt hj] at h1
 simp only[World.cell?,hb,Nat.zero_add]
 simp only[Option.isSome_none,Bool.false_eq_true,if_false]
 rw[←Array.getElem?_toList,h1]
 simp[hj]
theorem heap_sortedV {w:World} {g n:Nat} {os:Array Obj} {cur:Array Value} {e:TypeId} {fr:Nat×Nat} (d:Array Value) (hb:w.heap[g]?=some (.cells cur e fr)):
  (grow (putRow id (Sort.ahead w n) g 0 d) os).heap[g]?=some (.cells (putCells id 0 d cur) e fr):=by
 have hg:g<w.heap.size:=(Array.getElem?_eq_some_iff.1 hb).1
 rw[heap_grow_old _ _ (by simpa using hg)]
 simp[putRow,mapBlock,Sort.ahead,Array.getElem?_modify,hb,onCells]
theorem grownBy_sortedV {w:World} {g n:Nat} {os:Array Obj} (d:Array Value):w.grownBy (grow (putRow id (Sort.ahead w n) g 0 d) os) (some g):=by
 refine⟨rfl,rfl,rfl,by simp,fun k hk hne=>?_⟩
 rw[heap_grow_old _ _ (by simpa using hk)]
 have:g≠k:=fun e=>hne (by rw[e])
 simp[putRow,mapBlock,Sort.ahead,Array.getElem?_modify,this]
theorem take_putCellsV (cur d:Array Value) (h:d.size≤cur.size):(putCells id 0 d cur).toList.take d.size=d.toList:=by
 apply List.ext_getElem?
 intro j
 by_cases hj:j<d.size
 ·rw[List.getElem?_take_of_lt hj,Array.getElem?_toList]
  simp[putCells,hj,show j<cur.size by omega]
 ·rw[List.getElem?_take_eq_none (by omega),List.getElem?_eq_none (by simp;omega)]
theorem flat_len (wf:Nat→Int):∀hs:List (Fin 256),(hs.flatMap (encC wf)).length=hs.length*2
 |[]=>rfl
 |x::hs=>by rw[List.flatMap_cons,List.length_append,flat_len wf hs];simp[encC];omega
theorem flat_get (wf:Nat→Int):∀(hs:List (Fin 256)) (t:Nat),t<hs.length*2→(hs.flatMap (encC wf))[t]?=some ((encC wf hs[t / 2]!)[t % 2]!)
 |[],t,h=>by simp at h
 |x::hs,0,h=>by simp[encC]
 |x::hs,1,h=>by simp[encC]
 |x::hs,t+2,h=>by
  have ih:=flat_get wf hs t (by simp at h;omega)
  have e1:(t+2) / 2=t / 2+1:=by omega
  have e2:(t+2) % 2=t % 2:=by omega
  rw[e1,e2,List.flatMap_cons]
  simp only[encC,List.cons_append,List.nil_append,List.getElem?_cons_succ]
  simp only[encC] at ih
  rw[ih]
  simp
theorem flatK_list (wf:Nat→Int) (hs:List (Fin 256)):(flatK (encC wf) 2 hs.toArray).toList=hs.flatMap (encC wf):=by
 apply List.ext_getElem?
 intro t
 by_cases ht:t<hs.length*2
 ·rw[flat_get wf hs t ht]
  simp[flatK,ht]
 ·rw[List.getElem?_eq_none (by simp[flatK];omega),List.getElem?_eq_none (by rw[flat_len];omega)]
def cfC (x y:Fin 256):Int:=(x.val:Int) - (y.val:Int)
theorem cfC_lt (x y:Fin 256):ltOf cfC x y=decide (x.val<y.val):=by
 unfold ltOf cfC
 by_cases h:x.val<y.val
 ·rw[decide_eq_true h,decide_eq_true (by omega)]
 ·rw[decide_eq_false h,decide_eq_false (by omega)]
theorem cfC_swo:SWO (ltOf cfC) where
 irrefl x:=by rw[cfC_lt];simp
 trans x y z h1 h2:=by rw[cfC_lt] at*;simp at*;omega
 ntrans x y z h1 h2:=by rw[cfC_lt] at*;simp at*;omega
theorem cfC_lays (wf:Nat→Int) (blk off size:Nat) (w:World):CmpLays Try.prog 42 #[] (encC wf) 2 cfC blk off size w:=
 fun _ _ _ _ x y=>coa_cmp _ _ _ _ (by omega) (by have:=x.isLt;omega) (by omega) (by have:=y.isLt;omega) _
def ConRow (w':World) (B:Nat) (wf:Nat→Int) (ks:List Nat) (e:Ending):Prop:=
 (e= .returned (.slice none 0 0)∧ks=[])∨∃(g cap:Nat) (cur:Array Value) (ts:List (Fin 256)),e= .returned (.slice (some ⟨g,0,none⟩) ts.length cap)∧B≤g∧w'.heap[g]?=some (.cells cur 39 (0,0))∧ts.length≤cap∧cap≤maxLen∧
  cur.size=cap*2∧cur.toList.take (ts.length*2)=ts.flatMap (encC wf)∧ts.Nodup∧(∀m,(∃x∈ts,x.val=m)↔m∈ks)∧ts.Pairwise fun x y=>x.val≤y.val
theorem cons_walk (w:World) (b0 b1 b2:Nat) (arr:Array Value) (hb0:w.heap[b0]?=some (.cells arr 75 (0,0))) (h22:arr[22]?=some (.map (some b1))) (h23:arr[23]?=some (.map (some b2)))
  (n1 n2:Nat) (hn2:n2≤256) (D1 D2:DataW Unit) (hm1:w.ownsMap Try.prog 3 (plainElem Try.prog 2) b1 n1 D1) (hm2:w.ownsMap Try.prog 3 (plainElem Try.prog 4) b2 n2 D2)
  (wf:Nat→Int) (hwf:∀m:Nat,m<256→D1.atKey (.int .i64 m) (.lit (.int .i64 0))= .lit (.int .i64 (wf m)))
  (ks:List Nat) (hk:ks.Nodup) (hkb:∀m∈ks,m<256) (hh:∀kl,Maps.has D2 kl=true↔∃m∈ks,kl= .int .i64 (m:Int)):
  Calls Try.prog 17 #[.pointer (some ⟨b0,0,none⟩)] w fun e w'=>Below w.heap.size w w'∧ConRow w' w.heap.size wf ks e:=by
 have hbl:b0<w.heap.size:=(Array.getElem?_eq_some_iff.1 hb0).1
 have c22:w.cell? ⟨b0,22,none⟩=some (.map (some b1)):=by simp only[World.cell?,hb0];simpa using h22
 have c23:w.cell? ⟨b0,23,none⟩=some (.map (some b2)):=by simp only[World.cell?,hb0];simpa using h23
 obtain⟨i0,hi,hz0,hz1,hz2⟩:=info_parts coa_info
 have hb1:=hm1.lt
 have hb2:=hm2.lt
 go_enter Try.func17,Try.ntmps17
 go_wp2_with (first
  |(at_range;refine wpList_range_own _ rfl _ 73 rfl 3 4 coa_law Try.underlying73 _ b2 n2 _ rfl hm2 ?_;intro w5 hrg0 hg0 hs0)
  |go_in)
 go_frame
 go_loopw [3] (fun u ws=>∃(left:Lit→Bool) (cnt:Nat) (hs:List (Fin 256)),ws.ranges Try.prog 3 (plainElem Try.prog 4) b2 w.heap.size n2 D2 left cnt∧
   ws.ownsRow (w.heap.size+1) 39 2 u hs.length (hs.flatMap (encC wf))∧Seen D2 ks left cnt hs∧w.heap.size+1≤ws.heap.size∧Below w.heap.size w ws)
  (fun _ ws=>ws.rangeLeft b2 w.heap.size)
 case atStart=>
  refine⟨Maps.has D2,Maps.size D2,[],hrg0,⟨by simp,.inl ⟨rfl,rfl⟩⟩,⟨List.nodup_nil,by simp,?_,?_,fun _ h=>h⟩,by omega,(Below.refl _ w).grown hg0 (Nat.le_refl _) (by intro k hk;cases hk)⟩
  ·intro m hm hl
   rw[(hh _).2 ⟨m,hm,rfl⟩] at hl
   cases hl
  ·have:=hm2.size_le
   simp
   omega
 case round=>
  obtain⟨left,cnt,hs,hrg,hrow,hse,hsz,hbe⟩:=hrel
  go_wp2_with (first
   |(at_next;refine wpList_next_ranges _ rfl _ rfl 3 coa_law (plainElem Try.prog 4) (Value.int .i64) (fun c:Nat=>Value.bool (Nat.beq c 1)) (fun key kl hkey=>by obtain⟨x,rfl,_⟩:=Maps.keyOf_int_inv Try.underlying3 hkey;exact⟨x,rfl⟩) (fun v y hv=>by
     unfold plainElem at hv
     rw[Try.underlying4] at hv
     cases v<;>simp at hv
     rename_i q
     cases q
     ·exact⟨0,rfl⟩
     ·exact⟨1,rfl⟩) b2 w.heap.size n2 _ _ _ rfl hrg ?_ ?_)
   |go_in)
  ·intro hc0 hl0
   have eg:∀args w,(callFunc 42 args).run Try.prog w= .ok (.enter 42 args) w:=enters_of Try.func42 (by kernel_rfl) rfl
   have hmem:∀m,(∃x∈hs,x.val=m)↔m∈ks:=fun m=>⟨fun⟨x,hx,e⟩=>e▸(hse.i x hx).1,fun hm=>hse.a m hm (hl0 _)⟩
   rcases hrow.2 with⟨rfl,hn⟩|⟨g,cap,cur,rfl,hgb,hgg,g1,g2,g3,g4⟩
   ·have hcal:=AnyF.slices_SortFunc_none Try.layQ none 0 (.func (.func 42) #[] #[]) wr
    change Calls Try.prog 41 _ _ _ at hcal
    go_wp2_with (go_at_call 41;refine hcal.mono ?_;rintro e w' ⟨rfl,rfl⟩)
    go_ret
    refine⟨hbe,.inl ⟨rfl,?_⟩⟩
    rw[List.eq_nil_iff_forall_not_mem]
    intro m hm
    obtain⟨x,hx,_⟩:=(hmem m).2 hm
    rw[List.eq_nil_of_length_eq_zero hn] at hx
    simp at hx
   ·have hcal:=AnyQ.slices_SortFunc_total Try.layQ 2 (by intro w;kernel_rfl) (by intro w;kernel_rfl) (encC wf) (fun _=>rfl) (fun x v hv=>by simp[encC] at hv;rcases hv with rfl|rfl<;>rfl) cfC cfC_swo 42 #[] g 0 cap hs.toArray wr eg (cfC_lays wf g 0 _ wr)
     (holdsV hgg (by rw[flatK_list,size_flatK];simpa using g4)) (Array.getElem?_eq_some_iff.1 hgg).1 (by have:=hse.c;simp;omega) (fun x y h1 h2=>by rw[cfC_lt] at h1 h2;simp at h1 h2;exact Fin.ext (by omega))
    change Calls Try.prog 41 _ _ _ at hcal
    simp only[List.size_toArray] at hcal
    go_wp2_with (go_at_call 41;refine hcal.mono ?_;rintro e w' ⟨rfl,n,os,rfl⟩)
    go_ret
    have hpm:=List.mergeSort_perm hs fun x y=>!ltOf cfC y x
    have hso:(hs.mergeSort fun x y=>!ltOf cfC y x).Pairwise fun x y=>x.val≤y.val:=by
     have h:=List.pairwise_mergeSort (le:=fun x y=>!ltOf cfC y x) (fun x y z h1 h2=>by simp only[cfC_lt] at*;simp at*;omega) (fun x y=>by simp only[cfC_lt];simp;omega) hs
     exact h.imp fun {x y} h=>by simp only[cfC_lt] at h;simp at h;omega
    generalize (hs.mergeSort fun x y=>!ltOf cfC y x)=ts at hpm hso ⊢
    have hlen:ts.length=hs.length:=hpm.length_eq
    have hsz2:(flatK (encC wf) 2 ts.toArray).size=ts.length*2:=by simp
    have hcap:hs.length≤cap:=g1
    refine⟨hbe.grown (grownBy_sortedV (flatK (encC wf) 2 ts.toArray)) hbe.size (by intro k hk;injection hk with hk;omega),.inr ⟨g,cap,_,ts,by rw[hlen];rfl,by omega,heap_sortedV _ hgg,by omega,g2,by simp[putCells,g3],?_,hpm.nodup_iff.2 hse.d,fun m=>?_,hso⟩⟩
    ·rw[←hsz2,take_putCellsV _ _ (by rw[hsz2];omega),flatK_list]
    ·rw[←hmem m]
     exact⟨fun⟨x,hx,e⟩=>⟨x,hpm.mem_iff.1 hx,e⟩,fun⟨x,hx,e⟩=>⟨x,hpm.mem_iff.2 hx,e⟩⟩
  ·intro x c kl yd yp w6 cnt1 hkx hlx hRc hat hrg1 hlt hg1 hs1 hen
   obtain⟨_,e1,rfl,hwx⟩:=Maps.keyOf_int_inv Try.underlying3 hkx
   cases e1
   obtain⟨m,hm,em⟩:=(hh _).1 (hse.h _ hlx)
   injection em with _ em
   subst em
   have hm256:=hkb m hm
   have hrow1:=hrow.kept hg1 (by
    rcases hrow.2 with⟨rfl,_⟩|⟨g,cap,cur,rfl,hgb,_⟩
    ·exact .inl rfl
    ·right
     simp[Value.ownBlock]
     omega)
   have hbe1:Below w.heap.size w w6:=hbe.grown hg1 hbe.size (by intro k hk;injection hk with hk;omega)
   have hc22:w6.cell? ⟨b0,22,none⟩=some (.map (some b1)):=(hbe1.cell hbl).trans c22
   have hmw:w6.ownsMap Try.prog 3 (plainElem Try.prog 2) b1 n1 D1:=by
    obtain⟨es,cl,q1,q2⟩:=hm1
    exact⟨es,cl,(hbe1.block b1 hb1).trans q1,q2⟩
   have hcc:=hse.c
   go_wp2_with (first
    |(at_lookup;refine wpList_lookup_own_int _ rfl _ _ 72 rfl 3 2 .i64 coa_law Try.underlying72 Try.underlying2 (coa_z64 _) b1 n1 _ rfl hmw _ _ rfl (keyOf_int_mk Try.underlying3 hwx) ?_;intro cv hatc hwc)
    |(at_builtin;refine wpList_append_own _ rfl _ _ 64 rfl (w.heap.size+1) 39 i0 _ 2 16 Try.underlying64 hi hz0 hz1 hz2 rfl (by decide) _ _ _ rfl (hrow1.alloc _) ⟨wr.heap.size,0,none⟩ 1 1 [Value.int .i64 m,Value.int .i64 cv] rfl rfl (by rw[←hs1];exact cell_two _ _ _ _) (by simp[Value.oneCell']) (by unfold maxLen;omega) (by omega) (by simp;omega) ?_;intro v' w7 hrow7 hgrow7 hnil7)
    |go_in)
   have hg7:(w6.alloc (Obj.cells #[Value.int .i64 m,Value.int .i64 cv] 39)).grownBy w7 u3.ownBlock:=hgrow7
   have hrw:some b2≠u3.ownBlock∧some w.heap.size≠u3.ownBlock:=by
    rcases hrow.2 with⟨rfl,_⟩|⟨g,cap,cur,rfl,hgb,_⟩
    ·exact⟨by simp[Value.ownBlock],by simp[Value.ownBlock]⟩
    ·exact⟨by simp[Value.ownBlock];omega,by simp[Value.ownBlock];omega⟩
   have hrg7:=(hrg1.alloc (Obj.cells #[Value.int .i64 m,Value.int .i64 cv] 39)).kept hg7 hrw.1 hrw.2
   have hcv:cv=wf m:=by
    have h:=(hwf m hm256).symm.trans hatc
    injection h with h
    injection h with _ h
    exact h.symm
   subst hcv
   have hsz7:=hg7.size
   have hsa:(w6.alloc (Obj.cells #[Value.int .i64 m,Value.int .i64 (wf m)] 39)).heap.size=w6.heap.size+1:=by simp
   have hbs:=hbe.size
   refine⟨⟨_,cnt1,hs++[⟨m,hm256⟩],hrg7,?_,hse.step (x:=⟨m,hm256⟩) hm hlx hlt,by omega,(hbe1.alloc (by omega) _).grown hg7 (by omega) ?_⟩,?_⟩
   ·rw[List.length_append,List.flatMap_append]
    exact hrow7
   ·intro k hk
    rcases hrow.2 with⟨rfl,_⟩|⟨g,cap,cur,rfl,hgb,_⟩
    ·cases hk
    ·simp[Value.ownBlock] at hk;omega
   ·rw[hrg7.left_eq,hrg.left_eq]
    exact hlt
end Go.Proofs
namespace Go.Vi
open Go.Proofs.Ytddpfdamlefbgaa.Ir
open Go.Proofs Go.RowKit Go.Maps Go.ChangeShapes Go.WideShapes
open Go.WideElems (Fit rd rg pl rd_key rd_val rg_of rd_mk)
theorem map_fit {w:World} {e:TypeId} {V:Type} {gv:V→Value} {gl:V→Lit} {es:List (Int×V)} {b cl:Nat} {en:Array MapEntry} (he:∀p∈es,plainElem (H:=Unit) Try.prog e (gv p.2)=some (.lit (gl p.2),[]))
  (hb:w.heap[b]?=some (.map en cl)) (hsz:en.size=es.length) (hst:Go.MapKept.Stamped en cl) (hlen:es.length≤1000)
  (hen:∀(j:Nat) (p:Int×V),es[j]?=some p→∃m:MapEntry,en[j]?=some m∧m.key= .int .i64 p.1∧m.val=gv p.2) (hk:∀p∈es,0≤p.1∧p.1<256):
  ∃D:DataW Unit,w.ownsMap Try.prog 3 (plainElem Try.prog e) b es.length D∧(∀kl,Maps.has D kl=true↔∃p∈es,kl= .int .i64 p.1)∧
   ∀(k:Int) zd,0≤k→k<256→(∃v,(k,v)∈es∧D.atKey (.int .i64 k) zd= .lit (gl v))∨((∀p∈es,p.1≠k)∧D.atKey (.int .i64 k) zd=zd):=by
 have hwf:∀k:Int,0≤k→k<256→keyOf Try.prog 3 (.int .i64 k)=some (.int .i64 k):=fun k h0 h1=>keyOf_int_mk Try.underlying3 (WalkArith.wf_i64 (by omega))
 have hrd:∀x∈en.toList,∃p∈es,x.key= .int .i64 p.1∧x.val=gv p.2∧rd Try.prog 3 (plainElem (H:=Unit) Try.prog e) x=some (.int .i64 p.1,.lit (gl p.2)):=by
  intro x hx
  obtain⟨j,hj⟩:=List.getElem?_of_mem hx
  rw[Array.getElem?_toList] at hj
  have hjl:j<es.length:=by have:=(Array.getElem?_eq_some_iff.1 hj).1;omega
  obtain⟨m,hm,h1,h2⟩:=hen j es[j] (List.getElem?_eq_getElem hjl)
  rw[hm] at hj
  injection hj with hj
  subst hj
  have hp:=List.getElem_mem hjl
  refine⟨_,hp,h1,h2,?_⟩
  obtain⟨k0,k1⟩:=hk _ hp
  obtain⟨mk,mv,mb⟩:=m
  simp only at h1 h2
  subst h1;subst h2
  exact rd_mk (hwf _ k0 k1) (he _ hp)
 have hF:Fit Try.prog 3 (plainElem (H:=Unit) Try.prog e) en cl:=⟨by have:maxLen=9223372036854775807:=rfl;omega,hst,fun x hx=>by obtain⟨p,_,_,_,h⟩:=hrd x hx;exact⟨_,h⟩⟩
 have hmem:∀p∈es,∃x∈en.toList,x.key= .int .i64 p.1∧x.val=gv p.2:=by
  intro p hp
  obtain⟨j,hj⟩:=List.getElem?_of_mem hp
  obtain⟨m,hm,h1,h2⟩:=hen j p hj
  exact⟨m,List.mem_of_getElem? (by rw[Array.getElem?_toList];exact hm),h1,h2⟩
 refine⟨_,⟨en,cl,hb,hF,by omega,rfl⟩,fun kl=>?_,fun k zd k0 k1=>?_⟩
 ·rw[Maps.has_eq,List.any_eq_true]
  constructor
  ·rintro⟨p,hp,hpk⟩
   obtain⟨x,hx,rfl⟩:=List.mem_map.1 (mem_sorted.1 hp)
   obtain⟨q,hq,_,_,hr⟩:=hrd x hx
   rw[rg_of hr] at hpk
   exact⟨q,hq,(WideAt.sameKey_eq hpk).symm⟩
  ·rintro⟨p,hp,rfl⟩
   obtain⟨x,hx,h1,_⟩:=hmem p hp
   obtain⟨q,hq,h3,_,hr⟩:=hrd x hx
   refine⟨rg Try.prog 3 (plainElem (H:=Unit) Try.prog e) x,mem_sorted.2 (List.mem_map.2 ⟨x,hx,rfl⟩),?_⟩
   rw[rg_of hr]
   rw[h1] at h3
   injection h3 with _ h3
   rw[h3]
   simp[Lit.sameKey]
 ·have hz:(zeroValue 2).run Try.prog w= .ok (.int .i64 0) w:=coa_z64 w
  have hat:=atKey_sorted (en.toList.map (rg Try.prog 3 (plainElem (H:=Unit) Try.prog e))) (fit_rising coa_law hF) (.int .i64 k) (coa_law.key (hwf k k0 k1))
  by_cases hex:∃p∈es,p.1=k
  ·left
   obtain⟨p,hp,rfl⟩:=hex
   obtain⟨x,hx,h1,h2⟩:=hmem p hp
   obtain⟨q,hq,h3,h4,hr⟩:=hrd x hx
   have e1:p.1=q.1:=by rw[h1] at h3;injection h3
   refine⟨q.2,by rw[e1];exact hq,?_⟩
   have:=hat.2 (rg Try.prog 3 (plainElem (H:=Unit) Try.prog e) x) (List.mem_map.2 ⟨x,hx,rfl⟩) (by rw[rg_of hr,e1])
   rw[rg_of hr] at this
   exact this zd
  ·right
   refine⟨fun p hp he=>hex ⟨p,hp,he⟩,hat.1 (fun p hp e1=>?_) zd⟩
   obtain⟨x,hx,rfl⟩:=List.mem_map.1 hp
   obtain⟨q,hq,_,_,hr⟩:=hrd x hx
   rw[rg_of hr] at e1
   injection e1 with _ e1
   exact hex ⟨q,hq,e1⟩
def wfF (x:FnF) (m:Nat):Int:=(findT (.i .i64) (.i .i64) (m:Int) x.wor).getD 0
def conS (x:FnF):List Need:=(sortI (x.seen.map (·.1))).map fun m=>⟨m,wfF x m.toNat⟩
structure seenOk (x:FnF):Prop where
 n:(x.seen.map (·.1)).Nodup
 u:(x.wor.map (·.1)).Nodup
 s:x.seen.length≤256
 w:x.wor.length≤256
 a:∀e∈x.seen,0≤e.1∧e.1<256
 b:∀e∈x.wor,(0≤e.1∧e.1<256)∧0≤e.2∧e.2≤1000000000000000
theorem find_mem1 {es:List (Int×Int)} (hn:(es.map (·.1)).Nodup) {k v:Int} (h:(k,v)∈es):findT (.i .i64) (.i .i64) k es=some v:=by
 induction es with
 |nil=>simp at h
 |cons p es ih=>
  simp only[List.map_cons,List.nodup_cons] at hn
  unfold findT
  rcases List.mem_cons.1 h with rfl|h2
  ·simp
  ·have hne:p.1≠k:=fun e=>hn.1 (by rw[e];exact List.mem_map.2 ⟨_,h2,rfl⟩)
   rw[List.find?_cons_of_neg (by simpa using hne)]
   exact ih hn.2 h2
theorem find_none1 {es:List (Int×Int)} {k:Int} (h:∀p∈es,p.1≠k):findT (.i .i64) (.i .i64) k es=none:=by
 unfold findT
 rw[Option.map_eq_none_iff,List.find?_eq_none]
 intro p hp
 simpa using h p hp
theorem con_sort {hs:List Int} {ts:List (Fin 256)} (hn:hs.Nodup) (ht:ts.Nodup) (hm:∀m,(∃x∈ts,x.val=m)↔m∈hs.map (·.toNat)) (hp:ts.Pairwise fun x y=>x.val≤y.val) (h0:∀m∈hs,0≤m):
  ts.map (fun x=>(x.val:Int))=sortI hs:=by
 have h1:(ts.map fun x=>(x.val:Int)).Pairwise (·≤·):=by
  rw[List.pairwise_map]
  exact hp.imp fun h=>by omega
 have h2:(sortI hs).Pairwise (·≤·):=(List.pairwise_mergeSort (le:=fun x y:Int=>decide (x≤y)) (fun a b c=>by simp;omega) (fun a b=>by simp;omega) hs).imp fun h=>by simpa using h
 have hperm:(ts.map fun x=>(x.val:Int)).Perm hs:=by
  refine(List.perm_ext_iff_of_nodup ?_ hn).2 fun m=>?_
  ·unfold List.Nodup at ht ⊢
   rw[List.pairwise_map]
   exact ht.imp fun h he=>h (Fin.ext (by omega))
  ·rw[List.mem_map]
   constructor
   ·rintro⟨x,hx,rfl⟩
    obtain⟨k,hk,he⟩:=List.mem_map.1 ((hm x.val).1 ⟨x,hx,rfl⟩)
    have:=h0 k hk
    rw[show(x.val:Int)=k by omega]
    exact hk
   ·intro h
    obtain⟨x,hx,he⟩:=(hm m.toNat).2 (List.mem_map.2 ⟨m,h,rfl⟩)
    have:=h0 m h
    exact⟨x,hx,by omega⟩
 exact List.Perm.eq_of_pairwise (le:=fun x y:Int=>x≤y) (fun a b _ _ h h'=>by omega) h1 h2 (hperm.trans (List.mergeSort_perm _ _).symm)
def r517:OCtr:=finCtr 17 Unit .nil (fun x _=>seenOk x) (fun x _=> .row .need (conS x)) (fun x _=>x)
theorem h517:HoldsO Try.prog r517:=by
 rintro⟨x,⟨⟩⟩ hd
 have hd:seenOk x:=hd
 refine⟨by kernel_rfl,?_⟩
 intro A w σ vs hS hR
 replace hS:SimO A w σ (gO x.sto):=hS
 replace hR:RepL A w σ (gO x.sto) [.ptr 0 0 24] vs:=hR
 show Calls _ _ _ _ fun e w'=>∃u σ',e= .returned u∧SimO A w' σ' (gO x.sto)∧Rep A w' σ' (gO x.sto) (.sl (conS x).length (flatA .need (conS x))) u∧Ext w σ (gO x.sto) w' σ' (gO x.sto)
 simp only[RepL] at hR
 obtain⟨v,r,rfl,hv,rfl⟩:=hR
 have o0:(gO x.sto)[0]?=some (.cells (gL (x.p.ss++x.cs)) 75 24 false):=rfl
 have o1:(gO x.sto)[1]?=some (.map (x.wor.map fun p=>(keyV (.i .i64) false p.1,valA (.i .i64) p.2)) ([0],false) true):=rfl
 have o2:(gO x.sto)[2]?=some (.map (x.seen.map fun p=>(keyV (.i .i64) false p.1,valA .b p.2)) ([0],false) true):=rfl
 simp only[Rep] at hv
 obtain⟨_,_,hcu⟩:=hv
 obtain⟨b0,c0,hσ0,rfl⟩:=hcu 24 ⟨_,_,_,o0,by rw[gL_len];rfl⟩
 have h0:=hS.obj 0 _ o0
 have h1:=hS.obj 1 _ o1
 have h2:=hS.obj 2 _ o2
 simp only[ObjOK] at h0 h1 h2
 obtain⟨_,_,h0⟩:=h0
 rcases h0 with⟨hz,_⟩|⟨b0',cap0,arr,hz,_,hb0,_,_,hcel⟩
 ·rw[hσ0] at hz;cases hz
 rw[hσ0] at hz
 injection hz with hz;injection hz with hz;injection hz with hz1 hz2
 subst hz1
 obtain⟨_,_,b1,c1,en1,cl1,hσ1,hb1,⟨hs1,hst1⟩,hen1⟩:=h1
 obtain⟨_,_,b2,c2,en2,cl2,hσ2,hb2,⟨hs2,hst2⟩,hen2⟩:=h2
 obtain⟨v22,a22,r22⟩:=hcel 22 (.mp 1) rfl
 obtain⟨v23,a23,r23⟩:=hcel 23 (.mp 2) rfl
 simp only[Rep] at r22 r23
 obtain⟨_,b1',c1',q1,rfl⟩:=r22
 obtain⟨_,b2',c2',q2,rfl⟩:=r23
 rw[hσ1] at q1
 rw[hσ2] at q2
 injection q1 with q1;injection q1 with q1;injection q1 with q1 _
 injection q2 with q2;injection q2 with q2;injection q2 with q2 _
 subst q1;subst q2
 obtain⟨D1,hm1,hh1,ha1⟩:=map_fit (e:=2) (gv:=Value.int .i64) (gl:=Lit.int .i64) (es:=x.wor) (fun p hp=>plainElem_int Try.underlying2 (WalkArith.wf_i64 (by have:=(hd.b p hp).2;omega))) hb1 (by simpa using hs1) hst1 (by have:=hd.w;omega)
  (fun j p hj=>by
   obtain⟨m,hm,hk,hr⟩:=hen1 j (keyV (.i .i64) false p.1,valA (.i .i64) p.2) (by rw[List.getElem?_map,hj];rfl)
   simp only[valA,encV,Rep,List.headD_cons] at hr
   exact⟨m,hm,hk,hr.1⟩) (fun p hp=>(hd.b p hp).1)
 obtain⟨D2,hm2,hh2,ha2⟩:=map_fit (e:=4) (gv:=Value.bool) (gl:=Lit.bool) (es:=x.seen) (fun p hp=>plainElem_bool Try.underlying4 _) hb2 (by simpa using hs2) hst2 (by have:=hd.s;omega)
  (fun j p hj=>by
   obtain⟨m,hm,hk,hr⟩:=hen2 j (keyV (.i .i64) false p.1,valA .b p.2) (by rw[List.getElem?_map,hj];rfl)
   simp only[valA,encV,Rep,List.headD_cons] at hr
   exact⟨m,hm,hk,hr.1⟩) (fun p hp=>hd.a p hp)
 have hwl:=cons_walk w b0 b1 b2 arr hb0 a22 a23 x.wor.length x.seen.length hd.s D1 D2 hm1 hm2 (wfF x)
  (fun m hm=>by
   unfold wfF
   rcases ha1 (m:Int) (.lit (.int .i64 0)) (by omega) (by omega) with⟨v,hv,h⟩|⟨hv,h⟩
   ·rw[h,find_mem1 hd.u hv];rfl
   ·rw[h,find_none1 hv];rfl)
  (x.seen.map fun p=>p.1.toNat)
  (by
   have hn:=hd.n
   unfold List.Nodup at hn ⊢
   rw[List.pairwise_map] at hn ⊢
   exact List.Pairwise.imp_of_mem (fun {a b} ha hb h he=>h (by have:=hd.a a ha;have:=hd.a b hb;omega)) hn)
  (fun m hm=>by obtain⟨p,hp,rfl⟩:=List.mem_map.1 hm;have:=hd.a p hp;omega)
  (fun kl=>by
   rw[hh2 kl]
   constructor
   ·rintro⟨p,hp,rfl⟩
    exact⟨p.1.toNat,List.mem_map.2 ⟨p,hp,rfl⟩,by have:=hd.a p hp;rw[show((p.1.toNat:Nat):Int)=p.1 by omega]⟩
   ·rintro⟨m,hm,rfl⟩
    obtain⟨p,hp,rfl⟩:=List.mem_map.1 hm
    exact⟨p,hp,by have:=hd.a p hp;rw[show((p.1.toNat:Nat):Int)=p.1 by omega]⟩)
 refine Calls.mono hwl ?_
 rintro e w' ⟨hbe,hrow⟩
 have hE:Ext w σ (gO x.sto) w' σ (gO x.sto):=⟨hbe.size,fun b h hn=>⟨hbe.block b h,hn⟩,Nat.le_refl _,fun _ _ h=>⟨h,fun _ h=>⟨h,rfl⟩⟩,fun _ h=>⟨h,rfl⟩,hbe.os,hbe.tape,hbe.output⟩
 have hS':SimO A w' σ (gO x.sto):=⟨hS.len,hS.dist,fun i b c h=>Nat.lt_of_lt_of_le (hS.bnd i b c h) hbe.size,fun i y hy=>(hS.obj i y hy).ext hE rfl fun b c h=>hbe.block b (hS.bnd i b c h),hS.av,fun b h=>Nat.lt_of_lt_of_le (hS.avb b h) hbe.size⟩
 rcases hrow with⟨rfl,hnil⟩|⟨g,cap,cur,ts,rfl,hg,hcur,q1,q2,q3,q4,q5,q6,q7⟩
 ·have hc0:conS x=[]:=by
   have:x.seen=[]:=List.map_eq_nil_iff.1 hnil
   unfold conS
   rw[this]
   simp[sortI]
  refine⟨_,σ,rfl,hS',?_,hE⟩
  rw[hc0]
  simp only[Rep]
  exact⟨none,0,rfl,by simp,by simp[flatA,pureL],by simp[flatA,RepM]⟩
 ·have hsr:=con_sort hd.n q5 (fun m=>by rw[q6 m,List.map_map];rfl) q7 (fun m hm=>by obtain⟨p,hp,rfl⟩:=List.mem_map.1 hm;exact(hd.a p hp).1)
  have hcon:conS x=ts.map fun y=>(⟨(y.val:Int),wfF x y.val⟩:Need):=by
   unfold conS
   rw[←hsr,List.map_map]
   exact List.map_congr_left fun y _=>by simp
  have hfl:flatA .need (conS x)=(ts.flatMap (encC (wfF x))).map AV.sc:=by
   rw[hcon]
   unfold flatA
   clear hcon hsr q1 q4 q5 q6 q7
   induction ts with
   |nil=>rfl
   |cons y ts ih=>rw[List.map_cons,List.flatMap_cons,ih,List.flatMap_cons,List.map_append];rfl
  have hln:(conS x).length=ts.length:=by rw[hcon];simp
  refine⟨_,σ,rfl,hS',?_,hE⟩
  rw[hfl,hln]
  simp only[Rep]
  refine⟨_,_,rfl,q1,by rw[←hfl];exact flatA_pure _ _,RepM.of_get _ _ _ fun i c hi=>?_⟩
  rw[List.getElem?_map] at hi
  obtain⟨u,hu,rfl⟩:=Option.map_eq_some_iff.1 hi
  have hil:=(List.getElem?_eq_some_iff.1 hu).1
  rw[flat_len] at hil
  have h9:(cur.toList.take (ts.length*2))[i]?=some u:=by rw[q4];exact hu
  rw[List.getElem?_take_of_lt hil,Array.getElem?_toList] at h9
  have h1c:u.oneCell'=true:=by
   obtain⟨y,_,hy⟩:=List.mem_flatMap.1 (List.mem_of_getElem? hu)
   simp[encC] at hy
   rcases hy with rfl|rfl<;>rfl
  refine⟨⟨g,0,none⟩,u,rfl,⟨fun⟨i,c,hi⟩=>by have:=hS.bnd i g c hi;omega,fun hA=>by have:=hS.avb g hA;omega⟩,?_,by simp only[Rep];exact⟨trivial,h1c⟩⟩
  rw[Addr.add_lit]
  simp only[World.cell?,hcur,Nat.zero_add,Option.isSome_none,Bool.false_eq_true,if_false]
  exact h9
open Go.Proofs
def nilP:SV:=.sc (.pointer none)
def r517n:OCtr where
 f:=17
 α:=Unit
 put _:=[nilP]
 st _:=[]
 dec v o:=match v,o with
  |[.sc (.pointer none)],[]=>some ()
  |_,_=>none
 ok v o a h:=by
  split at h
  ·exact⟨rfl,rfl⟩
  ·cases h
 inj a b h _:=rfl
 dom _:=True
 res _:=.sc (.slice none 0 0)
 out _:=[]
theorem con_nil (w:World):Calls Try.prog 17 #[.pointer none] w fun e w'=>e= .returned (.slice none 0 0)∧w'=w:=by
 go_enter Try.func17,Try.ntmps17
 go_wp2
 go_ret
 exact⟨rfl,rfl⟩
theorem h517n:HoldsO Try.prog r517n:=by
 rintro⟨⟩ -
 refine⟨by kernel_rfl,?_⟩
 intro A w σ vs hS hR
 replace hS:SimO A w σ []:=hS
 replace hR:RepL A w σ [] [.sc (.pointer none)] vs:=hR
 show Calls _ _ _ _ fun e w'=>∃u σ',e= .returned u∧SimO A w' σ' []∧Rep A w' σ' [] (.sc (.slice none 0 0)) u∧Ext w σ [] w' σ' []
 simp only[RepL] at hR
 obtain⟨v,r,rfl,hv,rfl⟩:=hR
 simp only[Rep] at hv
 obtain⟨rfl,_⟩:=hv
 refine Calls.mono (con_nil w) ?_
 rintro e w' ⟨rfl,rfl⟩
 exact⟨_,σ,rfl,hS,by simp[Rep,Value.oneCell'],Ext.refl _ _ _⟩
def r514n:OCtr where
 f:=9
 α:=List Fra
 put l:=[nilP,.row sF l]
 st _:=[]
 dec v o:=match v,o with
  |[.sc (.pointer none),l],[]=>decRow sF l
  |_,_=>none
 ok v o a h:=by
  split at h
  ·exact⟨by simp only[gL,(codR sF).ok _ _ h];rfl,rfl⟩
  ·cases h
 inj a b h _:=by
  simp only[gL,List.cons.injEq,and_true,true_and] at h
  exact(codR sF).inj _ _ h
 dom _:=True
 res _:=.tup [.agg (encS sStp stpZ),.sb false,.si .i64 6]
 out _:=[]
theorem h514n:HoldsO Try.prog r514n:=by
 refine conO (L:=[]) (W:=[]) r514n lk (by simp) (by simp) ?_
 rintro l -
 refine vcOf (let z0:=SV.il .i64 0;let z1:=SId.i .u32;0=0∧0=0∧(SV.tup [SV.agg [z0,z0,z0,z0,SV.bl false,SV.row z1 [],SV.row z1 []],SV.bl false,SV.il .i64 6]).same (SV.tup [SV.agg [SV.si .i64 stpZ.fst.payers,SV.si .i64 stpZ.fst.least,SV.si .i64 stpZ.snd.fst.payers,SV.si .i64 stpZ.snd.fst.least,SV.sb stpZ.snd.snd.fst,SV.row z1 stpZ.snd.snd.snd.fst,SV.row z1 stpZ.snd.snd.snd.snd],SV.sb false,SV.si .i64 6])∧True) (by kernel_rfl) ?_
 simp only[vcs]
 rfl
theorem raw_frE {l:List Fra} (hl:l.length≤1000) (h:∀x∈l,∃q,x=frE q∧Sz 1000 q):rawP l∧okPay l=true:=by
 refine⟨⟨by omega,fun x hx=>?_⟩,?_⟩
 ·obtain⟨q,rfl,hs⟩:=h x hx
  obtain⟨_,⟨h1,_⟩,⟨h2,_⟩⟩:=frE_ok q
  exact⟨⟨h1,h2⟩,frE_len hs⟩
 ·unfold okPay
  rw[List.all_eq_true]
  intro x hx
  obtain⟨q,rfl,_⟩:=h x hx
  unfold okF
  rw[valF_frE]
  exact decide_eq_true rfl
theorem sz_int {n:Int} (h0: -4294967296<n) (h1:n<4294967296):Sz 1 (n:Rat):=by
 unfold Sz
 simp
 omega
def exS:Prob:=⟨⟨1,1,0,0,0,0⟩,⟨1,1,0,0,0,0⟩,⟨0,0,0,0,0,0⟩,[0,0,0],[⟨0,⟨1,1,0,0,0,0⟩,10⟩,⟨1,⟨1,0,0,0,0,0⟩,6⟩,⟨2,⟨0,1,0,0,0,0⟩,6⟩]⟩
def r518:SCtr:=⟨18,Unit,.nil,fun _=>True,fun _=>codP.put exS⟩
theorem h518:Holds Try.prog r518:=by
 refine con0 (L:=[]) r518 lk (by simp) ?_
 rintro⟨⟩ -
 refine vcOf (let z0:=SV.il .i64 1;let z1:=SV.il .i64 0;(SV.agg [z0,z0,z1,z1,z1,z1,z0,z0,z1,z1,z1,z1,z1,z1,z1,z1,z1,z1,SV.row (SId.i .i64) [(0:Int),(0:Int),(0:Int)],SV.row SId.off [Off.mk (0:Int) (Bun.mk (1:Int) (1:Int) (0:Int) (0:Int) (0:Int) (0:Int)) (10:Int),Off.mk (1:Int) (Bun.mk (1:Int) (0:Int) (0:Int) (0:Int) (0:Int) (0:Int)) (6:Int),Off.mk (2:Int) (Bun.mk (0:Int) (1:Int) (0:Int) (0:Int) (0:Int) (0:Int)) (6:Int)]]).same (SV.agg (Prob.ss exS))) (by kernel_rfl) ?_
 conv=>zeta
 rfl
def pay4:List Fra:=[frE ((0:Int):Rat),frE ((4:Int):Rat),frE ((4:Int):Rat)]
def pay5:List Fra:=[frE ((0:Int):Rat),frE ((5:Int):Rat),frE ((5:Int):Rat)]
def worX:List (Int×Int):=[(0,0),(1,10),(2,6),(3,10),(4,6),(5,10),(6,12),(7,12)]
theorem lv_fin:finN exS [1,2]=⟨exS,[0,6,6],6,[],[]⟩:=by kernel_rfl
theorem lv_b4:bstM exS [0,6,6] pay4 8=(true,1,((2:Int):Rat)):=by kernel_rfl
theorem lv_b5:(bstM exS [0,6,6] pay5 8).1=false:=by kernel_rfl
theorem lv_s4:senM exS [0,6,6] pay4 8 []=[(1,true)]:=by kernel_rfl
theorem lv_s5:senM exS [0,6,6] pay5 8 [(1,true)]=[(1,true)]:=by kernel_rfl
theorem lv_w:worM exS 8 []=worX:=by kernel_rfl
theorem lv_w2:worM exS 8 worX=worX:=by kernel_rfl
theorem lv_st:stpM exS [0,6,6] pay4 1=(⟨1,10⟩,(⟨6,10⟩,frE ((2:Int):Rat))):=by kernel_rfl
def r512:SCtr:=⟨7,Unit,.nil,fun _=>True,fun _=> .sb true⟩
theorem h512:Holds Try.prog r512:=by
 refine con (L:=[r518,r515,r46]) (W:=ownT [r513,r514,r517]) r512 lk (ownT_ok (by simpa using⟨h513,h514,h517⟩)) (by simpa using⟨h518,h515,h46⟩) ?_
 rintro⟨⟩ -
 refine vcOf (let z0:=[(1:Int),(2:Int)];let z1:=finN exS z0;let z2:=frE (IntCast.intCast (0:Int));let z3:=(z2.fst,z2.snd.fst,z2.snd.snd);let z4:=frE (IntCast.intCast (4:Int));let z5:=(z4.fst,z4.snd.fst,z4.snd.snd);let z6:=[z3,z5,z5];let z7:=z1.vals;let z8:=worM z1.p (nOf z1) z1.wor;let z9:=senM z1.p z7 z6 (nOf z1) z1.seen;let z10:=FnF.mk z1.p z7 z1.wins z8 z9;let z11:=frE (IntCast.intCast (5:Int));let z12:=(z11.fst,z11.snd.fst,z11.snd.snd);let z13:=[z3,z12,z12];let z14:=FnF.mk z1.p z7 z1.wins (worM z1.p (nOf z10) z8) (senM z1.p z7 z13 (nOf z10) z9);let z15:=bstM z1.p z7 z6 (nOf z1);let z16:=(stpO z1.p z7 z6 z15).snd.snd.snd;let z17:=(frE (IntCast.intCast (2:Int))).snd;let z18:=!(bstM z1.p z7 z13 (nOf z10)).fst;True∧((feasE exS z0=(0:Int)∧(12:Int)=valueS exS z0)∧exS.classes.length≤4∧2≤1000)∧(false=true→(SV.bl false).same (SV.sb true))∧(false=false→((-9223372036854775808:Int)≤(0:Int)∧(0:Int)≤(9223372036854775807:Int))∧((-9223372036854775808:Int)≤(4:Int)∧(4:Int)≤(9223372036854775807:Int))∧((-9223372036854775808:Int)≤(4:Int)∧(4:Int)≤(9223372036854775807:Int))∧((okFn z1∧rawP z6)∧fndE z1 z6=(0:Int))∧((-9223372036854775808:Int)≤(0:Int)∧(0:Int)≤(9223372036854775807:Int))∧((-9223372036854775808:Int)≤(5:Int)∧(5:Int)≤(9223372036854775807:Int))∧((-9223372036854775808:Int)≤(5:Int)∧(5:Int)≤(9223372036854775807:Int))∧((okFn z10∧rawP z13)∧fndE z10 z13=(0:Int))∧seenOk z14∧(true=true→(z15.fst=true→(true=true→(true=true→((-9223372036854775808:Int)≤(2:Int)∧(2:Int)≤(9223372036854775807:Int))∧((List.length z16.fst≤1000000000∧List.length z16.snd≤1000000000)∧List.length z17.fst≤1000000000∧List.length z17.snd≤1000000000)∧(true=true→(true=true→(z18=true→(true=true→(0:Int)≤(0:Int)∧(0:Int)<(1:Int)∧0<(conS z14).length∧(SV.sb true).same (SV.sb true))∧(true=false→(SV.bl false).same (SV.sb true)))∧(z18=false→(SV.bl false).same (SV.sb true)))∧(true=false→(SV.bl false).same (SV.sb true)))∧(true=false→(SV.bl false).same (SV.sb true)))∧(true=false→(SV.bl false).same (SV.sb true)))∧(true=false→(SV.bl false).same (SV.sb true)))∧(z15.fst=false→(SV.bl false).same (SV.sb true)))∧(true=false→(SV.bl false).same (SV.sb true)))) (by kernel_rfl) ?_
 simp only[vcs]
 have e:∀x:Fra,(x.1,x.2.1,x.2.2)=x:=fun _=>rfl
 have en:∀v w a b,nOf ⟨exS,v,w,a,b⟩=8:=fun _ _ _ _=>rfl
 have e4:[frE (IntCast.intCast 0),frE (IntCast.intCast 4),frE (IntCast.intCast 4)]=pay4:=rfl
 have e5:[frE (IntCast.intCast 0),frE (IntCast.intCast 5),frE (IntCast.intCast 5)]=pay5:=rfl
 simp only[e,lv_fin,en,e4,e5,lv_b4,lv_b5,lv_s4,lv_s5,lv_w,lv_w2]
 have hr:∀n:Int,0≤n→n<100→∃q,frE (n:Rat)=frE q∧Sz 1000 q:=fun n h0 h1=>⟨_,rfl,(sz_int (by omega) (by omega)).mono (by omega)⟩
 have r4:=raw_frE (l:=pay4) (by decide) (fun x hx=>by
  simp[pay4] at hx
  rcases hx with rfl|rfl
  ·exact hr 0 (by omega) (by omega)
  ·exact hr 4 (by omega) (by omega))
 have r5:=raw_frE (l:=pay5) (by decide) (fun x hx=>by
  simp[pay5] at hx
  rcases hx with rfl|rfl
  ·exact hr 0 (by omega) (by omega)
  ·exact hr 5 (by omega) (by omega))
 have hw:∀e∈worX,e.2=worthS exS e.1:=fun e he=>by
  have h:(worX.all fun e=>decide (e.2=worthS exS e.1))=true:=by kernel_rfl
  simpa using List.all_eq_true.1 h e he
 have ho:∀w s,(∀e∈w,e.2=worthS exS e.1)→okFn ⟨exS,[0,6,6],6,w,s⟩:=fun w s h=>⟨by kernel_rfl,(by decide:exS.classes.length≤4),rfl,(by decide:∀v∈[(0:Int),6,6],0≤v∧v≤1000000000000000),by kernel_rfl,h⟩
 have hf:∀w s l,l.length=3→okPay l=true→fndE ⟨exS,[0,6,6],6,w,s⟩ l=0:=fun w s l h1 h2=>by
  unfold fndE
  rw[if_neg (by simp[h1]),if_neg (by rw[h2];decide)]
 have hc:conS ⟨exS,[0,6,6],6,worX,[(1,true)]⟩=[⟨1,10⟩]:=by
  unfold conS sortI
  rw[List.map_cons,List.map_nil,List.mergeSort_singleton]
  kernel_rfl
 have hst:stpO exS [0,6,6] pay4 (true,1,((2:Int):Rat))=(⟨1,10⟩,(⟨6,10⟩,frE ((2:Int):Rat))):=lv_st
 have l2:=frE_len (sz_int (n:=2) (by omega) (by omega))
 have hst2:stpO exS [0,6,6] pay4 (true,1,IntCast.intCast 2)=(⟨1,10⟩,(⟨6,10⟩,frE ((2:Int):Rat))):=lv_st
 rw[hc,hst2]
 refine⟨⟨⟨by kernel_rfl,by kernel_rfl⟩,by decide,by omega⟩,fun h=>h,fun _=>⟨by omega,by omega,by omega,⟨⟨ho _ _ (by simp),r4.1⟩,hf _ _ _ rfl r4.2⟩,by omega,by omega,by omega,⟨⟨ho _ _ hw,r5.1⟩,hf _ _ _ rfl r5.2⟩,⟨by simp,by decide,by decide,by decide,by simp,by decide⟩,?_⟩⟩
 have l3:List.length (frE ((2:Int):Rat)).2.1≤1000000000∧List.length (frE ((2:Int):Rat)).2.2≤1000000000:=⟨by omega,by omega⟩
 refine⟨fun _=>⟨fun _=>⟨fun _=>⟨fun _=>⟨by omega,⟨l3,l3⟩,fun _=>⟨fun _=>⟨fun _=>⟨fun _=>⟨by omega,by omega,by decide⟩,?_⟩,?_⟩,?_⟩,?_⟩,?_⟩,?_⟩,?_⟩,?_⟩
 all_goals (intro h;cases h)
def litX (x:Fra):Bool:=decide (x.2.1.length≤2)&&decide (x.2.2.length≤2)
def litR (r:List Fra):Bool:=decide (r.length≤8)&&r.all litX
def litB (p:Prob) (n:Int) (l:List (List Fra)):Bool:=decide ((p.offers.length:Int)≤n)&&decide (p.classes.length≤4)&&decide (l.length≤6)&&l.all litR
def r511:SCtr:=⟨6,Prob×Int×List (List Fra),.cons codP (.cons (codI .i64) (.one (codR (.lst sF)))),fun a=>True,fun a=> .sb (litB a.1 a.2.1 a.2.2)⟩
def Λ511 (a:Prob×Int×List (List Fra)):Nat→LoopAnn
 |4=> .inv Int (fun i=>⟨[(2,.row (.lst sF) a.2.2),(7,.si .i64 i)],[.cells a.1.ss 27 20 false]⟩) (fun s=>iS s 7)
   (fun i=>(0≤i∧i≤a.2.2.length)∧∀j:Nat,(j:Int)<i→litR (nthD a.2.2 j [])=true) (fun i=>(a.2.2.length - i).toNat) fun i k=>match k with
   |9=> .inv Int (fun q=>⟨[(2,.row (.lst sF) a.2.2),(7,.si .i64 i),(8,.si .i64 q)],[.cells a.1.ss 27 20 false]⟩) (fun s=>iS s 8)
    (fun q=>(0≤q∧q≤(nthD a.2.2 i.toNat []).length)∧∀j:Nat,(j:Int)<q→litX (nthD (nthD a.2.2 i.toNat []) j sF.dflt)=true) (fun q=>((nthD a.2.2 i.toNat []).length - q).toNat) fun _ _=> .look
   |_=> .look
 |_=> .look
theorem h511:Holds Try.prog r511:=by
 refine con0 (L:=[]) r511 Λ511 (by simp) ?_
 rintro⟨p,n,l⟩ -
 refine vcOf (let z0:=decide (n<(↑p.offers.length:Int));let z1:=decide ((4:Int)<(↑p.classes.length:Int));let z2:=(↑l.length:Int);let z3:=decide ((6:Int)<z2);let z4:=SObj.cells (Prob.ss p) 27 20 false;let z5:=(↑l.length:Int);let z6:=sF.lst.dflt;(z0=true→(SV.bl false).same (SV.sb (litB p n l)))∧(z0=false→(z1=true→(SV.bl false).same (SV.sb (litB p n l)))∧(z1=false→(z3=true→(SV.bl false).same (SV.sb (litB p n l)))∧(z3=false→((((SV.row sF.lst l).same (SV.row sF.lst l)∧(SV.il .i64 0).same (SV.si .i64 0)∧True)∧z4.same z4∧True)∧((0:Int)≤(0:Int)∧(0:Int)≤z5)∧∀(j:Nat),(↑j:Int)<(0:Int)→litR (nthD l j [])=true)∧∀(x:Int),let z7:=nthD l x.toNat z6;let z8:=(↑z7.length:Int);let z9:=decide ((8:Int)<z8);let z10:=(↑(nthD l x.toNat []).length:Int);let z11:=x+(1:Int);let z12:=SV.si .i64 z11;(((0:Int)≤x∧x≤z5)∧∀(j:Nat),(↑j:Int)<x→litR (nthD l j [])=true)→(decide (x<z2)=true→(0:Int)≤x∧x<z2∧x.toNat<l.length∧(z9=true→(SV.bl false).same (SV.sb (litB p n l)))∧(z9=false→((((SV.row sF.lst l).same (SV.row sF.lst l)∧(SV.si .i64 x).same (SV.si .i64 x)∧(SV.il .i64 0).same (SV.si .i64 0)∧True)∧z4.same z4∧True)∧((0:Int)≤(0:Int)∧(0:Int)≤z10)∧∀(j:Nat),(↑j:Int)<(0:Int)→litX (nthD (nthD l x.toNat []) j sF.dflt)=true)∧∀(x_1:Int),let z15:=(nthD z7 x_1.toNat sF.dflt).snd;let z16:=x_1+(1:Int);let z17:=SV.si .i64 x;let z18:=SV.si .i64 z16;let z13:=fun(u:Bool) ↦decide ((2:Int)<(↑(List.length z15.fst):Int))=u;let z14:=fun(u:Bool) ↦decide ((2:Int)<(↑(List.length z15.snd):Int))=u;(((0:Int)≤x_1∧x_1≤z10)∧∀(j:Nat),(↑j:Int)<x_1→litX (nthD (nthD l x.toNat []) j sF.dflt)=true)→(0:Int)≤x∧x<z2∧x.toNat<l.length∧(decide (x_1<z8)=true→(0:Int)≤x∧x<z2∧x.toNat<l.length∧(0:Int)≤x_1∧x_1<z8∧x_1.toNat<z7.length∧(z13 true→(SV.bl false).same (SV.sb (litB p n l)))∧(z13 false→(0:Int)≤x∧x<z2∧x.toNat<l.length∧(0:Int)≤x_1∧x_1<z8∧x_1.toNat<z7.length∧(z14 true→(SV.bl false).same (SV.sb (litB p n l)))∧(z14 false→inR .i64 z16∧(((SV.row sF.lst l).same (SV.row sF.lst l)∧z17.same z17∧z18.same z18∧True)∧z4.same z4∧True)∧(((0:Int)≤z16∧z16≤z10)∧∀(j:Nat),(↑j:Int)<z16→litX (nthD (nthD l x.toNat []) j sF.dflt)=true)∧(z10 - z16).toNat<(z10 - x_1).toNat)))∧(decide (x_1<z8)=false→inR .i64 z11∧(((SV.row sF.lst l).same (SV.row sF.lst l)∧z12.same z12∧True)∧z4.same z4∧True)∧(((0:Int)≤z11∧z11≤z5)∧∀(j:Nat),(↑j:Int)<z11→litR (nthD l j [])=true)∧(z5 - z11).toNat<(z5 - x).toNat)))∧(decide (x<z2)=false→(SV.bl true).same (SV.sb (litB p n l))))))) (by kernel_rfl) ?_
 simp only[vcs]
 have ed:(SId.lst sF).dflt=([]:List Fra):=rfl
 simp only[ed]
 have nope:(¬((p.offers.length:Int)≤n)∨¬p.classes.length≤4∨¬l.length≤6∨∃r∈l,litR r=false)→false=litB p n l:=fun h=>by
  symm
  rw[Bool.eq_false_iff]
  intro hb
  unfold litB at hb
  simp only[Bool.and_eq_true,decide_eq_true_eq,List.all_eq_true] at hb
  obtain⟨⟨⟨h1,h2⟩,h3⟩,h4⟩:=hb
  rcases h with h|h|h|⟨r,hr,h⟩
  ·exact h h1
  ·exact h h2
  ·exact h h3
  ·rw[h4 r hr] at h;cases h
 refine⟨fun h=>nope (.inl (by omega)),fun h1=>⟨fun h=>nope (.inr (.inl (by omega))),fun h2=>⟨fun h=>nope (.inr (.inr (.inl (by omega)))),fun h3=>⟨⟨⟨by omega,by omega⟩,fun j hj=>by omega⟩,?_⟩⟩⟩⟩
 rintro i ⟨⟨i0,i1⟩,hi⟩
 refine⟨fun hlt=>?_,fun hge=>?_⟩
 ·have hm:=nthD_mem (d:=([]:List Fra)) (show i.toNat<l.length by omega)
  have bad:litR (nthD l i.toNat [])=false→false=litB p n l:=fun h=>nope (.inr (.inr (.inr ⟨_,hm,h⟩)))
  generalize hr:nthD l i.toNat []=r at*
  refine⟨i0,hlt,by omega,fun h=>bad (by simp[litR];omega),fun h8=>⟨⟨⟨by omega,by omega⟩,fun j hj=>by omega⟩,?_⟩⟩
  rintro k ⟨⟨k0,k1⟩,hk⟩
  refine⟨i0,hlt,by omega,fun hkl=>?_,fun hkg=>?_⟩
  ·have hx:=nthD_mem (d:=sF.dflt) (show k.toNat<r.length by omega)
   have bad2:litX (nthD r k.toNat sF.dflt)=false→false=litB p n l:=fun h=>bad (by
    unfold litR
    rw[Bool.and_eq_false_iff]
    right
    rw[Bool.eq_false_iff]
    intro ha
    have:=List.all_eq_true.1 ha _ hx
    rw[h] at this
    cases this)
   refine⟨i0,hlt,by omega,k0,hkl,by omega,fun h=>bad2 (by simp[litX];omega),fun h9=>⟨i0,hlt,by omega,k0,hkl,by omega,fun h=>bad2 (by simp[litX];omega),fun h10=>⟨⟨by omega,by omega⟩,⟨⟨by omega,by omega⟩,fun j hj=>?_⟩,by omega⟩⟩⟩
   by_cases hjk:(j:Int)<k
   ·exact hk j hjk
   ·rw[show j=k.toNat by omega]
    simp[litX]
    omega
  ·refine⟨⟨by omega,by omega⟩,⟨⟨by omega,by omega⟩,fun j hj=>?_⟩,by omega⟩
   by_cases hji:(j:Int)<i
   ·exact hi j hji
   ·rw[show j=i.toNat by omega,hr]
    unfold litR
    rw[Bool.and_eq_true,decide_eq_true_eq,List.all_eq_true]
    refine⟨by omega,fun x hx=>?_⟩
    obtain⟨m,hm2,rfl⟩:=List.getElem_of_mem hx
    have:=hk m (by omega)
    rwa [nthD_eq hm2] at this
 ·symm
  unfold litB
  simp only[Bool.and_eq_true,decide_eq_true_eq,List.all_eq_true]
  refine⟨⟨⟨by omega,by omega⟩,by omega⟩,fun r hr=>?_⟩
  obtain⟨m,hm2,rfl⟩:=List.getElem_of_mem hr
  have:=hi m (by omega)
  rwa [nthD_eq hm2] at this
def r510:SCtr:=⟨5,List Fra,.one (codR sF),fun l=>True,fun _=> .sb true⟩
theorem h510:Holds Try.prog r510:=by
 refine con (L:=[r512,r516]) (W:=ownT [r514n,r517n]) r510 lk (ownT_ok (by simpa using⟨h514n,h517n⟩)) (by simpa using⟨h512,h516⟩) ?_
 rintro(l:List Fra) -
 refine vcOf (let z0:=decide ((50:Int)<(↑l.length:Int));(z0=true→True∧(SV.sb true).same (SV.sb true))∧(z0=false→True∧(true=true→(true=true→(fewD (stpZ.snd.snd.fst,stpZ.snd.snd.snd.fst,stpZ.snd.snd.snd.snd)∧fewD (false,[],[]))∧(true=true→True∧True∧(SV.sb true).same (SV.sb true))∧(true=false→(SV.bl false).same (SV.sb true)))∧(true=false→(SV.bl false).same (SV.sb true)))∧(true=false→(SV.bl false).same (SV.sb true)))) (by kernel_rfl) ?_
 simp only[vcs]
 have h0:fewD (false,[],[]):=⟨by simp,by simp⟩
 exact⟨fun _=>trivial,fun _=>⟨fun _=>⟨fun _=>⟨⟨h0,h0⟩,fun _=>trivial,fun h=>(by cases h)⟩,fun h=>(by cases h)⟩,fun h=>(by cases h)⟩⟩
def r508v (D:Prob×Alloc×List Fra→Prop):SCtr:=⟨3,Prob×Alloc×List Fra,.cons codP (.cons codA (.one (codR sF))),fun a=>rowD a.2.2∧D a,fun _=> .sb true⟩
def morL (l:List Fra) (P:Int) (g:Rat) (n:Nat):List Fra:=(List.range l.length).map fun j=>if j<n∧hasI P j=true then frE (valF (nthD l j sF.dflt)+g) else nthD l j sF.dflt
theorem newE_zero {p:Prob} {a:Alloc} (h:newE p a=0):feasE p a.chosen=0∧a.value=valueS p a.chosen:=by
 unfold newE at h
 split at h
 ·rename_i h1;exact absurd h h1
 ·rename_i h1
  split at h
  ·cases h
  ·rename_i h2
   exact⟨Classical.not_not.1 h1,Classical.not_not.1 h2⟩
theorem lit_ok {p:Prob} {n:Int} {l:List (List Fra)} (h:litB p n l=true):(p.offers.length:Int)≤n∧p.classes.length≤4∧l.length≤6∧∀r∈l,r.length≤8∧∀x∈r,x.2.1.length≤2∧x.2.2.length≤2:=by
 unfold litB at h
 simp only[Bool.and_eq_true,decide_eq_true_eq,List.all_eq_true] at h
 refine⟨h.1.1.1,h.1.1.2,h.1.2,fun r hr=>?_⟩
 have h2:=h.2 r hr
 unfold litR at h2
 simp only[Bool.and_eq_true,decide_eq_true_eq,List.all_eq_true] at h2
 refine⟨h2.1,fun x hx=>?_⟩
 have h3:=h2.2 x hx
 unfold litX at h3
 simpa only[Bool.and_eq_true,decide_eq_true_eq] using h3
theorem raw_lit {l:List Fra} (hd:rowD l) (h8:l.length≤8) (hx:∀x∈l,x.2.1.length≤2∧x.2.2.length≤2):rawP l:=
 ⟨by omega,fun x h=>⟨hd x h,by have:=hx x h;omega,by have:=hx x h;omega⟩⟩
theorem pay_lit {l:List Fra} (hd:rowD l) (h8:l.length≤8) (hx:∀x∈l,x.2.1.length≤2∧x.2.2.length≤2) (ho:okPay l=true):payK 2 l:=
 ⟨by omega,fun x h=>by
  have h1:=okK_sz (K:=2) (List.all_eq_true.1 ho x h) (hd x h).1 (hd x h).2 (hx x h).1 (hx x h).2
  exact⟨_,h1.1,h1.2⟩⟩
def disChk:Bool:=[0,1,2,3,4].all fun n=>(allB n).all fun bs=>(List.range 16).all fun m=>decide (binK.andI .i64 (payB bs m) m=0)&&decide (0≤payB bs m)&&decide (payB bs m<2^n)&&(decide (payB bs m=0)||(List.range n).any fun j=>hasI (payB bs m) j)
theorem dis_chk:disChk=true:=by kernel_rfl
theorem pU_dis {V:List Int} {m:Int} (h:V.length≤4) (m0:0≤m) (m1:m<16):binK.andI .i64 (pU V m) m=0∧(0≤pU V m∧pU V m<2^V.length)∧(pU V m≠0→∃j,j<V.length∧hasI (pU V m) j=true):=by
 have hh:=dis_chk
 simp only[disChk,List.all_eq_true,List.mem_range] at hh
 have hl:(posL V).length=V.length:=by simp[posL]
 have h2:=hh V.length (by have:V.length=0∨V.length=1∨V.length=2∨V.length=3∨V.length=4:=by omega
                          rcases this with h|h|h|h|h<;>rw[h]<;>simp) (posL V) (by rw[←hl];exact allB_mem _) m.toNat (by omega)
 rw[show((m.toNat:Nat):Int)=m from by omega] at h2
 simp only[Bool.and_eq_true,Bool.or_eq_true,decide_eq_true_eq,List.any_eq_true,List.mem_range] at h2
 rw[pay_pos]
 refine⟨h2.1.1.1,⟨h2.1.1.2,h2.1.2⟩,fun hn=>?_⟩
 obtain⟨j,hj,hb⟩:=h2.2.resolve_left hn
 exact⟨j,hj,hb⟩
theorem mor_len {l:List Fra} {P:Int} {g:Rat} {n:Nat}:(morL l P g n).length=l.length:=by simp[morL]
theorem mor_nth {l:List Fra} {P:Int} {g:Rat} {n j:Nat} (hj:j<l.length):nthD (morL l P g n) j sF.dflt=if j<n∧hasI P j=true then frE (valF (nthD l j sF.dflt)+g) else nthD l j sF.dflt:=by
 rw[nthD_eq (by rw[mor_len];exact hj)]
 simp[morL]
theorem mor_zero {l:List Fra} {P:Int} {g:Rat}:morL l P g 0=l:=by
 refine List.ext_getElem (by simp[morL]) fun j h1 h2=>?_
 simp[morL,nthD,h2]
theorem mor_succ {l:List Fra} {P:Int} {g:Rat} {n:Nat} (hn:n<l.length):morL l P g (n+1)=if hasI P n=true then(morL l P g n).set n (frE (valF (nthD (morL l P g n) n sF.dflt)+g)) else morL l P g n:=by
 have e0:nthD (morL l P g n) n sF.dflt=nthD l n sF.dflt:=by rw[mor_nth hn,if_neg (by omega)]
 rw[e0]
 split
 ·rename_i h
  refine List.ext_getElem (by simp[morL]) fun j h1 h2=>?_
  rw[List.getElem_set]
  have hjl:j<l.length:=by simpa[morL] using h1
  split
  ·rename_i he;subst he
   simp[morL,h]
  ·rename_i he
   simp only[morL,List.getElem_map,List.getElem_range]
   by_cases hc:j<n∧hasI P j=true
   ·rw[if_pos hc,if_pos ⟨by omega,hc.2⟩]
   ·rw[if_neg hc,if_neg (fun h3=>hc ⟨by omega,h3.2⟩)]
 ·rename_i h
  refine List.ext_getElem (by simp[morL]) fun j h1 h2=>?_
  simp only[morL,List.getElem_map,List.getElem_range]
  by_cases hc:j<n∧hasI P j=true
  ·rw[if_pos hc,if_pos ⟨by omega,hc.2⟩]
  ·rw[if_neg hc,if_neg (fun h3=>by
    by_cases hjn:j=n
    ·subst hjn;exact h h3.2
    ·exact hc ⟨by omega,h3.2⟩)]
def cntP (P:Int):Nat→Nat
 |0=>0
 |n+1=>if hasI P n=true then cntP P n+1 else cntP P n
theorem cntP_succ (P:Int) (n:Nat):cntP P (n+1)=if hasI P n=true then cntP P n+1 else cntP P n:=rfl
theorem cntP_pos {P:Int}:∀{n j:Nat},j<n→hasI P j=true→1≤cntP P n
 |n+1,j,h,hb=>by
  rw[cntP_succ]
  by_cases hj:j=n
  ·subst hj;rw[if_pos hb];omega
  ·have:=@cntP_pos P n j (by omega) hb
   split<;>omega
theorem paid_mor {l:List Fra} {P:Int} {g:Rat}:∀{n:Nat},n≤l.length→paidQ (morL l P g l.length) P n=paidQ l P n+(cntP P n:Rat)*g
 |0,_=>by simp[paidQ,cntP];grind
 |n+1,hn=>by
  have ih:=@paid_mor l P g n (by omega)
  rw[paidQ_succ,paidQ_succ,ih,cntP_succ]
  by_cases hb:hasI P n=true
  ·rw[if_pos hb,if_pos hb,if_pos hb,mor_nth (by omega),if_pos ⟨by omega,hb⟩,valF_frE]
   have:((cntP P n+1:Nat):Rat)=(cntP P n:Rat)+1:=by simp
   rw[this]
   grind
  ·rw[if_neg hb,if_neg hb,if_neg hb]
theorem gn_mor {p:Prob} {V:List Int} {l:List Fra} {m:Int} (hl:l.length=V.length) (h4:V.length≤4) (m0:0≤m) (m1:m<16) (hg:0<gnQ p V l m) (hP:pU V m≠0):¬0<gnQ p V (morL l (pU V m) (gnQ p V l m) l.length) m:=by
 obtain⟨_,_,hd⟩:=pU_dis h4 m0 m1
 obtain⟨j,hj,hb⟩:=hd hP
 have hc:=cntP_pos (n:=l.length) (by omega) hb
 have e:=@paid_mor l (pU V m) (gnQ p V l m) l.length (Nat.le_refl _)
 have e2:gnQ p V (morL l (pU V m) (gnQ p V l m) l.length) m=gnQ p V l m - (cntP (pU V m) l.length:Rat)*gnQ p V l m:=by
  show(lU V m (worthS p m):Rat) - paidQ (morL l (pU V m) (gnQ p V l m) l.length) (pU V m) (morL l (pU V m) (gnQ p V l m) l.length).length=_
  rw[mor_len,e]
  show _=((lU V m (worthS p m):Rat) - paidQ l (pU V m) l.length) - _
  grind
 rw[e2]
 generalize gnQ p V l m=g at*
 obtain⟨k,hk⟩:∃k:Nat,cntP (pU V m) l.length=k+1:=⟨cntP (pU V m) l.length - 1,by omega⟩
 rw[hk]
 have e3:((k+1:Nat):Rat)=(k:Rat)+1:=by simp
 rw[e3]
 have hk0:(0:Rat)≤(k:Rat):=by exact_mod_cast Nat.zero_le k
 have:0≤(k:Rat)*g:=Rat.mul_nonneg hk0 (Rat.le_of_lt hg)
 grind
def Λ508 (a:Prob×Alloc×List Fra):Nat→LoopAnn
 |14=> .inv (Int×Fra) (fun x=>let f:=finN a.1 a.2.1.chosen;let b:=bstM f.p f.vals a.2.2 (nOf f);⟨[(2,.row sF a.2.2),(7,.ptr 2 0 24),(9,.ptr 5 0 7),(14,.ptr 6 0 3),(15,.si .i64 x.1)],
   [.cells a.1.ss 27 20 false,.cells [.row (.i .i64) a.2.1.chosen,.si .i64 a.2.1.value] 29 2 false,.cells (f.p.ss++[.row (.i .i64) f.vals,.si .i64 f.wins,.mp 3,.mp 4]) 75 24 false,
    .map (.i .i64) (.i .i64) false (worM f.p (nOf f) f.wor) ([0],false) true,.map (.i .i64) .b false (senM f.p f.vals a.2.2 (nOf f) f.seen) ([0],false) true,.cells (encS sStp (stpO f.p f.vals a.2.2 b)) 47 7 false,fCells x.2]⟩)
   (fun s=>(iS s 15,cS sF s 6 0)) (fun x=>let f:=finN a.1 a.2.1.chosen;let b:=bstM f.p f.vals a.2.2 (nOf f);(0≤x.1∧x.1≤a.2.2.length)∧x.2=frE (paidQ a.2.2 (pU f.vals b.2.1) x.1.toNat)) (fun x=>(a.2.2.length - x.1).toNat) fun _ _=> .look
 |24=> .inv Int (fun i=>let f:=finN a.1 a.2.1.chosen;let b:=bstM f.p f.vals a.2.2 (nOf f);⟨[(7,.ptr 2 0 24),(9,.ptr 5 0 7),(16,.ow 7 a.2.2.length 3),(17,.si .i64 i)],
   [.cells a.1.ss 27 20 false,.cells [.row (.i .i64) a.2.1.chosen,.si .i64 a.2.1.value] 29 2 false,.cells (f.p.ss++[.row (.i .i64) f.vals,.si .i64 f.wins,.mp 3,.mp 4]) 75 24 false,
    .map (.i .i64) (.i .i64) false (worM f.p (nOf f) f.wor) ([0],false) true,.map (.i .i64) .b false (senM f.p f.vals a.2.2 (nOf f) f.seen) ([0],false) true,.cells (encS sStp (stpO f.p f.vals a.2.2 b)) 47 7 false,
    fCells (frE (paidQ a.2.2 (pU f.vals b.2.1) a.2.2.length)),.row sF (morL a.2.2 (pU f.vals b.2.1) b.2.2 i.toNat) 45 true,.dead]⟩)
   (fun s=>iS s 17) (fun i=>0≤i∧i≤a.2.2.length) (fun i=>(a.2.2.length - i).toNat) fun _ _=> .look
 |_=> .look
theorem h508a:Holds Try.prog (r508v fun a=>newE a.1 a.2.1≠0):=by
 refine conE (L:=[r511,r512,r46,r80,r48,r515,r52]) (W:=ownT [r513e]) (r508v _) (fG 3) Λ508 (ownT_ok (by simpa using h513e)) (by simpa using⟨h511,h512,h46,h80,h48,h515,h52⟩) ?_
 rintro⟨p,⟨c,v⟩,l⟩ ⟨hl,hE⟩
 refine vcOf (let z0:=!litB p (12:Int) [l];let z1:=decide ((12:Int)<(↑c.length:Int));let z2:=decide (newE p (Alloc.mk c v)≠(0:Int));True∧(z0=true→True∧(SV.sb true).same (SV.sb true))∧(z0=false→(z1=true→True∧(SV.sb true).same (SV.sb true))∧(z1=false→(newE p (Alloc.mk c v)≠(0:Int)∧c.length≤1000)∧(z2=true→((z2==true)=true→True∧(SV.sb true).same (SV.sb true))∧((z2==true)=false→(SV.bl false).same (SV.sb true)))∧(z2=false→((z2==true)=true→True∧(SV.sb true).same (SV.sb true))∧((z2==true)=false→(SV.bl false).same (SV.sb true)))))) (by kernel_rfl) ?_
 simp only[vcs]
 have hE:newE p ⟨c,v⟩≠0:=hE
 have hd:(decide (newE p ⟨c,v⟩≠0)==true)=true:=by simp[hE]
 exact⟨fun _=>trivial,fun _=>⟨fun _=>trivial,fun hc=>⟨⟨hE,by omega⟩,fun _=>⟨fun _=>trivial,fun h=>by rw[hd] at h;cases h⟩,fun h=>absurd hE h⟩⟩⟩
theorem h508b:Holds Try.prog (r508v fun a=>newE a.1 a.2.1=0∧fndE (finN a.1 a.2.1.chosen) a.2.2≠0):=by
 refine conE (L:=[r511,r512,r46,r80,r48,r515,r52]) (W:=ownT [r513,r514e]) (r508v _) (fG 3) lk (ownT_ok (by simpa using⟨h513,h514e⟩)) (by simpa using⟨h511,h512,h46,h80,h48,h515,h52⟩) ?_
 rintro⟨p,⟨c,v⟩,l⟩ ⟨hl,hE,hF⟩
 refine vcOf (let z1:=stpZ.snd.snd.snd.fst;let z2:=stpZ.snd.snd.snd.snd;let z3:=!litB p (12:Int) [l];let z4:=decide ((12:Int)<(↑c.length:Int));let z5:=decide (fndE (finN p c) l≠(0:Int));let z6:=stpZ.fst.payers;let z7:=decide (faultE p z6≠(0:Int));let z8:=decide (worthS p z6≠stpZ.fst.least);let z9:=SId.i .i64;let z10:=(finN p c).p;let z11:=z10.supply;let z12:=z10.opn;let z13:=z10.cls;let z14:=([0],false);let z15:=SId.i .u32;let z16:=frE (IntCast.intCast (0:Int));let z0:=((List.length z1≤1000000000∧List.length z2≤1000000000)∧0≤1000000000∧0≤1000000000)∧(true=true→True∧(SV.sb true).same (SV.sb true))∧(true=false→(SV.bl false).same (SV.sb true));True∧(z3=true→True∧(SV.sb true).same (SV.sb true))∧(z3=false→(z4=true→True∧(SV.sb true).same (SV.sb true))∧(z4=false→((feasE p c=(0:Int)∧v=valueS p c)∧p.classes.length≤4∧c.length≤1000)∧(false=true→(true=true→True∧(SV.sb true).same (SV.sb true))∧(true=false→(SV.bl false).same (SV.sb true)))∧(false=false→(rawP l∧fndE (finN p c) l≠(0:Int))∧(z5=true→z0)∧(z5=false→(true=true→z0)∧(true=false→True∧(z7=true→(SV.bl false).same (SV.sb true))∧(z7=false→(z8=true→(SV.bl false).same (SV.sb true))∧(z8=false→isF (stpZ.snd.snd.fst,z1,z2)∧(true=true→(SV.bl false).same (SV.sb true))∧(true=false→(false=true→(SV.bl false).same (SV.sb true))∧(false=false→((-9223372036854775808:Int)≤(0:Int)∧(0:Int)≤(9223372036854775807:Int))∧Look (SSt.mk [(2,SV.row sF l),(7,SV.ptr 2 0 24),(9,SV.ptr 5 0 7),(14,SV.ptr 6 0 3),(15,SV.il .i64 0)] [SObj.cells [SV.si .i64 p.supply.a0,SV.si .i64 p.supply.a1,SV.si .i64 p.supply.a2,SV.si .i64 p.supply.a3,SV.si .i64 p.supply.a4,SV.si .i64 p.supply.a5,SV.si .i64 p.opn.a0,SV.si .i64 p.opn.a1,SV.si .i64 p.opn.a2,SV.si .i64 p.opn.a3,SV.si .i64 p.opn.a4,SV.si .i64 p.opn.a5,SV.si .i64 p.cls.a0,SV.si .i64 p.cls.a1,SV.si .i64 p.cls.a2,SV.si .i64 p.cls.a3,SV.si .i64 p.cls.a4,SV.si .i64 p.cls.a5,SV.row z9 p.classes,SV.row SId.off p.offers] 27 20 false,SObj.cells [SV.row z9 c,SV.si .i64 v] 29 2 false,SObj.cells [SV.si .i64 z11.a0,SV.si .i64 z11.a1,SV.si .i64 z11.a2,SV.si .i64 z11.a3,SV.si .i64 z11.a4,SV.si .i64 z11.a5,SV.si .i64 z12.a0,SV.si .i64 z12.a1,SV.si .i64 z12.a2,SV.si .i64 z12.a3,SV.si .i64 z12.a4,SV.si .i64 z12.a5,SV.si .i64 z13.a0,SV.si .i64 z13.a1,SV.si .i64 z13.a2,SV.si .i64 z13.a3,SV.si .i64 z13.a4,SV.si .i64 z13.a5,SV.row z9 z10.classes,SV.row SId.off z10.offers,SV.row z9 (finN p c).vals,SV.si .i64 (finN p c).wins,SV.mp 3,SV.mp 4] 75 24 false,SObj.map z9 z9 false (finN p c).wor z14 true,SObj.map z9 SId.b false (finN p c).seen z14 true,SObj.cells [SV.si .i64 z6,SV.si .i64 stpZ.fst.least,SV.si .i64 stpZ.snd.fst.payers,SV.si .i64 stpZ.snd.fst.least,SV.sb stpZ.snd.snd.fst,SV.row z15 z1,SV.row z15 z2] 47 7 false,SObj.cells [SV.sb z16.fst,SV.row z15 z16.snd.fst,SV.row z15 z16.snd.snd] 45 3 false]))))))))))) (by kernel_rfl) ?_
 simp only[vcs]
 have hE:newE p ⟨c,v⟩=0:=hE
 have hF:fndE (finN p c) l≠0:=hF
 have hl:rowD l:=hl
 have hz:=newE_zero hE
 refine⟨fun _=>trivial,fun hb=>⟨fun _=>trivial,fun hc=>⟨⟨hz,(lit_ok hb).2.1,by omega⟩,fun h=>(by cases h),fun _=>⟨⟨?_,hF⟩,fun _=>⟨⟨⟨by simp[stpZ],by simp[stpZ]⟩,by omega,by omega⟩,fun _=>trivial,fun h=>(by cases h)⟩,fun h=>absurd hF h⟩⟩⟩⟩
 obtain⟨_,_,_,h4⟩:=lit_ok hb
 have h5:=h4 l (by simp)
 exact raw_lit hl h5.1 h5.2
theorem h508c:Holds Try.prog (r508v fun a=>newE a.1 a.2.1=0∧fndE (finN a.1 a.2.1.chosen) a.2.2=0):=by
 refine conE (L:=[r511,r512,r46,r80,r48,r515,r52]) (W:=ownT [r513,r514]) (r508v _) (fG 3) Λ508 (ownT_ok (by simpa using⟨h513,h514⟩)) (by simpa using⟨h511,h512,h46,h80,h48,h515,h52⟩) ?_
 rintro⟨p,⟨c,v⟩,l⟩ ⟨hl,hE,hF⟩
 refine vcOf (let z7:=(finN p c).p;let z8:=(finN p c).vals;let z9:=nOf (finN p c);let z10:=bstM z7 z8 l z9;let z11:=(stpO z7 z8 l z10).snd;let z12:=z11.snd.snd.fst;let z13:=z11.snd.snd.snd;let z14:=(z11.snd.fst,z12,z13);let z15:=decide (z14=(false,[],[]));let z16:=z11.fst.payers;let z17:=(stpO z7 z8 l z10).fst;let z18:=z17.payers;let z19:=!litB p (12:Int) [l];let z20:=decide ((12:Int)<(↑c.length:Int));let z21:=SV.ptr 2 0 24;let z22:=SV.ptr 5 0 7;let z23:=SV.ptr 6 0 3;let z24:=SId.i .i64;let z25:=SObj.cells [SV.si .i64 p.supply.a0,SV.si .i64 p.supply.a1,SV.si .i64 p.supply.a2,SV.si .i64 p.supply.a3,SV.si .i64 p.supply.a4,SV.si .i64 p.supply.a5,SV.si .i64 p.opn.a0,SV.si .i64 p.opn.a1,SV.si .i64 p.opn.a2,SV.si .i64 p.opn.a3,SV.si .i64 p.opn.a4,SV.si .i64 p.opn.a5,SV.si .i64 p.cls.a0,SV.si .i64 p.cls.a1,SV.si .i64 p.cls.a2,SV.si .i64 p.cls.a3,SV.si .i64 p.cls.a4,SV.si .i64 p.cls.a5,SV.row z24 p.classes,SV.row SId.off p.offers] 27 20 false;let z26:=SObj.cells [SV.row z24 c,SV.si .i64 v] 29 2 false;let z27:=z7.supply;let z28:=SObj.cells [SV.si .i64 z27.a0,SV.si .i64 z27.a1,SV.si .i64 z27.a2,SV.si .i64 z27.a3,SV.si .i64 z27.a4,SV.si .i64 z27.a5,SV.si .i64 z7.opn.a0,SV.si .i64 z7.opn.a1,SV.si .i64 z7.opn.a2,SV.si .i64 z7.opn.a3,SV.si .i64 z7.opn.a4,SV.si .i64 z7.opn.a5,SV.si .i64 z7.cls.a0,SV.si .i64 z7.cls.a1,SV.si .i64 z7.cls.a2,SV.si .i64 z7.cls.a3,SV.si .i64 z7.cls.a4,SV.si .i64 z7.cls.a5,SV.row z24 z7.classes,SV.row SId.off z7.offers,SV.row z24 z8,SV.si .i64 (finN p c).wins,SV.mp 3,SV.mp 4] 75 24 false;let z29:=worM z7 z9 (finN p c).wor;let z30:=([0],false);let z31:=SObj.map z24 z24 false z29 z30 true;let z32:=senM z7 z8 l z9 (finN p c).seen;let z33:=SObj.map z24 SId.b false z32 z30 true;let z34:=z11.fst.least;let z35:=SId.i .u32;let z36:=SObj.cells [SV.si .i64 z18,SV.si .i64 z17.least,SV.si .i64 z16,SV.si .i64 z34,SV.sb z11.snd.fst,SV.row z35 z12,SV.row z35 z13] 47 7 false;let z37:=frE (IntCast.intCast (0:Int));let z38:=SObj.cells [SV.sb z37.fst,SV.row z35 z37.snd.fst,SV.row z35 z37.snd.snd] 45 3 false;let z39:=(↑l.length:Int);let z40:=pU z8 z10.snd.fst;let z41:=frE (IntCast.intCast z34);let z42:=decide (z16=(0:Int));let z43:=0+l.length;let z44:=SV.ow 7 l.length 3;let z45:=frE (paidQ l z40 l.length);let z46:=SObj.cells [SV.sb z45.fst,SV.row z35 z45.snd.fst,SV.row z35 z45.snd.snd] 45 3 false;let z47:=z10.snd.snd;let z48:=FnF.mk z7 z8 (finN p c).wins z29 z32;let z0:=z15=false;let z1:=z15=true;let z2:=((List.length z12≤1000000000∧List.length z13≤1000000000)∧0≤1000000000∧0≤1000000000)∧(z1→True∧(SV.sb true).same (SV.sb true))∧(z0→(SV.bl false).same (SV.sb true));let z3:=fun(u:Bool) ↦decide (sgnQ (valF z14)≤(0:Int))=u;let z4:=fun(u:Bool) ↦decide (binK.andI .i64 z16 z18≠(0:Int))=u;let z5:=fun(u:Bool) ↦decide (worthS p z18≠z17.least)=u;let z6:=fun(u:Bool) ↦decide (faultE p z18≠(0:Int))=u;True∧(z19=true→True∧(SV.sb true).same (SV.sb true))∧(z19=false→(z20=true→True∧(SV.sb true).same (SV.sb true))∧(z20=false→((feasE p c=(0:Int)∧v=valueS p c)∧p.classes.length≤4∧c.length≤1000)∧(false=true→(true=true→True∧(SV.sb true).same (SV.sb true))∧(true=false→(SV.bl false).same (SV.sb true)))∧(false=false→((okFn (finN p c)∧rawP l)∧fndE (finN p c) l=(0:Int))∧(false=true→z2)∧(false=false→((!z10.fst)=true→z2)∧((!z10.fst)=false→True∧(z6 true→(SV.bl false).same (SV.sb true))∧(z6 false→(z5 true→(SV.bl false).same (SV.sb true))∧(z5 false→isF z14∧(z3 true→(SV.bl false).same (SV.sb true))∧(z3 false→(z4 true→(SV.bl false).same (SV.sb true))∧(z4 false→((-9223372036854775808:Int)≤(0:Int)∧(0:Int)≤(9223372036854775807:Int))∧((((SV.row sF l).same (SV.row sF l)∧z21.same z21∧z22.same z22∧z23.same z23∧(SV.il .i64 0).same (SV.si .i64 0)∧True)∧z25.same z25∧z26.same z26∧z28.same z28∧z31.same z31∧z33.same z33∧z36.same z36∧z38.same z38∧True)∧((0:Int)≤(0:Int)∧(0:Int)≤z39)∧(z37.fst,z37.snd.fst,z37.snd.snd)=frE (paidQ l z40 0))∧∀(x:Int×Fra),let z51:=x.fst+(1:Int);let z52:=SV.si .i64 z51;let z53:=(x.snd.fst,x.snd.snd.fst,x.snd.snd.snd);let z54:=frE (valF z53+valF z14);let z55:=x.fst.toNat;let z56:=decide (x.fst<(↑l.length:Int));let z57:=decide (binK.andI .i64 (z16 / (2:Int)^z55) (1:Int)=(1:Int));let z58:=(nthD l z55 sF.dflt).snd;let z59:=((nthD l z55 sF.dflt).fst,z58.fst,z58.snd);let z60:=frE (valF z53+valF z59);let z61:=SV.row z35 x.snd.snd.fst;let z62:=SV.row z35 x.snd.snd.snd;let z49:=fun(u u_1 u_2:SV) (u_3:Bool×List Int×List Int) ↦let z63:=SObj.cells [u,u_1,u_2] 45 3 false;inR .i64 z51∧(((SV.row sF l).same (SV.row sF l)∧z21.same z21∧z22.same z22∧z23.same z23∧z52.same z52∧True)∧z25.same z25∧z26.same z26∧z28.same z28∧z31.same z31∧z33.same z33∧z36.same z36∧z63.same z63∧True)∧(((0:Int)≤z51∧z51≤z39)∧u_3=frE (paidQ l z40 z51.toNat))∧(z39 - z51).toNat<(z39 - x.fst).toNat;let z50:=fun(u:Bool) ↦(!decide ((z54.fst,z54.snd.fst,z54.snd.snd)=(z41.fst,z41.snd.fst,z41.snd.snd)))=u;((0:Int)≤x.fst∧x.fst≤z39)∧x.snd=frE (paidQ l z40 z55)→(z56=true→inR .u64 x.fst∧(0:Int)≤x.fst∧x.fst≤(64:Int)∧(z57=true→(0:Int)≤x.fst∧x.fst<(↑l.length:Int)∧z55<l.length∧(isG z53∧isG z59)∧z49 (SV.sb z60.fst) (SV.row z35 z60.snd.fst) (SV.row z35 z60.snd.snd) (z60.fst,z60.snd.fst,z60.snd.snd))∧(z57=false→z49 (SV.sb x.snd.fst) z61 z62 z53))∧(z56=false→(isG z53∧isG z14)∧((-9223372036854775808:Int)≤z34∧z34≤(9223372036854775807:Int))∧((List.length z54.snd.fst≤1000000000∧List.length z54.snd.snd≤1000000000)∧List.length z41.snd.fst≤1000000000∧List.length z41.snd.snd≤1000000000)∧(z50 true→(SV.bl false).same (SV.sb true))∧(z50 false→(z42=true→True∧(SV.sb true).same (SV.sb true))∧(z42=false→0=0∧z43*56≤140737488355328∧z43≤1000000000000∧(((z21.same z21∧z22.same z22∧(SV.ow 7 l.length 3).same z44∧(SV.il .i64 0).same (SV.si .i64 0)∧True)∧z25.same z25∧z26.same z26∧z28.same z28∧z31.same z31∧z33.same z33∧z36.same z36∧(SObj.cells [SV.sb x.snd.fst,z61,z62] 45 3 false).same z46∧(SObj.row (SId.b.pair (z35.lst.pair z35.lst)) l 45 true).same (SObj.row sF (morL l z40 z47 0) 45 true)∧SObj.dead.same SObj.dead∧True)∧(0:Int)≤(0:Int)∧(0:Int)≤z39)∧∀(x:Int),let z66:=x+(1:Int);let z67:=SV.si .i64 z66;let z68:=morL l z40 z47 x.toNat;let z69:=bstM z7 z8 z68 (nOf z48);let z70:=decide (binK.andI .i64 (z16 / (2:Int)^x.toNat) (1:Int)=(1:Int));let z71:=nthD z68 x.toNat sF.dflt;let z72:=(z71.fst,z71.snd.fst,z71.snd.snd);let z73:=frE (valF z72+valF z14);let z64:=fun(u:SObj) ↦inR .i64 z66∧((z21.same z21∧z22.same z22∧z44.same z44∧z67.same z67∧True)∧z25.same z25∧z26.same z26∧z28.same z28∧z31.same z31∧z33.same z33∧z36.same z36∧z46.same z46∧u.same (SObj.row sF (morL l z40 z47 z66.toNat) 45 true)∧SObj.dead.same SObj.dead∧True)∧((0:Int)≤z66∧z66≤z39)∧(z39 - z66).toNat<(z39 - x).toNat;let z65:=fun(u:Bool) ↦decide ((stpO z7 z8 z68 z69).fst.payers≠z18)=u;(0:Int)≤x∧x≤z39→(decide (x<z39)=true→inR .u64 x∧(0:Int)≤x∧x≤(64:Int)∧(z70=true→l.length=z68.length∧(0:Int)≤x∧x<(↑z68.length:Int)∧l.length=z68.length∧x.toNat<z68.length∧(isG z72∧isG z14)∧l.length=z68.length∧(0:Int)≤x∧x<(↑z68.length:Int)∧l.length=z68.length∧x.toNat<z68.length∧z64 (SObj.row sF (z68.set x.toNat (z73.fst,z73.snd.fst,z73.snd.snd)) 45 true))∧(z70=false→z64 (SObj.row sF z68 45 true)))∧(decide (x<z39)=false→l.length=z68.length∧((okFn z48∧rawP z68)∧fndE z48 z68=(0:Int))∧(true=true→((!z69.fst)=true→True∧(SV.sb true).same (SV.sb true))∧((!z69.fst)=false→(z65 true→True∧(SV.sb true).same (SV.sb true))∧(z65 false→(SV.bl false).same (SV.sb true))))∧(true=false→(SV.bl false).same (SV.sb true)))))))))))))))) (by kernel_rfl) ?_
 simp only[vcs]
 have hE:newE p ⟨c,v⟩=0:=hE
 have hF:fndE (finN p c) l=0:=hF
 have hl:rowD l:=hl
 have hz:=newE_zero hE
 refine⟨fun _=>trivial,fun hb=>⟨fun _=>trivial,fun hc=>?_⟩⟩
 obtain⟨_,h4,_,h5⟩:=lit_ok hb
 have h5:=h5 l (by simp)
 have hraw:=raw_lit hl h5.1 h5.2
 obtain⟨hln,hok⟩:=fnd_ok hF
 have hpk:=pay_lit hl h5.1 h5.2 hok
 have hfn:=okFn_new hz.1 h4
 have hV:(valsS p c).length=p.classes.length:=hfn.l
 have hln:l.length=(valsS p c).length:=hln
 have h16:=pow_4 h4
 have hgn:=bstM_gn p (valsS p c) l (nOf (finN p c))
 have eN:((nOf (finN p c):Nat):Int)=2^p.classes.length:=by
  unfold nOf
  show((2^p.classes.length:Nat):Int)=_
  simp
 have hzr:(bstM p (valsS p c) l (nOf (finN p c))).1=false→stpO p (valsS p c) l (bstM p (valsS p c) l (nOf (finN p c)))=stpZ:=fun h=>by unfold stpO;rw[if_neg (by rw[h];decide)]
 have hso:(bstM p (valsS p c) l (nOf (finN p c))).1=true→stpO p (valsS p c) l (bstM p (valsS p c) l (nOf (finN p c)))=stpM p (valsS p c) l (bstM p (valsS p c) l (nOf (finN p c))).2.1:=fun h=>by unfold stpO;rw[if_pos h]
 have ep:(finN p c).p=p:=rfl
 have ev:(finN p c).vals=valsS p c:=rfl
 simp only[ep,ev]
 generalize hb2:bstM p (valsS p c) l (nOf (finN p c))=b at*
 refine⟨⟨hz,h4,by omega⟩,fun h=>(by cases h),fun _=>⟨⟨⟨hfn,hraw⟩,hF⟩,fun h=>(by cases h),fun _=>⟨fun h=>?_,fun h=>?_⟩⟩⟩
 ·rw[hzr h]
  exact⟨⟨⟨by simp[stpZ],by simp[stpZ]⟩,by omega,by omega⟩,fun _=>trivial,fun h=>absurd rfl h⟩
 have hso:=hso h
 obtain⟨g1,g2,g3,g4⟩:=hgn h
 rw[hso]
 rw[eN] at g3
 obtain⟨bt,m,g⟩:=b
 simp only at h g1 g2 g3 g4 hso hb2
 subst h
 subst g1
 have fe:∀x:Fra,(x.1,x.2.1,x.2.2)=x:=fun _=>rfl
 simp only[stpM,fe,valF_frE]
 have hfa:faultE p m=0:=by
  unfold faultE
  rw[if_neg (by have:=hfn.c;exact fun h=>h this),if_neg (by omega)]
 have hgF:=gn_isF hfn (rawP_pay hraw (by omega) hok) m
 have hgs:=gp_sz hfn hpk m (Nat.le_refl _)
 have hgs:Sz (2+(1+(2+1)*l.length)+1) (gnQ p (valsS p c) l m):=hgs
 obtain⟨d1,d2,d3⟩:=@pU_dis (valsS p c) m (by omega) g2 (by omega)
 have hsg:=@sgn_pos (gnQ p (valsS p c) l m)
 have hlU: -9000000000000000≤lU (valsS p c) m (worthS p m)∧lU (valsS p c) m (worthS p m)≤9000000000000000:=lU_sz hfn m
 have hP0:=d2.1
 have hP1:=d2.2
 rw[hV] at hP1
 have hbit:∀i:Int,0≤i→(binK.andI .i64 (pU (valsS p c) m / 2^i.toNat) 1=1↔hasI (pU (valsS p c) m) i=true):=fun i hi=>by
  obtain⟨n0,n1⟩:=half_nn (i:=i.toNat) hP0
  rw[and_one n0 (by omega)]
  unfold hasI
  rw[decide_eq_true_eq]
 refine⟨fun h=>absurd hfa h,fun _=>⟨fun h=>absurd rfl h,fun _=>⟨hgF,fun h=>absurd (hsg.2 g4) (by omega),fun _=>⟨fun h=>absurd d1 h,fun _=>⟨by omega,⟨⟨by omega,by omega⟩,?_⟩,?_⟩⟩⟩⟩⟩
 ·show frE ((0:Int):Rat)=_
  simp[paidQ]
 rintro⟨i,s⟩ ⟨⟨i0,i1⟩,hs⟩
 simp only at i0 i1 hs
 subst hs
 simp only[fe,valF_frE]
 have e:(i+1).toNat=i.toNat+1:=by omega
 have ei:((i.toNat:Nat):Int)=i:=by omega
 have hps:=paidK_sz (m:=pU (valsS p c) m) hpk (n:=i.toNat) (by omega)
 have h8:=h5.1
 have hgn:=fun h=>@bstM_gn p (valsS p c) (morL l (pU (valsS p c) m) (gnQ p (valsS p c) l m) l.length) (nOf (finN p c)) h
 have hgm:=@gn_mor p (valsS p c) l m hln (by omega) g2 (by omega) g4
 have hpG:∀j:Nat,j<l.length→isG (nthD l j sF.dflt)∧∃q,nthD l j sF.dflt=frE q∧Sz 2 q:=fun j hj=>by
  obtain⟨q,hq,hsz⟩:=payK_get hpk hj
  exact⟨⟨q,2,hq,hsz,by omega⟩,q,hq,hsz⟩
 have hgG:isG (frE (gnQ p (valsS p c) l m)):=⟨_,_,rfl,hgs,by omega⟩
 have emL:∀n,(morL l (pU (valsS p c) m) (gnQ p (valsS p c) l m) n).length=l.length:=fun n=>mor_len
 refine⟨fun hi=>?_,fun hi=>?_⟩
 ·have hsu:=@paidQ_succ l (pU (valsS p c) m) i.toNat
  rw[ei] at hsu
  rw[e]
  have hb3:=hbit i i0
  refine⟨u64_in (by omega) (by omega),i0,by omega,fun h1=>?_,fun h1=>?_⟩
  ·rw[hb3] at h1
   rw[if_pos h1] at hsu
   rw[hsu]
   exact⟨i0,hi,by omega,⟨⟨_,_,rfl,hps,by omega⟩,(hpG _ (by omega)).1⟩,by omega,⟨⟨by omega,by omega⟩,rfl⟩,by omega⟩
  ·rw[hb3] at h1
   rw[if_neg h1] at hsu
   rw[hsu]
   exact⟨by omega,⟨⟨by omega,by omega⟩,rfl⟩,by omega⟩
 ·have hil:i.toNat=l.length:=by omega
  rw[hil] at hps ⊢
  have esum:paidQ l (pU (valsS p c) m) l.length+gnQ p (valsS p c) l m=((lU (valsS p c) m (worthS p m):Int):Rat):=by
   show _+((lU (valsS p c) m (worthS p m):Rat) - paidQ l (pU (valsS p c) m) l.length)=_
   grind
  rw[esum]
  have hW:Sz 2 ((lU (valsS p c) m (worthS p m):Int):Rat):=by
   unfold Sz
   simp
   omega
  have hWl:=frE_len hW
  refine⟨⟨⟨_,_,rfl,hps,by omega⟩,hgG⟩,by omega,⟨⟨by omega,by omega⟩,⟨Nat.le_trans hWl.1 (by omega),Nat.le_trans hWl.2 (by omega)⟩⟩,fun h=>absurd rfl h,fun _=>⟨fun _=>trivial,fun hP=>⟨by omega,by omega,⟨⟨rfl,by rw[mor_zero];rfl⟩,by omega,by omega⟩,?_⟩⟩⟩
  rintro k ⟨k0,k1⟩
  have ek:(k+1).toNat=k.toNat+1:=by omega
  have eik:((k.toNat:Nat):Int)=k:=by omega
  simp only[emL]
  refine⟨fun hk=>?_,fun hk=>?_⟩
  ·have hms:=@mor_succ l (pU (valsS p c) m) (gnQ p (valsS p c) l m) k.toNat (by omega)
   rw[eik] at hms
   rw[ek]
   have hb3:=hbit k k0
   have hn:=@mor_nth l (pU (valsS p c) m) (gnQ p (valsS p c) l m) k.toNat k.toNat (by omega)
   rw[if_neg (by omega)] at hn
   refine⟨u64_in (by omega) (by omega),k0,by omega,fun h1=>?_,fun h1=>?_⟩
   ·rw[hb3] at h1
    rw[if_pos h1] at hms
    rw[hms]
    exact⟨trivial,k0,hk,trivial,by omega,⟨by rw[hn];exact(hpG _ (by omega)).1,hgG⟩,trivial,k0,hk,trivial,by omega,by omega,rfl,by omega,by omega⟩
   ·rw[hb3] at h1
    rw[if_neg h1] at hms
    rw[hms]
    exact⟨by omega,rfl,by omega,by omega⟩
  ·have hkl:k.toNat=l.length:=by omega
   rw[hkl]
   have hmr:=@raw_frE (morL l (pU (valsS p c) m) (gnQ p (valsS p c) l m) l.length) (by rw[emL];omega) (fun x hx=>by
    obtain⟨j,hj,rfl⟩:=List.getElem_of_mem hx
    rw[emL] at hj
    have hn:=@mor_nth l (pU (valsS p c) m) (gnQ p (valsS p c) l m) l.length j hj
    rw[nthD_eq (by rw[emL];exact hj)] at hn
    rw[hn]
    obtain⟨_,q,hq,hsz⟩:=hpG j hj
    rw[hq,valF_frE]
    split
    ·exact⟨_,rfl,(sz_add hsz hgs).mono (by omega)⟩
    ·exact⟨_,rfl,hsz.mono (by omega)⟩)
   have hfe:fndE ⟨p,valsS p c,(finN p c).wins,worM p (nOf (finN p c)) (finN p c).wor,senM p (valsS p c) l (nOf (finN p c)) (finN p c).seen⟩ (morL l (pU (valsS p c) m) (gnQ p (valsS p c) l m) l.length)=0:=by
    unfold fndE
    rw[if_neg (by rw[emL];exact fun h=>h hln),if_neg (by rw[hmr.2];decide)]
   have hno:nOf ⟨p,valsS p c,(finN p c).wins,worM p (nOf (finN p c)) (finN p c).wor,senM p (valsS p c) l (nOf (finN p c)) (finN p c).seen⟩=nOf (finN p c):=rfl
   rw[hno]
   refine⟨trivial,⟨⟨okFn_st hfn l _,hmr.1⟩,hfe⟩,fun _=>⟨fun _=>trivial,fun h2=>⟨fun _=>trivial,fun h3=>?_⟩⟩,fun h=>(by cases h)⟩
   exfalso
   apply h3
   intro h4
   obtain⟨q1,q2,q3,q4⟩:=hgn h2
   have est:(stpO p (valsS p c) (morL l (pU (valsS p c) m) (gnQ p (valsS p c) l m) l.length) (bstM p (valsS p c) (morL l (pU (valsS p c) m) (gnQ p (valsS p c) l m) l.length) (nOf (finN p c)))).1.payers=(bstM p (valsS p c) (morL l (pU (valsS p c) m) (gnQ p (valsS p c) l m) l.length) (nOf (finN p c))).2.1:=by
    unfold stpO
    rw[if_pos h2]
    rfl
   rw[est] at h4
   rw[h4] at q1
   rw[q1] at q4
   exact hgm hP q4
def r508:SCtr:=r508v fun _=>True
theorem h508:Holds Try.prog r508:=by
 rintro⟨p,a,l⟩ ⟨hl, -⟩
 by_cases hE:newE p a=0
 ·by_cases hF:fndE (finN p a.chosen) l=0
  ·exact h508c (p,a,l) ⟨hl,hE,hF⟩
  ·exact h508b (p,a,l) ⟨hl,hE,hF⟩
 ·exact h508a (p,a,l) ⟨hl,hE⟩
end Go.Vi
