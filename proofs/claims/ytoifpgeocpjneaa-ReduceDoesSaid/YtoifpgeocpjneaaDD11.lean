/-
  Contracts: the optimum of the relaxation with fixed offers.
  Conditions: none.
-/
import Derived.Test.YtoifpgeocpjneaaDD06
import Derived.Test.YtoifpgeocpjneaaDD07
import Derived.Test.YtoifpgeocpjneaaDD08
import Derived.Test.YtoifpgeocpjneaaDD09
import Derived.Test.YtoifpgeocpjneaaDD10
import Derived.Test.YtoifpgeocpjneaaProg
import Derived.Shelf.Sort.AssemblyIn
import Derived.Shelf.SlicesE.Clone
import Derived.Shelf.SlicesE.Delete
import Derived.KernelRfl
import Derived.Sort.EveryDepth
import Derived.Sort.OwnSortedInts
import Derived.WalkKit
import Derived.Deep.LoopGhost
import Derived.Lib.Walk
import Derived.Lib.SliceRun
import Derived.Shelf.RegionOpenPlain
set_option maxRecDepth 100000
set_option maxHeartbeats 4000000
set_option linter.unusedSimpArgs false
set_option linter.unusedVariables false
namespace Go.Vi
open Go.Proofs.Ytoifpgeocpjneaa.Ir
open Go.Proofs
theorem relP_ok {p:Prob} {f:List Int} (h:fixOk p f):lpOk (relP p f):=by
 have hg:=good_of h.1
 have e1:(relP p f).1.length=nF f:=by
  show((dcI f 0).map _).length=_
  rw[List.length_map]
 have e2:(relP p f).2.length=mF p:=by
  show((uptoI (mF p)).map _).length=_
  rw[List.length_map,uptoI_len]
 have hl:=@dcI_len f 0
 have hm:mF p=p.classes.length+12:=rfl
 refine⟨?_,?_,?_,?_,?_⟩
 ·rw[e1];have:=h.2.1;have:=hg.2.1;have hx:(relP p f).1.length=(dcI f 0).length:=e1;unfold nF;omega
 ·rw[e2];have:=hg.1;omega
 ·rw[e1,e2,rel_ini];exact⟨4,1000000,rel_small h⟩
 ·rw[e2,rel_ini];exact rel_feas h
 ·rw[e1,e2,rel_ini];exact⟨_,fun x z hx h0=>rel_bnd h hx h0⟩
theorem lpT_opt {p:Prob} {f:List Int}:lpT (relP p f)=optT p f:=by
 have e1:(relP p f).1.length=nF f:=by
  show((dcI f 0).map _).length=_
  rw[List.length_map]
 have e2:(relP p f).2.length=mF p:=by
  show((uptoI (mF p)).map _).length=_
  rw[List.length_map,uptoI_len]
 unfold lpT optT
 rw[e1,e2,rel_ini]
noncomputable def solR (p:Prob) (f:List Int) (k:Nat):List Rat:=(uptoI f.length).map fun i=>if nthD f i.toNat 0=1 then 1 else if i∈(dcI f 0).take k then nthD (ptL (optT p f) (nF f) (mF p)) ((dcI f 0).idxOf i) 0 else 0
noncomputable def bndQ (p:Prob) (f:List Int):Rat:=((accS p f:Int):Rat)+(optT p f).value
noncomputable def priQ (p:Prob) (f:List Int):List Rat:=prL (optT p f) (nF f) (mF p) (nF f)
theorem solR_len {p:Prob} {f:List Int} {k:Nat}:(solR p f k).length=f.length:=by
 unfold solR
 rw[List.length_map,uptoI_len]
theorem solR_nth {p:Prob} {f:List Int} {k i:Nat} (h:i<f.length):nthD (solR p f k) i 0=if nthD f i 0=1 then 1 else if(i:Int)∈(dcI f 0).take k then nthD (ptL (optT p f) (nF f) (mF p)) ((dcI f 0).idxOf (i:Int)) 0 else 0:=by
 unfold solR
 rw[nth_mapL (e:=0) (by rw[uptoI_len];exact h),nth_upto h,Int.toNat_natCast]
theorem ext_nthR {l m:List Rat} (h1:l.length=m.length) (h:∀i,i<m.length→nthD l i 0=nthD m i 0):l=m:=List.ext_getElem h1 fun i h2 h3=>by
 have:=h i h3
 rwa [nthD_eq h2,nthD_eq h3] at this
theorem sol_set {p:Prob} {f:List Int} {k:Nat} (hk:k<nF f):(solR p f k).set (nthD (dcI f 0) k 0).toNat (nthD (ptL (optT p f) (nF f) (mF p)) k 0)=solR p f (k+1):=by
 have hm:=dcI_mem.1 (nthD_mem (d:=0) hk)
 refine ext_nthR (by rw[List.length_set,solR_len,solR_len]) fun i hi=>?_
 rw[solR_len] at hi
 have hid:(dcI f 0).idxOf (nthD (dcI f 0) k 0)=k:=idx_nth (dcI_lt.imp fun h=>by omega) hk
 have ht:(dcI f 0).take (k+1)=(dcI f 0).take k++[nthD (dcI f 0) k 0]:=by rw[List.take_succ_eq_append_getElem hk,nthD_eq hk]
 rw[nthT_set (by rw[solR_len];omega),solR_nth hi,solR_nth hi,ht]
 by_cases h3:i=(nthD (dcI f 0) k 0).toNat
 ·have h4:nthD (dcI f 0) k 0=(i:Int):=by omega
  rw[if_pos h3,h4]
  rw[h4,Int.toNat_natCast] at hm
  rw[if_neg (by omega),if_pos (by simp),←h4,hid]
 ·rw[if_neg h3]
  have h4:(i:Int)≠nthD (dcI f 0) k 0:=by omega
  have h5:((i:Int)∈(dcI f 0).take k++[nthD (dcI f 0) k 0])↔(i:Int)∈(dcI f 0).take k:=by simp[h4]
  simp only[h5]
theorem sol_zero {p:Prob} {f:List Int} {i:Nat} (h:i<f.length):nthD (solR p f 0) i 0=if nthD f i 0=1 then 1 else 0:=by
 rw[solR_nth h]
 simp
def okX (p:Prob) (f:List Int):Bool:=decide (fixE p f=0)&&fitB p f
noncomputable def bndF (p:Prob) (f:List Int):Fra:=if okX p f=true then frE (bndQ p f) else(false,([],[]))
noncomputable def priF (p:Prob) (f:List Int):List Fra:=if okX p f=true then fL (priQ p f) else[]
noncomputable def solF (p:Prob) (f:List Int):List Fra:=if okX p f=true then fL (solR p f (nF f)) else[]
noncomputable def relS (p:Prob) (f:List Int):SV:=.agg [.sb (okX p f),.sb (bndF p f).1,.row (.i .u32) (bndF p f).2.1,.row (.i .u32) (bndF p f).2.2,.row sF (priF p f),.row sF (solF p f)]
noncomputable def r390:SCtr:=⟨30,Prob×List Int,.cons codP (.one (codR (.i .i64))),fun a=>a.2.length≤1000000000000,fun a=> .tup [relS a.1 a.2,.si .i64 (fixE a.1 a.2)]⟩
noncomputable def st390 (p:Prob) (f:List Int) (x:List Fra):SStore:=
 [.cells p.ss 27 20 false,.cells [.bl false,.bl false,.sc (.slice none 0 0),.sc (.slice none 0 0),.sc (.slice none 0 0),.sc (.slice none 0 0)] 62 6 false,.cells [.row sF (relG p f).1,.row sR (relG p f).2.1] 88 2 false,
  .cells [.si .i64 1,.sb (frE (optT p f).value).1,.row (.i .u32) (frE (optT p f).value).2.1,.row (.i .u32) (frE (optT p f).value).2.2,.row sF (fL (ptL (optT p f) (nF f) (mF p))),.row sF (fL (priQ p f)),.row sF []] 92 7 false,.row sF x 58 true]
noncomputable def Λ390 (p:Prob) (f:List Int):Nat→LoopAnn
 |12=> .inv Int (fun i=>⟨[(1,.row (.i .i64) f),(2,.ptr 0 0 20),(4,.ptr 1 0 6),(8,.row (.i .i64) (dcI f 0)),(10,.ptr 3 0 7),(11,.ow 4 f.length 3),(45,.row (.i .i64) f),(46,.si .i64 f.length),(47,.si .i64 i)],st390 p f (rowU (fL (solR p f 0)) i.toNat (false,([],[])))⟩)
   (fun s=>iS s 47) (fun i=>0≤i∧i≤f.length) (fun i=>(f.length - i).toNat) fun _ _=> .look
 |19=> .inv Int (fun k=>⟨[(1,.row (.i .i64) f),(2,.ptr 0 0 20),(4,.ptr 1 0 6),(10,.ptr 3 0 7),(11,.ow 4 f.length 3),(63,.row (.i .i64) (dcI f 0)),(64,.si .i64 (dcI f 0).length),(65,.si .i64 k)],st390 p f (fL (solR p f k.toNat))⟩)
   (fun s=>iS s 65) (fun k=>0≤k∧k≤(dcI f 0).length) (fun k=>((dcI f 0).length - k).toNat) fun _ _=> .look
 |_=> .look
theorem h390:Holds Try.prog r390:=by
 refine con (L:=[r393,r394,r395,r94,r396,r129]) r390 F390 (fun a=>Λ390 a.1 a.2) (OwnOK.none _) (by simpa using⟨h393,h394,h395,h94,h396,h129⟩) (by kernel_rfl) (by kernel_rfl) (fun _=>rfl) ?_
 rintro⟨p,f⟩ (hl:f.length≤1000000000000)
 refine vcOf (let z0:=decide (fixE p f≠(0:Int));let z1:=SV.bl false;let z2:=SId.i .i64;let z3:=SV.row z2 [];let z4:=SV.agg [z1,z1,z3,z3,z3,z3];let z5:=[SV.si .i64 (fixE p f)];let z6:=SId.i .u32;let z7:=SV.tup (SV.agg [SV.sb (okX p f),SV.sb (bndF p f).fst,SV.row z6 (bndF p f).snd.fst,SV.row z6 (bndF p f).snd.snd,SV.row sF (priF p f),SV.row sF (solF p f)]::z5);let z8:=decide ((if fitB p f=true then(0:Int) else(14:Int))≠(0:Int));let z9:=SV.il .i64 0;let z10:=(relG p f).fst;let z11:=(relG p f).snd.fst;let z12:=SV.si .i64 0;let z13:=(↑f.length:Int);let z14:=SV.ptr 0 0 20;let z15:=SV.ptr 1 0 6;let z16:=dcI f (0:Int);let z17:=SV.row z2 z16;let z18:=SV.ptr 3 0 7;let z19:=SV.ow 4 f.length 3;let z20:=(↑f.length:Int);let z21:=SV.si .i64 z20;let z22:=SObj.cells [SV.si .i64 p.supply.a0,SV.si .i64 p.supply.a1,SV.si .i64 p.supply.a2,SV.si .i64 p.supply.a3,SV.si .i64 p.supply.a4,SV.si .i64 p.supply.a5,SV.si .i64 p.opn.a0,SV.si .i64 p.opn.a1,SV.si .i64 p.opn.a2,SV.si .i64 p.opn.a3,SV.si .i64 p.opn.a4,SV.si .i64 p.opn.a5,SV.si .i64 p.cls.a0,SV.si .i64 p.cls.a1,SV.si .i64 p.cls.a2,SV.si .i64 p.cls.a3,SV.si .i64 p.cls.a4,SV.si .i64 p.cls.a5,SV.row z2 p.classes,SV.row SId.off p.offers] 27 20 false;let z23:=SV.sc (Value.slice none 0 0);let z24:=SObj.cells [z1,z1,z23,z23,z23,z23] 62 6 false;let z25:=SObj.cells [SV.row sF z10,SV.row sR z11] 88 2 false;let z26:=SV.si .i64 1;let z27:=List.map (fun r ↦(vL r.fst,valF r.snd)) z11;let z28:=lpT (vL z10,z27);let z29:=(vL z10).length;let z30:=frE (optT p f).value;let z31:=fL (ptL (optT p f) (nF f) (mF p));let z32:=SV.row sF (fL (priQ p f));let z33:=SObj.cells [z26,SV.sb z30.fst,SV.row z6 z30.snd.fst,SV.row z6 z30.snd.snd,SV.row sF z31,z32,SV.row sF []] 92 7 false;let z34:=(false,[],[]);let z35:=fL (solR p f 0);let z36:=frE (IntCast.intCast (0:Int));let z37:=frE (IntCast.intCast (1:Int));let z38:=(↑z16.length:Int);let z39:=SV.si .i64 z38;let z40:=frE (IntCast.intCast (accS p f));let z41:=(z40.fst,z40.snd.fst,z40.snd.snd);let z42:=(z30.fst,z30.snd.fst,z30.snd.snd);let z43:=frE (valF z41+valF z42);f.length≤1000000000000∧(z0=true→(SV.tup (z4::z5)).same z7)∧(z0=false→((checkE p=(0:Int)∧f.length=p.offers.length)∧rngB f=true)∧(z8=true→(SV.tup [z4,z9]).same z7)∧(z8=false→(∃a,(z10,z11)=encP a∧lpOk a)∧(false=true→(SV.tup [z4,z12]).same z7)∧(false=false→(0:Int)≤z13∧z13≤z13∧z13*(56:Int)≤(140737488355328:Int)∧z13≤(1000000000000:Int)∧((((SV.row z2 f).same (SV.row z2 f)∧z14.same z14∧z15.same z15∧(SV.row z2 (relG p f).snd.snd).same z17∧z18.same z18∧(SV.ow 4 z13.toNat 3).same z19∧(SV.row z2 f).same (SV.row z2 f)∧(SV.si .i64 z13).same z21∧z9.same z12∧True)∧z22.same z22∧z24.same z24∧z25.same z25∧(SObj.cells [z26,SV.sb (frE z28.value).fst,SV.row z6 (frE z28.value).snd.fst,SV.row z6 (frE z28.value).snd.snd,SV.row sF (fL (ptL z28 z29 z27.length)),SV.row sF (fL (prL z28 z29 z27.length z29)),SV.row sF []] 92 7 false).same z33∧(SObj.row (SId.b.pair (z6.lst.pair z6.lst)) (List.replicate z13.toNat z34) 58 true).same (SObj.row sF (rowU z35 0 z34) 58 true)∧True)∧(0:Int)≤(0:Int)∧(0:Int)≤z20)∧∀(x:Int),let z44:=rowU z35 x.toNat z34;let z45:=decide (nthD f x.toNat (0:Int)=(1:Int));let z46:=z44.set x.toNat (z36.fst,z36.snd.fst,z36.snd.snd);let z47:=x+(1:Int);let z48:=SV.si .i64 z47;let z49:=SObj.row sF (rowU z35 z47.toNat z34) 58 true;(0:Int)≤x∧x≤z20→(decide (x<z20)=true→(0:Int)≤x∧x<z13∧x.toNat<f.length∧((-9223372036854775808:Int)≤(0:Int)∧(0:Int)≤(9223372036854775807:Int))∧f.length=z44.length∧(0:Int)≤x∧x<(↑z44.length:Int)∧f.length=z44.length∧x.toNat<z44.length∧(z45=true→((-9223372036854775808:Int)≤(1:Int)∧(1:Int)≤(9223372036854775807:Int))∧f.length=z46.length∧(0:Int)≤x∧x<(↑z46.length:Int)∧f.length=z46.length∧x.toNat<z46.length∧inR .i64 z47∧(((SV.row z2 f).same (SV.row z2 f)∧z14.same z14∧z15.same z15∧z17.same z17∧z18.same z18∧z19.same z19∧(SV.row z2 f).same (SV.row z2 f)∧z21.same z21∧z48.same z48∧True)∧z22.same z22∧z24.same z24∧z25.same z25∧z33.same z33∧(SObj.row sF (z46.set x.toNat (z37.fst,z37.snd.fst,z37.snd.snd)) 58 true).same z49∧True)∧((0:Int)≤z47∧z47≤z20)∧(z20 - z47).toNat<(z20 - x).toNat)∧(z45=false→inR .i64 z47∧(((SV.row z2 f).same (SV.row z2 f)∧z14.same z14∧z15.same z15∧z17.same z17∧z18.same z18∧z19.same z19∧(SV.row z2 f).same (SV.row z2 f)∧z21.same z21∧z48.same z48∧True)∧z22.same z22∧z24.same z24∧z25.same z25∧z33.same z33∧(SObj.row sF z46 58 true).same z49∧True)∧((0:Int)≤z47∧z47≤z20)∧(z20 - z47).toNat<(z20 - x).toNat))∧(decide (x<z20)=false→((((SV.row z2 f).same (SV.row z2 f)∧z14.same z14∧z15.same z15∧z18.same z18∧z19.same z19∧z17.same z17∧(SV.si .i64 (↑z16.length:Int)).same z39∧z9.same z12∧True)∧z22.same z22∧z24.same z24∧z25.same z25∧z33.same z33∧(SObj.row sF z44 58 true).same (SObj.row sF z35 58 true)∧True)∧(0:Int)≤(0:Int)∧(0:Int)≤z38)∧∀(x:Int),let z50:=fL (solR p f x.toNat);let z51:=nthD z16 x.toNat (0:Int);let z52:=x+(1:Int);let z53:=SV.si .i64 z52;let z54:=nthD z31 x.toNat sF.dflt;(0:Int)≤x∧x≤z38→(decide (x<z38)=true→(0:Int)≤x∧x<(↑z16.length:Int)∧x.toNat<z16.length∧(0:Int)≤x∧x<(↑z31.length:Int)∧x.toNat<z31.length∧f.length=z50.length∧(0:Int)≤z51∧z51<(↑z50.length:Int)∧f.length=z50.length∧z51.toNat<z50.length∧inR .i64 z52∧(((SV.row z2 f).same (SV.row z2 f)∧z14.same z14∧z15.same z15∧z18.same z18∧z19.same z19∧z17.same z17∧z39.same z39∧z53.same z53∧True)∧z22.same z22∧z24.same z24∧z25.same z25∧z33.same z33∧(SObj.row sF (z50.set z51.toNat (z54.fst,z54.snd.fst,z54.snd.snd)) 58 true).same (SObj.row sF (fL (solR p f z52.toNat)) 58 true)∧True)∧((0:Int)≤z52∧z52≤z38)∧(z38 - z52).toNat<(z38 - x).toNat)∧(decide (x<z38)=false→(checkE p=(0:Int)∧f.length=p.offers.length)∧(isF z41∧isF z42)∧f.length=z50.length∧(SV.tup [SV.agg [SV.bl true,SV.sb z43.fst,SV.row z6 z43.snd.fst,SV.row z6 z43.snd.snd,z32,SV.row sF z50],z9]).same z7)))))) (by kernel_rfl) ?_
 simp only[vcs]
 have hz:okX p f=false→(SV.agg [SV.bl false,SV.bl false,SV.row (SId.i IntKind.i64) [],SV.row (SId.i IntKind.i64) [],SV.row (SId.i IntKind.i64) [],SV.row (SId.i IntKind.i64) []]).same
   (SV.agg [SV.sb (okX p f),SV.sb (bndF p f).fst,SV.row (SId.i IntKind.u32) (bndF p f).snd.fst,SV.row (SId.i IntKind.u32) (bndF p f).snd.snd,SV.row sF (priF p f),SV.row sF (solF p f)]):=fun h=>by
  unfold bndF priF solF
  simp only[h]
  rfl
 refine⟨hl,fun h=>hz (by unfold okX;rw[decide_eq_false h];rfl),fun h=>?_⟩
 have hx0:fixE p f=0:=Classical.not_not.1 h
 have hcl:checkE p=0∧f.length=p.offers.length∧rngB f=true:=by
  unfold fixE at hx0
  split at hx0
  ·rename_i h1;exact absurd hx0 h1
  ·rename_i h1
   split at hx0
   ·cases hx0
   ·rename_i h2
    split at hx0
    ·rename_i h3;exact⟨Classical.not_not.1 h1,Classical.not_not.1 h2,h3⟩
    ·cases hx0
 obtain⟨hc,hln,hr⟩:=hcl
 refine⟨⟨⟨hc,hln⟩,hr⟩,fun h1=>⟨hz ?_,hx0.symm⟩,fun h1=>?_⟩
 ·have hb:fitB p f=false:=by
   cases hb:fitB p f with
   |false=>rfl
   |true=>rw[hb] at h1;exact absurd rfl h1
  unfold okX
  rw[hb,Bool.and_false]
 ·have hb:fitB p f=true:=by
   cases hb:fitB p f with
   |true=>rfl
   |false=>rw[hb] at h1;exact absurd (by simp) h1
  have hfx:fixOk p f:=⟨hc,hln,hb⟩
  have hG:relG p f=((encP (relP p f)).1,((encP (relP p f)).2,dcI f 0)):=by unfold relG;rw[if_pos hb]
  have hok:okX p f=true:=by unfold okX;rw[hb,decide_eq_true hx0];rfl
  have h0:(IntCast.intCast 0:Rat)=0:=rfl
  have h1':(IntCast.intCast 1:Rat)=1:=rfl
  simp only[hG,encP_1,encP_2,h0,h1',fra_eta]
  have e1:(relP p f).1.length=nF f:=by
   show((dcI f 0).map _).length=_
   rw[List.length_map]
  have e2:(relP p f).2.length=mF p:=by
   show((uptoI (mF p)).map _).length=_
   rw[List.length_map,uptoI_len]
  have hpair:((relP p f).1,(relP p f).2)=relP p f:=rfl
  simp only[hpair,lpT_opt,e1,e2]
  have hrT:∀{x y:List Fra},x=y→(SObj.row sF x 58 true).same (SObj.row sF y 58 true):=by rintro _ _ rfl;rfl
  have hs0:=@solR_len p f 0
  have hf0:=@fL_len (solR p f 0)
  have hpt:=@ptL_len (optT p f) (nF f) (mF p)
  have hfp:=@fL_len (ptL (optT p f) (nF f) (mF p))
  have hcast:∀k:Nat,((k:Nat):Int).toNat=k:=fun k=>Int.toNat_natCast k
  have hnf:nF f=(dcI f 0).length:=rfl
  have hdl0:=@dcI_len f 0
  refine⟨⟨relP p f,rfl,relP_ok hfx⟩,fun h=>(by cases h),fun _=>⟨by omega,by omega,by omega,by omega,⟨⟨⟨trivial,by rw[hcast];rfl⟩,rfl,hrT (by rw[rowU_zero,hf0,hs0,hcast])⟩,by omega,by omega⟩,?_⟩⟩
  rintro i ⟨i0,i1⟩
  have hru:=@rowU_len (fL (solR p f 0)) i.toNat (false,([],[])) (by omega)
  refine⟨fun hi=>?_,fun hi=>?_⟩
  ·have hv:nthD (fL (solR p f 0)) i.toNat (false,([],[]))=frE (if nthD f i.toNat 0=1 then 1 else 0):=by rw[fL_nth (by omega),sol_zero (by omega)]
   have hset:∀x:Fra,x=frE (if nthD f i.toNat 0=1 then 1 else 0)→(rowU (fL (solR p f 0)) i.toNat (false,([],[]))).set i.toNat x=rowU (fL (solR p f 0)) (i+1).toNat (false,([],[])):=fun x hx=>by
    have:=rowU_set (d:=fL (solR p f 0)) (j:=i.toNat) (z:=(false,([],[]))) (x:=x) (by omega) (hx.trans hv.symm)
    rw[show(i+1).toNat=i.toNat+1 by omega]
    exact this
   rw[List.length_set]
   refine⟨i0,hi,by omega,by omega,by omega,i0,by omega,by omega,by omega,fun h1=>⟨by omega,by omega,i0,by omega,by omega,by omega,by omega,hrT ?_,by omega,by omega⟩,fun h1=>⟨by omega,hrT ?_,by omega,by omega⟩⟩
   ·rw[List.set_set]
    exact hset _ (by rw[if_pos h1])
   ·exact hset _ (by rw[if_neg h1])
  ·have hi2:i.toNat=(fL (solR p f 0)).length:=by omega
   rw[hi2,rowU_all]
   refine⟨⟨hrT rfl,by omega,by omega⟩,?_⟩
   rintro k ⟨k0,k1⟩
   have hsk:=@solR_len p f k.toNat
   have hfk:=@fL_len (solR p f k.toNat)
   refine⟨fun hk=>?_,fun hk=>?_⟩
   ·have hm:=(dcI_mem.1 (nthD_mem (d:=0) (show k.toNat<(dcI f 0).length by omega))).1
    have hv:nthD (fL (ptL (optT p f) (nF f) (mF p))) k.toNat sF.dflt=frE (nthD (ptL (optT p f) (nF f) (mF p)) k.toNat 0):=fL_nth (by omega)
    have hst:=@sol_set p f k.toNat (by omega)
    rw[hv]
    refine⟨k0,hk,by omega,k0,by omega,by omega,by omega,hm.1,by omega,by omega,by omega,by omega,hrT ?_,by omega,by omega⟩
    rw[fL_set,show(k+1).toNat=k.toNat+1 by omega,hst]
   ·have hk2:k.toNat=nF f:=by omega
    rw[hk2] at hsk hfk ⊢
    have hab:=@acc_bd p hc f f.length hln
    rw[List.take_length] at hab
    have hsa:Sz 1 ((accS p f:Int):Rat):=by
     unfold Sz
     rw[Rat.num_intCast,Rat.den_intCast]
     omega
    have hsv:Sz 1000000 (optT p f).value:=by
     have:=(rel_small hfx).szT (opt_run hfx).1
     exact this.2.2.2
    refine⟨⟨hc,hln⟩,⟨isF_of hsa (by omega),isF_of hsv (by omega)⟩,by omega,?_,hx0.symm⟩
    unfold bndF priF solF
    simp only[hok,if_true,valF_frE]
    rfl
theorem asc_ext:∀{l m:List Int},l.Pairwise (·<·)→m.Pairwise (·<·)→(∀x,x∈l↔x∈m)→l=m
 |[],[],_,_,_=>rfl
 |[],y::m,_,_,h=>by have:=(h y).2 (by simp);simp at this
 |x::l,[],_,_,h=>by have:=(h x).1 (by simp);simp at this
 |x::l,y::m,hl,hm,h=>by
  rw[List.pairwise_cons] at hl hm
  have e:x=y:=by
   rcases List.mem_cons.1 ((h x).1 (by simp)) with h1|h1
   ·exact h1
   ·rcases List.mem_cons.1 ((h y).2 (by simp)) with h2|h2
    ·exact h2.symm
    ·have:=hl.1 y h2;have:=hm.1 x h1;omega
  subst e
  congr 1
  refine asc_ext hl.2 hm.2 fun z=>?_
  constructor
  ·intro hz
   rcases List.mem_cons.1 ((h z).1 (List.mem_cons_of_mem _ hz)) with h1|h1
   ·have:=hl.1 z hz;omega
   ·exact h1
  ·intro hz
   rcases List.mem_cons.1 ((h z).2 (List.mem_cons_of_mem _ hz)) with h1|h1
   ·have:=hm.1 z hz;omega
   ·exact h1
section
variable {p:Prob} {f t:List Int}
end
def domB (p:Prob) (i k:Int):Bool:=decide (i≠k)&&(decide ((oI p i).bidder=(oI p k).bidder)&&((oI p i).want.le (oI p k).want&&(decide ((oI p k).value<(oI p i).value)||(decide ((oI p i).value=(oI p k).value)&&decide (i<k)))))
def domK (p:Prob) (k:Int) (n:Nat):Bool:=(uptoI n).any fun i=>domB p i k
def domL (p:Prob) (n:Nat):List Int:=(uptoI n).filter fun k=>domK p k p.offers.length
def domS (p:Prob):List Int:=domL p p.offers.length
theorem domL_len {p:Prob} {n:Nat}:(domL p n).length≤n:=by
 have:=List.length_filter_le (fun k=>domK p k p.offers.length) (uptoI n)
 rw[uptoI_len] at this
 exact this
theorem domL_succ {p:Prob} {k:Int} (h:0≤k):domL p (k+1).toNat=domL p k.toNat++if domK p k p.offers.length=true then[k] else[]:=by
 unfold domL
 rw[show(k+1).toNat=k.toNat+1 by omega,uptoI_succ,List.filter_append,show((k.toNat:Nat):Int)=k by omega]
 congr 1
 simp only[List.filter_cons,List.filter_nil]
theorem domK_succ {p:Prob} {k i:Int} (h:0≤i):domK p k (i+1).toNat=(domK p k i.toNat||domB p i k):=by
 unfold domK
 rw[show(i+1).toNat=i.toNat+1 by omega,uptoI_succ,List.any_append,show((i.toNat:Nat):Int)=i by omega]
 simp
theorem domK_hit {p:Prob} {k i:Int} (h0:0≤i) (h1:i<p.offers.length) (h:domB p i k=true):domK p k p.offers.length=true:=by
 unfold domK
 rw[List.any_eq_true]
 exact⟨i,uptoI_mem.2 ⟨h0,h1⟩,h⟩
def r391:SCtr:=⟨37,Prob×Int×Int,.cons codP (.cons (codI .i64) (.one (codI .i64))),fun a=>(0≤a.2.1∧a.2.1<a.1.offers.length)∧(0≤a.2.2∧a.2.2<a.1.offers.length),fun a=> .sb (domB a.1 a.2.1 a.2.2)⟩
theorem h391:Holds Try.prog r391:=by
 refine con (L:=[r144]) r391 F391 (fun _ _=> .look) (OwnOK.none _) (by simpa using h144) (by kernel_rfl) (by kernel_rfl) (fun _=>rfl) ?_
 rintro⟨p,i,k⟩ ⟨⟨i0,i1⟩,k0,k1⟩
 simp only at i0 i1 k0 k1
 refine vcOf (let z0:=p.offers.length;let z1:=SV.sb (domB p i k);let z2:=nthD p.offers i.toNat SId.off.dflt;let z3:=nthD p.offers k.toNat SId.off.dflt;let z4:=decide (z2.bidder≠z3.bidder);let z5:=decide (z3.value<z2.value);let z6:=decide (z2.value=z3.value);(0:Int)≤i∧i<(↑z0:Int)∧i.toNat<z0∧(0:Int)≤k∧k<(↑z0:Int)∧k.toNat<z0∧(decide (i=k)=true→(SV.bl false).same z1)∧(decide (i=k)=false→(z4=true→(SV.bl false).same z1)∧(z4=false→True∧((!z2.want.le z3.want)=true→(SV.bl false).same z1)∧((!z2.want.le z3.want)=false→(z5=true→(SV.bl true).same z1)∧(z5=false→(z6=true→(SV.sb (decide (i<k))).same z1)∧(z6=false→(SV.bl false).same z1)))))) (by kernel_rfl) ?_
 simp only[vcs]
 have hi:nthD p.offers i.toNat SId.off.dflt=oI p i:=rfl
 have hk:nthD p.offers k.toNat SId.off.dflt=oI p k:=rfl
 simp only[hi,hk]
 refine⟨i0,i1,by omega,k0,k1,by omega,fun h=>?_,fun h=>⟨fun h2=>?_,fun h2=>⟨fun h3=>?_,fun h3=>⟨fun h4=>?_,fun h4=>⟨fun h5=>?_,fun h5=>?_⟩⟩⟩⟩⟩
 all_goals
  unfold domB
  simp_all
def r386:SCtr:=⟨24,Prob,.one codP,fun p=>p.offers.length≤1000,fun p=> .row (.i .i64) (domS p)⟩
def Λ386 (p:Prob):Nat→LoopAnn
 |3=> .inv Int (fun k=>⟨[(1,.ptr 0 0 20),(3,.ow 1 (domL p k.toNat).length 1),(8,.si .i64 p.offers.length),(9,.si .i64 k)],[.cells p.ss 27 20 false,.row (.i .i64) (domL p k.toNat) 3 true]⟩)
   (fun s=>iS s 9) (fun k=>0≤k∧k≤p.offers.length) (fun k=>(p.offers.length - k).toNat) fun k j=>match j with
   |6=> .inv Int (fun i=>⟨[(1,.ptr 0 0 20),(3,.ow 1 (domL p k.toNat).length 1),(4,.si .i64 k),(8,.si .i64 p.offers.length),(9,.si .i64 k),(14,.si .i64 p.offers.length),(15,.si .i64 i)],[.cells p.ss 27 20 false,.row (.i .i64) (domL p k.toNat) 3 true]⟩)
     (fun s=>iS s 15) (fun i=>(0≤i∧i≤p.offers.length)∧domK p k i.toNat=false) (fun i=>(p.offers.length - i).toNat) fun _ _=> .look
   |_=> .look
 |_=> .look
theorem h386:Holds Try.prog r386:=by
 refine con (L:=[r391]) r386 F386 Λ386 (OwnOK.none _) (by simpa using h391) (by kernel_rfl) (by kernel_rfl) (fun _=>rfl) ?_
 intro(p:Prob) (hp:p.offers.length≤1000)
 refine vcOf (let z0:=SV.ptr 0 0 20;let z1:=(↑p.offers.length:Int);let z2:=SV.si .i64 z1;let z3:=SId.i .i64;let z4:=SObj.cells [SV.si .i64 p.supply.a0,SV.si .i64 p.supply.a1,SV.si .i64 p.supply.a2,SV.si .i64 p.supply.a3,SV.si .i64 p.supply.a4,SV.si .i64 p.supply.a5,SV.si .i64 p.opn.a0,SV.si .i64 p.opn.a1,SV.si .i64 p.opn.a2,SV.si .i64 p.opn.a3,SV.si .i64 p.opn.a4,SV.si .i64 p.opn.a5,SV.si .i64 p.cls.a0,SV.si .i64 p.cls.a1,SV.si .i64 p.cls.a2,SV.si .i64 p.cls.a3,SV.si .i64 p.cls.a4,SV.si .i64 p.cls.a5,SV.row z3 p.classes,SV.row SId.off p.offers] 27 20 false;(((z0.same z0∧(SV.ow 1 0 1).same (SV.ow 1 (domL p 0).length 1)∧(SV.si .i64 (↑p.offers.length:Int)).same z2∧(SV.il .i64 0).same (SV.si .i64 0)∧True)∧z4.same z4∧(SObj.row z3 [] 3 true).same (SObj.row z3 (domL p 0) 3 true)∧True)∧(0:Int)≤(0:Int)∧(0:Int)≤z1)∧∀(x:Int),let z5:=domL p x.toNat;let z6:=SV.ow 1 z5.length 1;let z7:=SObj.row z3 z5 3 true;let z8:=z5.length+1;let z9:=x+(1:Int);let z10:=SV.ow 1 (domL p z9.toNat).length 1;let z11:=SV.si .i64 z9;let z12:=SObj.row z3 (domL p z9.toNat) 3 true;(0:Int)≤x∧x≤z1→(decide (x<z1)=true→(((z0.same z0∧z6.same z6∧(SV.si .i64 x).same (SV.si .i64 x)∧z2.same z2∧(SV.si .i64 x).same (SV.si .i64 x)∧(SV.si .i64 (↑p.offers.length:Int)).same z2∧(SV.il .i64 0).same (SV.si .i64 0)∧True)∧z4.same z4∧z7.same z7∧True)∧((0:Int)≤(0:Int)∧(0:Int)≤z1)∧domK p x 0=false)∧∀(x_1:Int),let z13:=x_1+(1:Int);let z14:=SV.si .i64 x;let z15:=SV.si .i64 z13;((0:Int)≤x_1∧x_1≤z1)∧domK p x x_1.toNat=false→(decide (x_1<z1)=true→(((0:Int)≤x_1∧x_1<z1)∧(0:Int)≤x∧x<z1)∧(domB p x_1 x=true→z5.length=z5.length∧z8*8≤140737488355328∧z8≤1000000000000∧inR .i64 z9∧((z0.same z0∧(SV.ow 1 (z5++[x]).length 1).same z10∧z2.same z2∧z11.same z11∧True)∧z4.same z4∧(SObj.row z3 (z5++[x]) 3 true).same z12∧True)∧((0:Int)≤z9∧z9≤z1)∧(z1 - z9).toNat<(z1 - x).toNat)∧(domB p x_1 x=false→inR .i64 z13∧((z0.same z0∧z6.same z6∧z14.same z14∧z2.same z2∧z14.same z14∧z2.same z2∧z15.same z15∧True)∧z4.same z4∧z7.same z7∧True)∧(((0:Int)≤z13∧z13≤z1)∧domK p x z13.toNat=false)∧(z1 - z13).toNat<(z1 - x_1).toNat))∧(decide (x_1<z1)=false→inR .i64 z9∧((z0.same z0∧z6.same z10∧z2.same z2∧z11.same z11∧True)∧z4.same z4∧z7.same z12∧True)∧((0:Int)≤z9∧z9≤z1)∧(z1 - z9).toNat<(z1 - x).toNat))∧(decide (x<z1)=false→z5.length=z5.length∧(SV.row z3 z5).same (SV.row z3 (domS p)))) (by kernel_rfl) ?_
 simp only[vcs]
 have hw:∀{a b:Nat},a=b→(SV.ow 1 a 1).same (SV.ow 1 b 1):=by rintro _ _ rfl;rfl
 have hrI:∀{x y:List Int},x=y→(SObj.row (.i .i64) x 3 true).same (SObj.row (.i .i64) y 3 true):=by rintro _ _ rfl;rfl
 refine⟨⟨⟨hw rfl,hrI rfl⟩,by omega,by omega⟩,?_⟩
 rintro k ⟨k0,k1⟩
 have hdl:=@domL_len p k.toNat
 have hds:=@domL_succ p k k0
 refine⟨fun hk=>⟨⟨⟨by omega,by omega⟩,rfl⟩,?_⟩,fun hk=>?_⟩
 ·rintro i ⟨⟨i0,i1⟩,hn⟩
  have hks:=@domK_succ p k i i0
  refine⟨fun hi=>⟨⟨⟨i0,hi⟩,k0,hk⟩,fun hd=>?_,fun hd=>?_⟩,fun hi=>?_⟩
  ·rw[if_pos (domK_hit i0 hi hd)] at hds
   rw[hds]
   exact⟨by omega,by omega,by omega,⟨hw rfl,hrI rfl⟩,by omega,by omega⟩
  ·rw[hn,hd] at hks
   exact⟨by omega,⟨⟨by omega,by omega⟩,hks⟩,by omega⟩
  ·rw[show i.toNat=p.offers.length by omega] at hn
   rw[hn,if_neg (by simp),List.append_nil] at hds
   rw[hds]
   exact⟨by omega,⟨hw rfl,hrI rfl⟩,by omega,by omega⟩
 ·rw[show k.toNat=p.offers.length by omega]
  rfl
def r377:SCtr:=⟨9,Prob,.one codP,fun _=>True,fun p=> .tup [.row (.i .i64) (if checkE p=0 then domS p else[]),.si .i64 (checkE p)]⟩
theorem h377:Holds Try.prog r377:=by
 refine con (L:=[r79,r386]) r377 F377 (fun _ _=> .look) (OwnOK.none _) (by simpa using⟨h79,h386⟩) (by kernel_rfl) (by kernel_rfl) (fun _=>rfl) ?_
 rintro(p:Prob) -
 refine vcOf (let z0:=decide (checkE p≠(0:Int));let z1:=SId.i .i64;let z2:=[SV.si .i64 (checkE p)];let z3:=SV.tup (SV.row z1 (if checkE p=(0:Int) then domS p else[])::z2);True∧(z0=true→(SV.tup (SV.row z1 []::z2)).same z3)∧(z0=false→p.offers.length≤1000∧(SV.tup [SV.row z1 (domS p),SV.il .i64 0]).same z3)) (by kernel_rfl) ?_
 simp only[vcs]
 refine⟨fun h=>by rw[if_neg h],fun h=>?_⟩
 have hc:checkE p=0:=Classical.not_not.1 h
 have:=(good_of hc).2.1
 rw[if_pos hc]
 exact⟨by omega,rfl,hc.symm⟩
def r369:SCtr:=⟨75,Int,.one (codI .i64),fun _=>True,fun _=> .sb false⟩
theorem h369:Holds Try.prog r369:=by
 refine con (L:=[]) r369 F369 (fun _ _=> .look) (OwnOK.none _) (by simp) (by kernel_rfl) (by kernel_rfl) (fun _=>rfl) ?_
 rintro(x:Int) -
 refine vcOf ((SV.sb (decide (x≠x))).same (SV.sb false)) (by kernel_rfl) ?_
 simp[same_sb_sb]
def r397:SCtr:=⟨57,Int,.one (codI .i64),fun _=>True,fun _=> .sb false⟩
theorem h397:Holds Try.prog r397:=by
 refine con (L:=[]) r397 F397 (fun _ _=> .look) (OwnOK.none _) (by simp) (by kernel_rfl) (by kernel_rfl) (fun _=>rfl) ?_
 rintro(x:Int) -
 refine vcOf ((SV.sb (decide (x≠x))).same (SV.sb false)) (by kernel_rfl) ?_
 simp[same_sb_sb]
def r358:SCtr:=⟨56,Int×Int,.cons (codI .i64) (.one (codI .i64)),fun _=>True,fun a=> .sb (decide (a.1<a.2))⟩
theorem h358:Holds Try.prog r358:=by
 refine con (L:=[r369]) r358 F358 (fun _ _=> .look) (OwnOK.none _) (by simpa using h369) (by kernel_rfl) (by kernel_rfl) (fun _=>rfl) ?_
 rintro⟨x,y⟩ -
 refine vcOf (let z0:=SV.sb (decide (x<y));True∧(false=true→True∧(true=true→(SV.bl true).same z0)∧(true=false→(SV.sb (decide (x<y))).same z0))∧(false=false→(SV.sb (decide (x<y))).same z0)) (by kernel_rfl) ?_
 conv=>zeta
 simp[same_sb_sb,same_bl_sb]
def posN (l:List Int) (x:Int):Nat:=(l.filter fun y=>decide (y<x)).length
theorem pos_of {l:List Int} {x:Int} {i:Nat} (hs:l.Pairwise (·<·)) (hi:i≤l.length) (h1:∀k:Nat,k<i→nthD l k 0<x) (h2:∀k:Nat,i≤k→k<l.length→x≤nthD l k 0):posN l x=i∧(x∈l↔i<l.length∧nthD l i 0=x):=by
 refine⟨?_,fun h=>?_,fun h=>?_⟩
 ·unfold posN
  have e:l.filter (fun y=>decide (y<x))=(l.take i).filter (fun y=>decide (y<x))++(l.drop i).filter (fun y=>decide (y<x)):=by rw[←List.filter_append,List.take_append_drop]
  rw[e,List.length_append,List.filter_eq_self.2,List.filter_eq_nil_iff.2,List.length_take]
  ·simp;omega
  ·intro y hy
   obtain⟨k,hk,rfl⟩:=List.getElem_of_mem hy
   rw[List.length_drop] at hk
   rw[List.getElem_drop]
   have:=h2 (i+k) (by omega) (by omega)
   rw[nthD_eq (by omega)] at this
   simp;omega
  ·intro y hy
   obtain⟨k,hk,rfl⟩:=List.getElem_of_mem hy
   rw[List.length_take] at hk
   rw[List.getElem_take]
   have:=h1 k (by omega)
   rw[nthD_eq (by omega)] at this
   simp;omega
 ·obtain⟨k,hk,rfl⟩:=List.getElem_of_mem h
  have hik:i≤k:=by
   rcases Nat.lt_or_ge k i with h3|h3
   ·have:=h1 k h3
    rw[nthD_eq hk] at this
    omega
   ·exact h3
  rcases Nat.eq_or_lt_of_le hik with h3|h3
  ·subst h3;exact⟨hk,nthD_eq hk⟩
  ·have h4:=h2 i (Nat.le_refl _) (by omega)
   rw[nthD_eq (show i<l.length by omega)] at h4
   have:=List.pairwise_iff_getElem.1 hs i k (by omega) hk h3
   omega
 ·rw[←h.2]
  exact nthD_mem h.1
def r392:SCtr:=⟨39,List Int×Int,.cons (codR (.i .i64)) (.one (codI .i64)),fun a=>a.1.length≤1000000000000∧a.1.Pairwise (·<·),fun a=> .tup [.si .i64 (posN a.1 a.2),.sb (decide (a.2∈a.1))]⟩
def Λ392 (l:List Int) (x:Int):Nat→LoopAnn
 |3=> .inv (Int×Int) (fun y=>⟨[(0,.row (.i .i64) l),(1,.si .i64 x),(6,.si .i64 l.length),(7,.si .i64 y.1),(8,.si .i64 y.2)],[]⟩)
   (fun s=>(iS s 7,iS s 8)) (fun y=>(0≤y.1∧y.1≤y.2∧y.2≤l.length)∧(∀k:Nat,k<y.1→nthD l k 0<x)∧∀k:Nat,y.2≤k→k<l.length→x≤nthD l k 0) (fun y=>(y.2 - y.1).toNat) fun _ _=> .look
 |_=> .look
theorem h392:Holds Try.prog r392:=by
 refine con (L:=[r358,r397]) r392 F392 (fun a=>Λ392 a.1 a.2) (OwnOK.none _) (by simpa using⟨h358,h397⟩) (by kernel_rfl) (by kernel_rfl) (fun _=>rfl) ?_
 rintro⟨l,x⟩ ⟨hl,hs⟩
 simp only at hl hs
 refine vcOf (let z0:=SV.row (SId.i .i64) l;let z1:=(↑l.length:Int);let z2:=SV.si .i64 z1;let z3:=(↑l.length:Int);let z4:=SV.si .i64 z3;let z5:=SV.tup [SV.si .i64 (↑(posN l x):Int),SV.sb (decide (x∈l))];(((z0.same z0∧(SV.si .i64 x).same (SV.si .i64 x)∧z2.same z4∧(SV.il .i64 0).same (SV.si .i64 0)∧z2.same z2∧True)∧True)∧((0:Int)≤(0:Int)∧(0:Int)≤z1∧z1≤z3)∧(∀(k:Nat),(↑k:Int)<(0:Int)→nthD l k (0:Int)<x)∧∀(k:Nat),z1≤(↑k:Int)→k<l.length→x≤nthD l k (0:Int))∧∀(x_1:Int×Int),let z6:=decide (x_1.fst<x_1.snd);let z7:=x_1.fst+x_1.snd;let z8:=z7 / (2:Int);let z9:=decide (nthD l z8.toNat (0:Int)<x);let z10:=z8+(1:Int);let z11:=SV.si .i64 x;let z12:=SV.si .i64 z10;let z13:=SV.si .i64 x_1.snd;let z14:=(x_1.snd - x_1.fst).toNat;let z15:=SV.si .i64 x_1.fst;let z16:=SV.si .i64 z8;let z17:=decide (nthD l x_1.fst.toNat (0:Int)=x);(((0:Int)≤x_1.fst∧x_1.fst≤x_1.snd∧x_1.snd≤z3)∧(∀(k:Nat),(↑k:Int)<x_1.fst→nthD l k (0:Int)<x)∧∀(k:Nat),x_1.snd≤(↑k:Int)→k<l.length→x≤nthD l k (0:Int))→(z6=true→inR .i64 z7∧inR .u64 z7∧(0:Int)≤(1:Int)∧(1:Int)≤(64:Int)∧inR .i64 z8∧(0:Int)≤z8∧z8<z1∧z8.toNat<l.length∧True∧(z9=true→inR .i64 z10∧((z0.same z0∧z11.same z11∧z4.same z4∧z12.same z12∧z13.same z13∧True)∧True)∧(((0:Int)≤z10∧z10≤x_1.snd∧x_1.snd≤z3)∧(∀(k:Nat),(↑k:Int)<z10→nthD l k (0:Int)<x)∧∀(k:Nat),x_1.snd≤(↑k:Int)→k<l.length→x≤nthD l k (0:Int))∧(x_1.snd - z10).toNat<z14)∧(z9=false→((z0.same z0∧z11.same z11∧z4.same z4∧z15.same z15∧z16.same z16∧True)∧True)∧(((0:Int)≤x_1.fst∧x_1.fst≤z8∧z8≤z3)∧(∀(k:Nat),(↑k:Int)<x_1.fst→nthD l k (0:Int)<x)∧∀(k:Nat),z8≤(↑k:Int)→k<l.length→x≤nthD l k (0:Int))∧(z8 - x_1.fst).toNat<z14))∧(z6=false→(decide (x_1.fst<z3)=true→(0:Int)≤x_1.fst∧x_1.fst<z1∧x_1.fst.toNat<l.length∧(z17=true→(SV.tup [z15,SV.bl true]).same z5)∧(z17=false→(0:Int)≤x_1.fst∧x_1.fst<z1∧x_1.fst.toNat<l.length∧True∧(false=true→True∧(SV.tup [z15,SV.sb false]).same z5)∧(false=false→(SV.tup [z15,SV.bl false]).same z5)))∧(decide (x_1.fst<z3)=false→(SV.tup [z15,SV.bl false]).same z5))) (by kernel_rfl) ?_
 simp only[vcs]
 refine⟨⟨⟨by omega,by omega,by omega⟩,fun k hk=>by omega,fun k h1 h2=>by omega⟩,?_⟩
 rintro⟨i,j⟩ ⟨⟨a0,a1,a2⟩,b1,b2⟩
 simp only at a0 a1 a2 b1 b2 ⊢
 have hmono:∀a b:Nat,a≤b→b<l.length→nthD l a 0≤nthD l b 0:=fun a b h1 h2=>by
  rw[nthD_eq (by omega),nthD_eq h2]
  rcases Nat.eq_or_lt_of_le h1 with h|h
  ·subst h;exact Int.le_refl _
  ·exact Int.le_of_lt (List.pairwise_iff_getElem.1 hs a b (by omega) h2 h)
 refine⟨fun hlt=>?_,fun hge=>?_⟩
 ·refine⟨by omega,u64_in (by omega) (by omega),by omega,by omega,by omega,by omega,by omega,by omega,fun h1=>⟨by omega,⟨⟨by omega,by omega,a2⟩,fun k hk=>?_,b2⟩,by omega⟩,fun h1=>⟨⟨⟨a0,by omega,by omega⟩,b1,fun k hk hk2=>?_⟩,by omega⟩⟩
  ·have:=hmono k ((i+j) / 2).toNat (by omega) (by omega)
   omega
  ·have:=hmono ((i+j) / 2).toNat k (by omega) hk2
   omega
 ·have hij:i=j:=by omega
  subst hij
  obtain⟨q1,q2⟩:=@pos_of l x i.toNat hs (by omega) (fun k hk=>b1 k (by omega)) (fun k hk=>b2 k (by omega))
  refine⟨fun h1=>⟨a0,h1,by omega,fun h2=>⟨by omega,(decide_eq_true (q2.2 ⟨by omega,h2⟩)).symm⟩,fun h2=>⟨a0,h1,by omega,fun h=>(by cases h),fun _=>⟨by omega,(decide_eq_false fun h3=>h2 (q2.1 h3).2).symm⟩⟩⟩,fun h1=>⟨by omega,(decide_eq_false fun h3=>h1 (by have:=(q2.1 h3).1;omega)).symm⟩⟩
theorem pick_some_inc {l:List Off}:∀{t:List Int} {last:Int} {r:List Off}, -1≤last→pickGo l last t=some r→t.Pairwise (·<·)∧∀j∈t,last<j∧j<l.length
 |[],_,_,_,_=>by simp
 |i::t,last,r,hl,h=>by
  simp only[pickGo] at h
  split at h
  ·cases h
  ·rename_i h1
   obtain⟨r',h2,rfl⟩:=Option.map_eq_some_iff.1 h
   obtain⟨k1,k2⟩:=pick_some_inc (by omega) h2
   refine⟨List.pairwise_cons.2 ⟨fun j hj=>(k2 j hj).1,k1⟩,fun j hj=>?_⟩
   rcases List.mem_cons.1 hj with rfl|hj
   ·omega
   ·have:=k2 j hj;omega
end Go.Vi
namespace Go.Proofs
open Go.Shelf
def Try.layC_ren:Ren:=
 ⟨fun
  |41=>38
  |n=>n,
 fun
  |22=>24
  |23=>3
  |4=>4
  |n=>n,
 fun n=>n⟩
theorem Try.layC:SlLaysE0.n41 Try.prog Try.layC_ren:={mixed:=by kernel_rfl,f41:=⟨Try.f38.name,by decide,Try.func38.trans (by kernel_rfl)⟩,t4:=Try.underlying4,a4:=Try.isAgg4,z4:=Try.sizeOf4,v4:=Try.zeroValue4,t22:=Try.underlying24,a22:=Try.isAgg24,z22:=Try.sizeOf24,v22:=Try.zeroValue24}
end Go.Proofs
namespace Go.Proofs
open Go.Shelf Go.RowKit Go.Lib
theorem cloneW {P:Program} {ρ:Ren} (L:SlLaysE0.n41 P ρ) (i0:TypeInfo) (z:Value) (size bytes:Nat) (hi:P.info? (ρ.t 23)=some i0) (hz0:i0.zero=some z) (hz1:i0.size=size) (hz2:i0.bytes=bytes) (hzs:z.cells.size=size) (hsz:0<size)
  (z23:∀w,(Go.sizeOf (ρ.t 23)).run P w= .ok size w) (p:Addr) (n c:Nat) (news:List Value) (w:World) (hl:news.length=n*size) (hn:n≤maxLen) (hbig:n*bytes≤140737488355328)
  (hc:∀j u,news[j]?=some u→w.cell? (p.add j)=some u) (h1:∀u∈news,u.oneCell'=true):
  Calls P (ρ.f 41) #[.slice (some p) n c] w fun e w'=>∃v',e= .returned v'∧w'.ownsRow w.heap.size (ρ.t 23) size v' n news∧v'≠ .slice none 0 0∧Below w.heap.size w w':=by
 have mixed:=L.mixed;have t4:=L.t4;have a4:=L.a4;have z4:=L.z4;have v4:=L.v4;have t22:=L.t22;have a22:=L.a22;have z22:=L.z22;have v22:=L.v22
 have q22:∀(w:World) (a:Option Addr) (n c n' c':Nat),(binOp .eql (ρ.t 22) (.slice a n c) (.slice none n' c')).run P w= .ok (.bool a.isNone) w:=fun w a n c n' c'=>Lib.run_eql_slice_nil w _ _ a n c n' c' L.t22
 have u22:∀w,Sem.run P (underlying (ρ.t 22)) w= .ok (TypeDesc.slice (ρ.t 23)) w:=run_underlying t22
 have A:Aside (∀j u,news[j]?=some u→w.cell? (p.add j)=some u):=hc
 clear hc
 obtain⟨_,_,FG⟩:=L.f41
 go_enter FG,SlBodyN.n41_ntmps ρ
 go_wp2_with (at_builtin;refine wpList_append_own _ rfl _ _ (ρ.t 22) rfl w.heap.size (ρ.t 23) i0 z size bytes t22 hi hz0 hz1 hz2 hzs hsz _ _ _ rfl (World.ownsRow_made w #[] 0 (Nat.le_refl _) (Nat.zero_le _) (by simp)) p n c news rfl ?qc1 ?qc2 ?qc3 ?qc4 ?qc5 ?qc6 ?_)
 case qc1=>exact hl
 case qc2=>
  intro j u hj
  exact Lib.cell?_alloc_some _ (A.out j u hj)
 case qc3=>exact h1
 case qc4=>rw[Nat.zero_add];exact hn
 case qc5=>rw[Nat.zero_add];exact hbig
 case qc6=>simp
 intro v' w1 hown hgrow hnil
 go_wp2
 go_ret
 refine⟨v',rfl,by simpa using hown,?_,?_⟩
 ·exact hnil
 ·exact((Below.refl _ w).alloc (Nat.le_refl _) _).grown hgrow (by simp) (by intro k hk;simp[Value.ownBlock] at hk;omega)
end Go.Proofs
namespace Go.Vi
open Go.Proofs.Ytoifpgeocpjneaa.Ir
open Go.Proofs
theorem flatI (l:List Int):flatA (.i .i64) l=l.map fun x=>AV.sc (.int .i64 x):=by
 unfold flatA
 induction l with
 |nil=>rfl
 |cons x l ih=>rw[List.flatMap_cons,ih];rfl
theorem cloneC {A:Clr} {w:World} {l:List Int} {vs:List Value} {fid:FuncId} (hfid:fid=Try.layC_ren.f 41) (hS:SimO A w [] []) (hl:l.length≤1000000) (hR:RepL A w [] [] [.sl l.length (l.map fun x=>AV.sc (.int .i64 x))] vs):
  Calls Try.prog fid vs.toArray w fun e w'=>RowKit.Below w.heap.size w w'∧((e= .returned (.slice none 0 0)∧l=[])∨∃g cap cur,e= .returned (.slice (some ⟨g,0,none⟩) l.length cap)∧w.heap.size≤g∧w'.heap[g]?=some (.cells cur 3 (0,0))∧l.length≤cap∧cap≤maxLen∧cur.size=cap∧cur.toList.take l.length=l.map (Value.int .i64)):=by
 subst hfid
 simp only[RepL] at hR
 obtain⟨v,r,rfl,hv,rfl⟩:=hR
 simp only[Rep] at hv
 obtain⟨a,cap,rfl,hcap,_,hM⟩:=hv
 cases a with
 |none=>
  have hnil:l=[]:=by
   cases l with
   |nil=>rfl
   |cons x l=>
    simp only[List.map_cons,RepM] at hM
    obtain⟨⟨b,_,e,_⟩,_⟩:=hM
    cases e
  refine Calls.mono (AnyE.slices_Clone_nil Try.layC l.length cap w) ?_
  rintro e w' ⟨rfl,rfl⟩
  exact⟨RowKit.Below.refl _ _,.inl ⟨rfl,hnil⟩⟩
 |some p=>
  have hc:∀j u,(l.map (Value.int .i64))[j]?=some u→w.cell? (p.add j)=some u:=by
   intro j u hj
   rw[List.getElem?_map] at hj
   obtain⟨x,hx,rfl⟩:=Option.map_eq_some_iff.1 hj
   obtain⟨b,v,e,_,hcell,hrep⟩:=RepM.get _ _ _ hM j (.sc (.int .i64 x)) (by simp[hx])
   injection e with e
   subst e
   simp only[Rep] at hrep
   rw[Nat.zero_add,hrep.1] at hcell
   exact hcell
  refine Calls.mono (cloneW Try.layC Try.t3 (.int .i64 0) 1 8 (by kernel_rfl) (by kernel_rfl) (by kernel_rfl) (by kernel_rfl) (by kernel_rfl) (by omega) Try.sizeOf3 p l.length cap (l.map (Value.int .i64)) w (by simp) (by have:maxLen=9223372036854775807:=rfl;omega) (by omega) hc (by simp[Value.oneCell'])) ?_
  rintro e w' ⟨v',rfl,hown,hne,hbel⟩
  refine⟨hbel,.inr ?_⟩
  obtain⟨_,h|⟨g,cap',cur,rfl,h1,h2,h3,h4,h5,h6⟩⟩:=hown
  ·exact absurd h.1 hne
  ·exact⟨g,cap',cur,rfl,h1,h2,h3,h4,by omega,by simpa using h6⟩
def r330:SCtr:=⟨38,List Int,.one (codR (.i .i64)),fun l=>l.length≤1000000,fun l=> .row (.i .i64) l⟩
theorem h330:Holds Try.prog r330:=by
 intro(l:List Int) (hl:l.length≤1000000)
 refine⟨by kernel_rfl,?_⟩
 intro A w σ vs hS hR
 have hσ:σ=[]:=by have:=hS.len;simpa using this
 subst hσ
 have e1:gL (r330.A.put l)=[.sl l.length (l.map fun x=>AV.sc (.int .i64 x))]:=by rw[←flatI];rfl
 have e2:(r330.res l).g= .sl l.length (l.map fun x=>AV.sc (.int .i64 x)):=by rw[←flatI];rfl
 rw[e1] at hR
 rw[e2]
 refine Calls.mono (cloneC (by rfl) hS hl hR) ?_
 rintro e w' ⟨hb,h⟩
 have hS':SimO A w' [] []:=⟨rfl,by simp,by simp,by simp,by simp,fun b h=>Nat.lt_of_lt_of_le (hS.avb b h) hb.size⟩
 have hE:Ext w [] [] w' [] []:=⟨hb.size,fun b h _=>⟨hb.block b h,fun⟨i,c,hi⟩=>by simp at hi⟩,Nat.le_refl _,fun _ _ ⟨_,_,_,_,h,_⟩=>by simp at h,fun _ ⟨_,_,_,h⟩=>by simp at h,hb.os,hb.tape,hb.output⟩
 rcases h with⟨rfl,rfl⟩|⟨g,cap,cur,rfl,h1,h2,h3,h4,h5,h6⟩
 ·exact⟨_,[],rfl,hS',by simp only[Rep];exact⟨none,0,rfl,by simp,by rw[←flatI];exact flatA_pure _ _,by simp[RepM]⟩,hE⟩
 ·refine⟨_,[],rfl,hS',?_,hE⟩
  simp only[Rep]
  refine⟨_,_,rfl,h3,by rw[←flatI];exact flatA_pure _ _,RepM.of_get _ _ _ fun i c hi=>?_⟩
  rw[List.getElem?_map] at hi
  obtain⟨x,hx,rfl⟩:=Option.map_eq_some_iff.1 hi
  have hil:=(List.getElem?_eq_some_iff.1 hx).1
  have h9:(cur.toList.take l.length)[i]?=(l.map (Value.int .i64))[i]?:=by rw[h6]
  rw[List.getElem?_take_of_lt hil,Array.getElem?_toList,List.getElem?_map,hx] at h9
  refine⟨⟨g,0,none⟩,.int .i64 x,rfl,⟨fun⟨i,c,hi⟩=>by simp at hi,fun hA=>by have:=hS.avb g hA;omega⟩,?_,by simp[Rep,Value.oneCell']⟩
  rw[Addr.add_lit]
  simp only[World.cell?,h2,Nat.zero_add,Option.isSome_none,Bool.false_eq_true,if_false]
  exact h9
def kepI (p:Prob) (l:List Int) (n:Nat):List Int:=(uptoI n).filter fun i=>decide (i∉l)
def kepA (p:Prob) (l:List Int):List Int:=kepI p l p.offers.length
def remP (p:Prob) (l:List Int):Prob:={p with offers:=(kepA p l).map (oI p)}
theorem kepI_len {p:Prob} {l:List Int} {n:Nat}:(kepI p l n).length≤n:=by
 have:=List.length_filter_le (fun i=>decide (i∉l)) (uptoI n)
 rw[uptoI_len] at this
 exact this
theorem kepI_succ {p:Prob} {l:List Int} {i:Int} (h:0≤i):kepI p l (i+1).toNat=kepI p l i.toNat++if i∈l then[] else[i]:=by
 unfold kepI
 rw[show(i+1).toNat=i.toNat+1 by omega,uptoI_succ,List.filter_append,show((i.toNat:Nat):Int)=i by omega]
 congr 1
 simp only[List.filter_cons,List.filter_nil]
 by_cases hi:i∈l<;>simp[hi]
def r388:SCtr:=⟨26,Prob×List Int,.cons codP (.one (codR (.i .i64))),fun a=>(a.1.offers.length≤1000∧a.1.classes.length≤1000)∧a.2.length≤1000000000000∧a.2.Pairwise (·<·),fun a=> .tup [.agg (remP a.1 a.2).ss,.row (.i .i64) (kepA a.1 a.2)]⟩
def st388 (p:Prob) (k:List Int):SStore:=[.cells p.ss 27 20 false,.cells [.il .i64 0,.il .i64 0,.il .i64 0,.il .i64 0,.il .i64 0,.il .i64 0,.il .i64 0,.il .i64 0,.il .i64 0,.il .i64 0,.il .i64 0,.il .i64 0,.il .i64 0,.il .i64 0,.il .i64 0,.il .i64 0,.il .i64 0,.il .i64 0,.sc (.slice none 0 0),.sc (.slice none 0 0)] 27 20 false,
 .cells [.si .i64 p.supply.a0,.si .i64 p.supply.a1,.si .i64 p.supply.a2,.si .i64 p.supply.a3,.si .i64 p.supply.a4,.si .i64 p.supply.a5,
  .si .i64 p.opn.a0,.si .i64 p.opn.a1,.si .i64 p.opn.a2,.si .i64 p.opn.a3,.si .i64 p.opn.a4,.si .i64 p.opn.a5,
  .si .i64 p.cls.a0,.si .i64 p.cls.a1,.si .i64 p.cls.a2,.si .i64 p.cls.a3,.si .i64 p.cls.a4,.si .i64 p.cls.a5,
  .row (.i .i64) p.classes,.ow 3 k.length 8] 27 20 false,.row .off (k.map (oI p)) 48 true,.row (.i .i64) k 3 true]
def Λ388 (p:Prob) (l:List Int):Nat→LoopAnn
 |6=> .inv Int (fun i=>⟨[(1,.row (.i .i64) l),(4,.ptr 1 0 20),(6,.ptr 2 0 20),(7,.ow 4 (kepI p l i.toNat).length 1),(19,.row .off p.offers),(20,.si .i64 p.offers.length),(21,.si .i64 i)],st388 p (kepI p l i.toNat)⟩)
   (fun s=>iS s 21) (fun i=>0≤i∧i≤p.offers.length) (fun i=>(p.offers.length - i).toNat) fun _ _=> .look
 |_=> .look
theorem h388:Holds Try.prog r388:=by
 refine con (L:=[r330,r392]) r388 F388 (fun a=>Λ388 a.1 a.2) (OwnOK.none _) (by simpa using⟨h330,h392⟩) (by kernel_rfl) (by kernel_rfl) (fun _=>rfl) ?_
 rintro⟨p,l⟩ ⟨⟨hp,hcl⟩,hl,hs⟩
 simp only at hp hcl hl hs
 refine vcOf (let z0:=SId.i .i64;let z1:=SV.ptr 1 0 20;let z2:=SV.ptr 2 0 20;let z3:=(kepI p l 0).length;let z4:=SV.row SId.off p.offers;let z5:=(↑p.offers.length:Int);let z6:=(↑p.offers.length:Int);let z7:=SV.si .i64 z6;let z8:=SV.il .i64 0;let z9:=SV.si .i64 p.supply.a0;let z10:=SV.si .i64 p.supply.a1;let z11:=SV.si .i64 p.supply.a2;let z12:=SV.si .i64 p.supply.a3;let z13:=SV.si .i64 p.supply.a4;let z14:=SV.si .i64 p.supply.a5;let z15:=SV.si .i64 p.opn.a0;let z16:=SV.si .i64 p.opn.a1;let z17:=SV.si .i64 p.opn.a2;let z18:=SV.si .i64 p.opn.a3;let z19:=SV.si .i64 p.opn.a4;let z20:=SV.si .i64 p.opn.a5;let z21:=SV.si .i64 p.cls.a0;let z22:=SV.si .i64 p.cls.a1;let z23:=SV.si .i64 p.cls.a2;let z24:=SV.si .i64 p.cls.a3;let z25:=SV.si .i64 p.cls.a4;let z26:=SV.si .i64 p.cls.a5;let z27:=SV.row z0 p.classes;let z28:=SObj.cells [z9,z10,z11,z12,z13,z14,z15,z16,z17,z18,z19,z20,z21,z22,z23,z24,z25,z26,z27,z4] 27 20 false;let z29:=SV.sc (Value.slice none 0 0);let z30:=SObj.cells [z8,z8,z8,z8,z8,z8,z8,z8,z8,z8,z8,z8,z8,z8,z8,z8,z8,z8,z29,z29] 27 20 false;let z31:=SObj.row SId.off [] 48 true;let z32:=(remP p l).supply;let z33:=(remP p l).opn;let z34:=(remP p l).cls;p.classes.length≤1000000∧((((SV.row z0 l).same (SV.row z0 l)∧z1.same z1∧z2.same z2∧(SV.ow 4 0 1).same (SV.ow 4 z3 1)∧z4.same z4∧(SV.si .i64 z5).same z7∧z8.same (SV.si .i64 0)∧True)∧z28.same z28∧z30.same z30∧(SObj.cells [z9,z10,z11,z12,z13,z14,z15,z16,z17,z18,z19,z20,z21,z22,z23,z24,z25,z26,z27,SV.ow 3 0 8] 27 20 false).same (SObj.cells [z9,z10,z11,z12,z13,z14,z15,z16,z17,z18,z19,z20,z21,z22,z23,z24,z25,z26,z27,SV.ow 3 z3 8] 27 20 false)∧z31.same z31∧(SObj.row z0 [] 3 true).same (SObj.row z0 (kepI p l 0) 3 true)∧True)∧(0:Int)≤(0:Int)∧(0:Int)≤z6)∧∀(x:Int),let z35:=kepI p l x.toNat;let z36:=z35.length;let z37:=List.map (oI p) z35;let z38:=z37.length+1;let z39:=z35.length+1;let z40:=x+(1:Int);let z41:=kepI p l z40.toNat;let z42:=SV.ow 4 z41.length 1;let z43:=SV.si .i64 z40;let z44:=z37++[nthD p.offers x.toNat SId.off.dflt];let z45:=SObj.cells [z9,z10,z11,z12,z13,z14,z15,z16,z17,z18,z19,z20,z21,z22,z23,z24,z25,z26,z27,SV.ow 3 z41.length 8] 27 20 false;let z46:=SObj.row SId.off (List.map (oI p) z41) 48 true;let z47:=SObj.row z0 z41 3 true;(0:Int)≤x∧x≤z6→(decide (x<z6)=true→(0:Int)≤x∧x<z5∧x.toNat<p.offers.length∧(l.length≤1000000000000∧List.Pairwise (fun x1 x2 ↦x1<x2) l)∧((!decide (x∈l))=true→1=1∧z36=z37.length∧z38*64≤140737488355328∧z38≤1000000000000∧z36=z35.length∧z39*8≤140737488355328∧z39≤1000000000000∧inR .i64 z40∧(((SV.row z0 l).same (SV.row z0 l)∧z1.same z1∧z2.same z2∧(SV.ow 4 (z35++[x]).length 1).same z42∧z4.same z4∧z7.same z7∧z43.same z43∧True)∧z28.same z28∧z30.same z30∧(SObj.cells [z9,z10,z11,z12,z13,z14,z15,z16,z17,z18,z19,z20,z21,z22,z23,z24,z25,z26,z27,SV.ow 3 z44.length 8] 27 20 false).same z45∧(SObj.row SId.off z44 48 true).same z46∧(SObj.row z0 (z35++[x]) 3 true).same z47∧True)∧((0:Int)≤z40∧z40≤z6)∧(z6 - z40).toNat<(z6 - x).toNat)∧((!decide (x∈l))=false→inR .i64 z40∧(((SV.row z0 l).same (SV.row z0 l)∧z1.same z1∧z2.same z2∧(SV.ow 4 z36 1).same z42∧z4.same z4∧z7.same z7∧z43.same z43∧True)∧z28.same z28∧z30.same z30∧(SObj.cells [z9,z10,z11,z12,z13,z14,z15,z16,z17,z18,z19,z20,z21,z22,z23,z24,z25,z26,z27,SV.ow 3 z36 8] 27 20 false).same z45∧(SObj.row SId.off z37 48 true).same z46∧(SObj.row z0 z35 3 true).same z47∧True)∧((0:Int)≤z40∧z40≤z6)∧(z6 - z40).toNat<(z6 - x).toNat))∧(decide (x<z6)=false→z36=z37.length∧z36=z35.length∧(SV.tup [SV.agg [z9,z10,z11,z12,z13,z14,z15,z16,z17,z18,z19,z20,z21,z22,z23,z24,z25,z26,z27,SV.row SId.off z37],SV.row z0 z35]).same (SV.tup [SV.agg [SV.si .i64 z32.a0,SV.si .i64 z32.a1,SV.si .i64 z32.a2,SV.si .i64 z32.a3,SV.si .i64 z32.a4,SV.si .i64 z32.a5,SV.si .i64 z33.a0,SV.si .i64 z33.a1,SV.si .i64 z33.a2,SV.si .i64 z33.a3,SV.si .i64 z33.a4,SV.si .i64 z33.a5,SV.si .i64 z34.a0,SV.si .i64 z34.a1,SV.si .i64 z34.a2,SV.si .i64 z34.a3,SV.si .i64 z34.a4,SV.si .i64 z34.a5,SV.row z0 (remP p l).classes,SV.row SId.off (remP p l).offers],SV.row z0 (kepA p l)]))) (by kernel_rfl) ?_
 simp only[vcs]
 have hw4:∀{a b:Nat},a=b→(SV.ow 4 a 1).same (SV.ow 4 b 1):=by rintro _ _ rfl;rfl
 have hrI:∀{x y:List Int},x=y→(SObj.row (.i .i64) x 3 true).same (SObj.row (.i .i64) y 3 true):=by rintro _ _ rfl;rfl
 have hrO:∀{x y:List Off},x=y→(SObj.row .off x 48 true).same (SObj.row .off y 48 true):=by rintro _ _ rfl;rfl
 have hcell:∀{a b:Nat},a=b→(SObj.cells [.si .i64 p.supply.a0,.si .i64 p.supply.a1,.si .i64 p.supply.a2,.si .i64 p.supply.a3,.si .i64 p.supply.a4,.si .i64 p.supply.a5,
  .si .i64 p.opn.a0,.si .i64 p.opn.a1,.si .i64 p.opn.a2,.si .i64 p.opn.a3,.si .i64 p.opn.a4,.si .i64 p.opn.a5,
  .si .i64 p.cls.a0,.si .i64 p.cls.a1,.si .i64 p.cls.a2,.si .i64 p.cls.a3,.si .i64 p.cls.a4,.si .i64 p.cls.a5,
  .row (.i .i64) p.classes,.ow 3 a 8] 27 20 false).same (SObj.cells [.si .i64 p.supply.a0,.si .i64 p.supply.a1,.si .i64 p.supply.a2,.si .i64 p.supply.a3,.si .i64 p.supply.a4,.si .i64 p.supply.a5,
  .si .i64 p.opn.a0,.si .i64 p.opn.a1,.si .i64 p.opn.a2,.si .i64 p.opn.a3,.si .i64 p.opn.a4,.si .i64 p.opn.a5,
  .si .i64 p.cls.a0,.si .i64 p.cls.a1,.si .i64 p.cls.a2,.si .i64 p.cls.a3,.si .i64 p.cls.a4,.si .i64 p.cls.a5,
  .row (.i .i64) p.classes,.ow 3 b 8] 27 20 false):=by rintro _ _ rfl;rfl
 refine⟨by omega,⟨⟨hw4 rfl,hcell rfl,hrI rfl⟩,by omega,by omega⟩,?_⟩
 rintro i ⟨i0,i1⟩
 have hk:=@kepI_len p l i.toNat
 have hsu:=@kepI_succ p l i i0
 have hml:(List.map (oI p) (kepI p l i.toNat)).length=(kepI p l i.toNat).length:=List.length_map _
 refine⟨fun hi=>⟨i0,hi,by omega,⟨hl,hs⟩,fun hm=>?_,fun hm=>?_⟩,fun hi=>?_⟩
 ·rw[if_neg hm] at hsu
  have e:List.map (oI p) (kepI p l i.toNat)++[nthD p.offers i.toNat SId.off.dflt]=List.map (oI p) (kepI p l (i+1).toNat):=by rw[hsu,List.map_append];rfl
  rw[e,←hsu,hml,List.length_map]
  exact⟨rfl,by omega,by omega,by omega,by omega,by omega,⟨hw4 rfl,hcell rfl,hrO rfl,hrI rfl⟩,by omega,by omega⟩
 ·rw[if_pos hm,List.append_nil] at hsu
  rw[hsu]
  exact⟨by omega,⟨hw4 rfl,hcell rfl,hrO rfl,hrI rfl⟩,by omega,by omega⟩
 ·rw[show i.toNat=p.offers.length by omega] at hml ⊢
  exact⟨hml.symm,rfl,rfl⟩
def zeroP:Prob:=⟨.zero,.zero,.zero,[],[]⟩
def remE (p:Prob) (l:List Int):Int:=if checkE p≠0 then checkE p else if pickOk p l=true then 0 else 4
def remQ (p:Prob) (l:List Int):Prob:=if remE p l=0 then remP p l else zeroP
def r379:SCtr:=⟨12,Prob×List Int,.cons codP (.one (codR (.i .i64))),fun a=>a.2.length≤1000000000000,fun a=> .tup [.agg (remQ a.1 a.2).ss,.row (.i .i64) (if remE a.1 a.2=0 then kepA a.1 a.2 else[]),.si .i64 (remE a.1 a.2)]⟩
def Λ379 (p:Prob) (l:List Int):Nat→LoopAnn
 |6=> .inv (Int×Int) (fun x=>⟨[(1,.row (.i .i64) l),(2,.ptr 0 0 20),(4,.ptr 1 0 20),(8,.si .i64 x.2),(19,.row (.i .i64) l),(20,.si .i64 l.length),(21,.si .i64 x.1)],[.cells p.ss 27 20 false,.cells [.il .i64 0,.il .i64 0,.il .i64 0,.il .i64 0,.il .i64 0,.il .i64 0,.il .i64 0,.il .i64 0,.il .i64 0,.il .i64 0,.il .i64 0,.il .i64 0,.il .i64 0,.il .i64 0,.il .i64 0,.il .i64 0,.il .i64 0,.il .i64 0,.sc (.slice none 0 0),.sc (.slice none 0 0)] 27 20 false]⟩)
   (fun s=>(iS s 21,iS s 8)) (fun x=>(0≤x.1∧x.1≤l.length)∧(-1≤x.2∧x.2<1000)∧(pickGo p.offers (-1) l).isSome=(pickGo p.offers x.2 (l.drop x.1.toNat)).isSome) (fun x=>(l.length - x.1).toNat) fun _ _=> .look
 |_=> .look
theorem h379:Holds Try.prog r379:=by
 refine con (L:=[r79,r388]) r379 F379 (fun a=>Λ379 a.1 a.2) (OwnOK.none _) (by simpa using⟨h79,h388⟩) (by kernel_rfl) (by kernel_rfl) (fun _=>rfl) ?_
 rintro⟨p,l⟩ (hl:l.length≤1000000000000)
 refine vcOf (let z0:=decide (checkE p≠(0:Int));let z1:=SV.il .i64 0;let z2:=SId.i .i64;let z3:=SV.row z2 [];let z4:=SV.agg [z1,z1,z1,z1,z1,z1,z1,z1,z1,z1,z1,z1,z1,z1,z1,z1,z1,z1,z3,z3];let z5:=(remQ p l).supply;let z6:=(remQ p l).opn;let z7:=(remQ p l).cls;let z8:=SV.tup [SV.agg [SV.si .i64 z5.a0,SV.si .i64 z5.a1,SV.si .i64 z5.a2,SV.si .i64 z5.a3,SV.si .i64 z5.a4,SV.si .i64 z5.a5,SV.si .i64 z6.a0,SV.si .i64 z6.a1,SV.si .i64 z6.a2,SV.si .i64 z6.a3,SV.si .i64 z6.a4,SV.si .i64 z6.a5,SV.si .i64 z7.a0,SV.si .i64 z7.a1,SV.si .i64 z7.a2,SV.si .i64 z7.a3,SV.si .i64 z7.a4,SV.si .i64 z7.a5,SV.row z2 (remQ p l).classes,SV.row SId.off (remQ p l).offers],SV.row z2 (if remE p l=(0:Int) then kepA p l else[]),SV.si .i64 (remE p l)];let z9:=SV.ptr 0 0 20;let z10:=SV.ptr 1 0 20;let z11:=(↑l.length:Int);let z12:=SV.si .i64 z11;let z13:=SObj.cells [SV.si .i64 p.supply.a0,SV.si .i64 p.supply.a1,SV.si .i64 p.supply.a2,SV.si .i64 p.supply.a3,SV.si .i64 p.supply.a4,SV.si .i64 p.supply.a5,SV.si .i64 p.opn.a0,SV.si .i64 p.opn.a1,SV.si .i64 p.opn.a2,SV.si .i64 p.opn.a3,SV.si .i64 p.opn.a4,SV.si .i64 p.opn.a5,SV.si .i64 p.cls.a0,SV.si .i64 p.cls.a1,SV.si .i64 p.cls.a2,SV.si .i64 p.cls.a3,SV.si .i64 p.cls.a4,SV.si .i64 p.cls.a5,SV.row z2 p.classes,SV.row SId.off p.offers] 27 20 false;let z14:=SV.sc (Value.slice none 0 0);let z15:=SObj.cells [z1,z1,z1,z1,z1,z1,z1,z1,z1,z1,z1,z1,z1,z1,z1,z1,z1,z1,z14,z14] 27 20 false;let z16:=(pickGo p.offers (-1:Int) l).isSome;let z17:=(remP p l).supply;let z18:=(remP p l).opn;let z19:=(remP p l).cls;True∧(z0=true→(SV.tup [z4,z3,SV.si .i64 (checkE p)]).same z8)∧(z0=false→((((SV.row z2 l).same (SV.row z2 l)∧z9.same z9∧z10.same z10∧(SV.il .i64 (-1:Int)).same (SV.si .i64 (-1:Int))∧(SV.row z2 l).same (SV.row z2 l)∧(SV.si .i64 (↑l.length:Int)).same z12∧z1.same (SV.si .i64 0)∧True)∧z13.same z13∧z15.same z15∧True)∧((0:Int)≤(0:Int)∧(0:Int)≤z11)∧((-1:Int)≤(-1:Int)∧(-1:Int)<(1000:Int))∧z16=z16)∧∀(x:Int×Int),let z20:=decide (x.fst<z11);let z21:=nthD l x.fst.toNat (0:Int);let z22:=decide (z21≤x.snd);let z23:=decide ((↑p.offers.length:Int)≤z21);let z24:=x.fst+(1:Int);let z25:=SV.si .i64 z21;let z26:=SV.si .i64 z24;((0:Int)≤x.fst∧x.fst≤z11)∧((-1:Int)≤x.snd∧x.snd<(1000:Int))∧z16=(pickGo p.offers x.snd (List.drop x.fst.toNat l)).isSome→(z20=true→(0:Int)≤x.fst∧x.fst<(↑l.length:Int)∧x.fst.toNat<l.length∧(z22=true→(SV.tup [z4,z3,SV.il .i64 4]).same z8)∧(z22=false→(z23=true→(SV.tup [z4,z3,SV.il .i64 4]).same z8)∧(z23=false→inR .i64 z24∧(((SV.row z2 l).same (SV.row z2 l)∧z9.same z9∧z10.same z10∧z25.same z25∧(SV.row z2 l).same (SV.row z2 l)∧z12.same z12∧z26.same z26∧True)∧z13.same z13∧z15.same z15∧True)∧(((0:Int)≤z24∧z24≤z11)∧((-1:Int)≤z21∧z21<(1000:Int))∧z16=(pickGo p.offers z21 (List.drop z24.toNat l)).isSome)∧(z11 - z24).toNat<(z11 - x.fst).toNat)))∧(z20=false→((p.offers.length≤1000∧p.classes.length≤1000)∧l.length≤1000000000000∧List.Pairwise (fun x1 x2 ↦x1<x2) l)∧(SV.tup [SV.agg [SV.si .i64 z17.a0,SV.si .i64 z17.a1,SV.si .i64 z17.a2,SV.si .i64 z17.a3,SV.si .i64 z17.a4,SV.si .i64 z17.a5,SV.si .i64 z18.a0,SV.si .i64 z18.a1,SV.si .i64 z18.a2,SV.si .i64 z18.a3,SV.si .i64 z18.a4,SV.si .i64 z18.a5,SV.si .i64 z19.a0,SV.si .i64 z19.a1,SV.si .i64 z19.a2,SV.si .i64 z19.a3,SV.si .i64 z19.a4,SV.si .i64 z19.a5,SV.row z2 (remP p l).classes,SV.row SId.off (remP p l).offers],SV.row z2 (kepA p l),z1]).same z8))) (by kernel_rfl) ?_
 simp only[vcs]
 have hz:remE p l≠0→remQ p l=zeroP:=fun h=>by unfold remQ;rw[if_neg h]
 refine⟨fun h=>?_,fun h=>?_⟩
 ·have e:remE p l=checkE p:=by unfold remE;rw[if_pos h]
  rw[hz (by rw[e];exact h),e,if_neg h]
  exact⟨rfl,rfl,rfl⟩
 ·have hc:checkE p=0:=Classical.not_not.1 h
  have hg:=good_of hc
  have e:remE p l=if pickOk p l=true then 0 else 4:=by unfold remE;rw[if_neg h]
  refine⟨⟨by omega,by omega,by simp⟩,?_⟩
  rintro⟨i,last⟩ ⟨⟨i0,i1⟩,⟨q1,q2⟩,hi⟩
  simp only at i0 i1 q1 q2 hi ⊢
  have bad:pickOk p l=false→remE p l=4∧remQ p l=zeroP:=fun hb=>by
   rw[hb] at e
   exact⟨e,hz (by rw[e];decide)⟩
  refine⟨fun hlt=>?_,fun hge=>?_⟩
  ·rw[drop_nth (d:=0) i0 hlt] at hi
   generalize hx:nthD l i.toNat 0=x at hi ⊢
   simp only[pickGo] at hi
   refine⟨i0,hlt,by omega,fun h1=>?_,fun h1=>⟨fun h2=>?_,fun h2=>?_⟩⟩
   ·rw[if_pos (.inl h1)] at hi
    obtain⟨e1,e2⟩:=bad hi
    rw[e2,e1,if_neg (by decide)]
    exact⟨rfl,rfl,rfl⟩
   ·rw[if_pos (.inr (by omega))] at hi
    obtain⟨e1,e2⟩:=bad hi
    rw[e2,e1,if_neg (by decide)]
    exact⟨rfl,rfl,rfl⟩
   ·rw[if_neg (by omega),Option.isSome_map] at hi
    have:=hg.2.1
    exact⟨by omega,⟨⟨by omega,by omega⟩,⟨by omega,by omega⟩,hi⟩,by omega⟩
  ·rw[show i.toNat=l.length from by omega,List.drop_length] at hi
   have hok:pickOk p l=true:=hi
   rw[hok] at e
   have e0:remE p l=0:=e
   have eq:remQ p l=remP p l:=by unfold remQ;rw[if_pos e0]
   obtain⟨r,hr⟩:=Option.isSome_iff_exists.1 hok
   rw[eq,e0,if_pos rfl]
   exact⟨⟨⟨by have:=hg.2.1;omega,by have:=hg.1;omega⟩,hl,(pick_some_inc (by omega) hr).1⟩,rfl,rfl,rfl⟩
def offP (p:Prob) (l:List Off):Prob:={p with offers:=l}
theorem checkL_filter {p:Prob} {l0:List Off} {f:Off→Bool}:∀{l:List Off} {s t:List BKey},checkL p s l=0→(∀k∈t,k∈s)→checkL (offP p l0) t (l.filter f)=0
 |[],_,_,_,_=>rfl
 |o::r,s,t,h,hs=>by
  simp only[checkL] at h
  split at h
  ·rename_i h1;exact absurd h h1
  ·split at h
   ·cases h
   ·rename_i h1 h2
    have hn:o.key∉t:=fun hm=>h2 (hs _ hm)
    rw[List.filter_cons]
    split
    ·unfold checkL
     rw[if_neg (show ¬offerE (offP p l0) o≠0 from h1),if_neg hn]
     exact checkL_filter h fun k hk=>by
      rcases List.mem_append.1 hk with hk|hk
      ·exact List.mem_append.2 (.inl (hs k hk))
      ·exact List.mem_append.2 (.inr hk)
    ·exact checkL_filter h fun k hk=>List.mem_append.2 (.inl (hs k hk))
theorem check_filter {p:Prob} {f:Off→Bool} (h:checkE p=0):checkE (offP p (p.offers.filter f))=0:=by
 have hg:=good_of h
 unfold checkE at h
 split at h
 ·rename_i h1;exact absurd h h1
 ·rename_i h1
  have hf:frameE p=0:=Classical.not_not.1 h1
  obtain⟨f1,f2,f3,f4,f5⟩:=frame_zero hf
  have hl:=List.length_filter_le f p.offers
  have hq:frameE (offP p (p.offers.filter f))=0:=frame_ok (p:=offP p (p.offers.filter f)) f1 (fun j hj=>by have h:=(prodOk_iff (p:=p) (k:=j)).1 (f2 j hj);exact prodOk_iff.2 h) (by simp only[offP];omega) f5
  unfold checkE
  rw[if_neg (by simp[hq])]
  exact checkL_filter h (by simp)
theorem nth_inj {l:List Off} (hn:l.Nodup) {i j:Nat} (hi:i<l.length) (hj:j<l.length) (h:nthD l i SId.off.dflt=nthD l j SId.off.dflt):i=j:=by
 rw[nthD_eq hi,nthD_eq hj] at h
 have hp:=List.pairwise_iff_getElem.1 hn
 by_cases h1:i<j
 ·exact absurd h (hp i j hi hj h1)
 ·by_cases h2:j<i
  ·exact absurd h.symm (hp j i hj hi h2)
  ·omega
def sngF (p:Prob) (i d:Int):List Int:=(List.replicate p.offers.length 0).set i.toNat d
noncomputable def misB (p:Prob) (i d:Int) (q:Rat):Bool:=decide (fixE p (sngF p i d)=0)&&(!okX p (sngF p i d)||decide (bndQ p (sngF p i d)<q))
theorem okX_fix {p:Prob} {f:List Int} (h:okX p f=true):fixOk p f:=by
 unfold okX at h
 rw[Bool.and_eq_true,decide_eq_true_eq] at h
 obtain⟨hx0,hb⟩:=h
 unfold fixE at hx0
 split at hx0
 ·rename_i h1;exact absurd hx0 h1
 ·rename_i h1
  split at hx0
  ·cases hx0
  ·rename_i h2
   exact⟨Classical.not_not.1 h1,Classical.not_not.1 h2,hb⟩
theorem bnd_sz {p:Prob} {f:List Int} (h:okX p f=true):Sz 1000002 (bndQ p f):=by
 have hfx:=okX_fix h
 have hab:=@acc_bd p hfx.1 f f.length hfx.2.1
 rw[List.take_length] at hab
 have hsa:Sz 1 ((accS p f:Int):Rat):=by
  unfold Sz
  rw[Rat.num_intCast,Rat.den_intCast]
  omega
 have hsv:Sz 1000000 (optT p f).value:=((rel_small hfx).szT (opt_run hfx).1).2.2.2
 exact(sz_add hsa hsv).mono (by omega)
noncomputable def r389:OCtr where
 f:=29
 α:=Int×Int×Prob×Fra
 put a:=[.si .i64 a.1,.si .i64 a.2.1,.ptr 0 0 20,.ptr 1 0 3]
 st a:=[.cells a.2.2.1.ss 27 20 false,.cells (encS sF a.2.2.2) 58 3 false]
 dec v o:=match v,o with
  |[a,b,.ptr 0 0 20,.ptr 1 0 3],[.cells cs 27 20 false,.cells gs 58 3 false]=>match a.int .i64,b.int .i64,decProb cs,decS sF gs with
   |some a,some b,some p,some x=>some (a,b,p,x)
   |_,_,_,_=>none
  |_,_=>none
 ok v o a h:=by
  split at h
  ·split at h
   ·rename_i h1 h2 h3 h4
    simp only[Option.some.injEq] at h;subst h
    refine⟨by simp only[gL,int_g h1,int_g h2,SV.g],?_⟩
    simp only[gO,List.map_cons,List.map_nil,SObj.g,decProb_ok h3,gL_map,decS_g h4,encS_g]
   ·cases h
  ·cases h
 inj a b h1 h2:=by
  obtain⟨a0,a1,p,x⟩:=a
  obtain⟨b0,b1,p',x'⟩:=b
  simp only[gL,List.cons.injEq,and_true,SV.g,AV.sc.injEq,Value.int.injEq,true_and] at h1
  simp only[gO,List.map_cons,List.map_nil,SObj.g,List.cons.injEq,AObj.cells.injEq,and_true] at h2
  have h3:=codP.inj p p' (by simp only[codP,SV.g,h2.1])
  have h4:x=x':=encA_inj sF x x' (by have:=h2.2;rw[gL_map,gL_map,encS_g,encS_g] at this;exact this)
  rw[h1.1,h1.2,h3,h4]
 dom a:=checkE a.2.2.1=0∧(0≤a.1∧a.1<a.2.2.1.offers.length)∧∃q,a.2.2.2=frE q∧Sz 1000 q
 res a:=.sb (misB a.2.2.1 a.1 a.2.1 (valF a.2.2.2))
 out a:=[.cells a.2.2.1.ss 27 20 false,.cells (encS sF a.2.2.2) 58 3 false]
theorem h389:HoldsO Try.prog r389:=by
 refine conO (L:=[r390,r97]) (W:=[]) r389 F389 (fun _ _=> .look) (by simp) (by simpa using⟨h390,h97⟩) (by kernel_rfl) (fun _=>rfl) (by kernel_rfl) ?_
 rintro⟨i,d,p,x⟩ ⟨hc,⟨i0,i1⟩,q,hx,hq⟩
 simp only at hc i0 i1 hx
 subst hx
 refine vcOf (let z0:=(↑p.offers.length:Int);let z1:=List.replicate z0.toNat (0:Int);let z2:=z1.set i.toNat d;let z3:=decide (fixE p z2=(0:Int));let z4:=SV.sb (misB p i d (valF (frE q)));let z5:=SObj.cells (Prob.ss p) 27 20 false;let z6:=SObj.cells [SV.sb (frE q).fst,SV.row (SId.i .u32) (frE q).snd.fst,SV.row (SId.i .u32) (frE q).snd.snd] 58 3 false;let z7:=((bndF p z2).fst,(bndF p z2).snd.fst,(bndF p z2).snd.snd);let z8:=((frE q).fst,(frE q).snd.fst,(frE q).snd.snd);(0:Int)≤z0∧z0≤z0∧z0*(8:Int)≤(140737488355328:Int)∧z0≤(1000000000000:Int)∧z0.toNat=z1.length∧(0:Int)≤i∧i<(↑z1.length:Int)∧z0.toNat=z1.length∧i.toNat<z1.length∧z0.toNat=z2.length∧z2.length≤1000000000000∧(z3=true→((!okX p z2)=true→(SV.bl true).same z4∧z5.same z5∧z6.same z6∧True)∧((!okX p z2)=false→(isF z7∧isF z8)∧(SV.sb (decide (cmpQ (valF z7) (valF z8)<(0:Int)))).same z4∧z5.same z5∧z6.same z6∧True))∧(z3=false→(SV.bl false).same z4∧z5.same z5∧z6.same z6∧True)) (by kernel_rfl) ?_
 simp only[vcs]
 have hcast:∀k:Nat,((k:Nat):Int).toNat=k:=fun k=>Int.toNat_natCast k
 have hf:(List.replicate p.offers.length 0).set i.toNat d=sngF p i d:=rfl
 have h160:=(good_of hc).2.1
 have hsl:(sngF p i d).length=p.offers.length:=by unfold sngF;rw[List.length_set,List.length_replicate]
 have hrl:(List.replicate p.offers.length (0:Int)).length=p.offers.length:=List.length_replicate
 simp only[hcast,hf,hsl,hrl,fra_eta,valF_frE,cmpR_neg]
 refine⟨by omega,by omega,by omega,by omega,by first|trivial|rfl,i0,i1,by first|trivial|rfl,by omega,by first|trivial|rfl,by omega,fun h0=>⟨fun h1=>?_,fun h1=>⟨⟨?_,isF_of hq (by omega)⟩,?_⟩⟩,fun h0=>?_⟩
 ·unfold misB
  rw[h0,h1]
  rfl
 ·have e:bndF p (sngF p i d)=frE (bndQ p (sngF p i d)):=by unfold bndF;rw[if_pos h1]
  rw[e]
  exact isF_of (bnd_sz h1) (by omega)
 ·have e:bndF p (sngF p i d)=frE (bndQ p (sngF p i d)):=by unfold bndF;rw[if_pos h1]
  rw[e,valF_frE]
  unfold misB
  rw[h0,h1]
  simp
 ·unfold misB
  rw[decide_eq_false h0]
  rfl
noncomputable def fixV (p:Prob) (q:Rat) (i:Int):Int:=if misB p i 1 q=true then -1 else if misB p i (-1) q=true then 1 else 0
noncomputable def fixA (p:Prob) (q:Rat) (k:Nat):List Int:=(uptoI p.offers.length).map fun i:Int=>if i<(k:Int) then fixV p q i else 0
noncomputable def fixW (p:Prob) (m:Int):List Int:=if checkE p=0 then(uptoI p.offers.length).map (fixV p (m:Rat)) else[]
noncomputable def r383:SCtr:=⟨16,Prob×Int,.cons codP (.one (codI .i64)),fun a=> -9223372036854775808≤a.2∧a.2≤9223372036854775807,fun a=> .tup [.row (.i .i64) (fixW a.1 a.2),.si .i64 (checkE a.1)]⟩
noncomputable def Λ383 (p:Prob) (m:Int):Nat→LoopAnn
 |8=> .inv Int (fun i=>⟨[(8,.fn (.func 29) [] [.ptr 0 0 20,.ptr 1 0 3]),(9,.ow 2 p.offers.length 1),(24,.si .i64 p.offers.length),(25,.si .i64 i)],[.cells p.ss 27 20 false,.cells [.sb (frE (IntCast.intCast m)).1,.row (.i .u32) (frE (IntCast.intCast m)).2.1,.row (.i .u32) (frE (IntCast.intCast m)).2.2] 58 3 false,.row (.i .i64) (fixA p (IntCast.intCast m) i.toNat) 3 true]⟩)
   (fun s=>iS s 25) (fun i=>0≤i∧i≤p.offers.length) (fun i=>(p.offers.length - i).toNat) fun _ _=> .look
 |_=> .look
theorem h383:Holds Try.prog r383:=by
 refine con (L:=[r79,r94]) (W:=ownT [r389]) r383 F383 (fun a=>Λ383 a.1 a.2) (ownT_ok (by simpa using h389)) (by simpa using⟨h79,h94⟩) (by kernel_rfl) (by kernel_rfl) (fun _=>rfl) ?_
 rintro⟨p,m⟩ ⟨m0,m1⟩
 simp only at m0 m1
 refine vcOf (let z0:=decide (checkE p≠(0:Int));let z1:=SId.i .i64;let z2:=[SV.si .i64 (checkE p)];let z3:=SV.tup (SV.row z1 (fixW p m)::z2);let z4:=(↑p.offers.length:Int);let z5:=SV.fn (Fn.func 29) [] [SV.ptr 0 0 20,SV.ptr 1 0 3];let z6:=p.offers.length;let z7:=SV.ow 2 z6 1;let z8:=(↑z6:Int);let z9:=SV.si .i64 z8;let z10:=SV.il .i64 0;let z11:=SObj.cells [SV.si .i64 p.supply.a0,SV.si .i64 p.supply.a1,SV.si .i64 p.supply.a2,SV.si .i64 p.supply.a3,SV.si .i64 p.supply.a4,SV.si .i64 p.supply.a5,SV.si .i64 p.opn.a0,SV.si .i64 p.opn.a1,SV.si .i64 p.opn.a2,SV.si .i64 p.opn.a3,SV.si .i64 p.opn.a4,SV.si .i64 p.opn.a5,SV.si .i64 p.cls.a0,SV.si .i64 p.cls.a1,SV.si .i64 p.cls.a2,SV.si .i64 p.cls.a3,SV.si .i64 p.cls.a4,SV.si .i64 p.cls.a5,SV.row z1 p.classes,SV.row SId.off p.offers] 27 20 false;let z12:=IntCast.intCast m;let z13:=SId.i .u32;let z14:=SObj.cells [SV.sb (frE z12).fst,SV.row z13 (frE z12).snd.fst,SV.row z13 (frE z12).snd.snd] 58 3 false;let z15:=((frE z12).fst,(frE z12).snd.fst,(frE z12).snd.snd);True∧(z0=true→(SV.tup (SV.row z1 []::z2)).same z3)∧(z0=false→((-9223372036854775808:Int)≤m∧m≤(9223372036854775807:Int))∧(0:Int)≤z4∧z4≤z4∧z4*(8:Int)≤(140737488355328:Int)∧z4≤(1000000000000:Int)∧(((z5.same z5∧(SV.ow 2 z4.toNat 1).same z7∧(SV.si .i64 (↑z4.toNat:Int)).same z9∧z10.same (SV.si .i64 0)∧True)∧z11.same z11∧(SObj.cells [SV.sb (frE z12).fst,SV.row z13 (frE z12).snd.fst,SV.row z13 (frE z12).snd.snd] 58 3 false).same z14∧(SObj.row z1 (List.replicate z4.toNat (0:Int)) 3 true).same (SObj.row z1 (fixA p z12 0) 3 true)∧True)∧(0:Int)≤(0:Int)∧(0:Int)≤z8)∧∀(x:Int),let z16:=misB p x (1:Int) (valF z15);let z17:=fixA p z12 x.toNat;let z18:=x+(1:Int);let z19:=SV.si .i64 z18;let z20:=SObj.row z1 (fixA p z12 z18.toNat) 3 true;let z21:=misB p x (-1:Int) (valF z15);(0:Int)≤x∧x≤z8→(decide (x<z8)=true→(checkE p=(0:Int)∧((0:Int)≤x∧x<z8)∧∃q,z15=frE q∧Sz 1000 q)∧(z16=true→z6=z17.length∧(0:Int)≤x∧x<(↑z17.length:Int)∧z6=z17.length∧x.toNat<z17.length∧inR .i64 z18∧((z5.same z5∧z7.same z7∧z9.same z9∧z19.same z19∧True)∧z11.same z11∧z14.same z14∧(SObj.row z1 (z17.set x.toNat (-1:Int)) 3 true).same z20∧True)∧((0:Int)≤z18∧z18≤z8)∧(z8 - z18).toNat<(z8 - x).toNat)∧(z16=false→(checkE p=(0:Int)∧((0:Int)≤x∧x<z8)∧∃q,z15=frE q∧Sz 1000 q)∧(z21=true→z6=z17.length∧(0:Int)≤x∧x<(↑z17.length:Int)∧z6=z17.length∧x.toNat<z17.length∧inR .i64 z18∧((z5.same z5∧z7.same z7∧z9.same z9∧z19.same z19∧True)∧z11.same z11∧z14.same z14∧(SObj.row z1 (z17.set x.toNat (1:Int)) 3 true).same z20∧True)∧((0:Int)≤z18∧z18≤z8)∧(z8 - z18).toNat<(z8 - x).toNat)∧(z21=false→inR .i64 z18∧((z5.same z5∧z7.same z7∧z9.same z9∧z19.same z19∧True)∧z11.same z11∧z14.same z14∧(SObj.row z1 z17 3 true).same z20∧True)∧((0:Int)≤z18∧z18≤z8)∧(z8 - z18).toNat<(z8 - x).toNat)))∧(decide (x<z8)=false→z6=z17.length∧(SV.tup [SV.row z1 z17,z10]).same z3))) (by kernel_rfl) ?_
 simp only[vcs]
 refine⟨fun h=>by unfold fixW;rw[if_neg h],fun h=>?_⟩
 have hc:checkE p=0:=Classical.not_not.1 h
 have h160:=(good_of hc).2.1
 have hcast:∀k:Nat,((k:Nat):Int).toNat=k:=fun k=>Int.toNat_natCast k
 have hal:∀k,(fixA p (IntCast.intCast m) k).length=p.offers.length:=fun k=>by unfold fixA;rw[List.length_map,uptoI_len]
 have hrow:∀{x y:List Int},x=y→(SObj.row (.i .i64) x 3 true).same (SObj.row (.i .i64) y 3 true):=by rintro _ _ rfl;rfl
 have hsm:Sz 1000 (IntCast.intCast m:Rat):=by
  have h1:Sz 3 (IntCast.intCast m:Rat):=by
   unfold Sz
   rw[show(IntCast.intCast m:Rat)=((m:Int):Rat) from rfl,Rat.num_intCast,Rat.den_intCast]
   omega
  exact h1.mono (by omega)
 have anth:∀(k i:Nat),i<p.offers.length→nthD (fixA p (IntCast.intCast m) k) i 0=if(i:Int)<(k:Int) then fixV p (IntCast.intCast m) i else 0:=fun k i hi=>by
  unfold fixA
  rw[nth_mapL (e:=0) (by rw[uptoI_len];exact hi),nth_upto hi]
 have aset:∀i:Int,0≤i→i<p.offers.length→(fixA p (IntCast.intCast m) i.toNat).set i.toNat (fixV p (IntCast.intCast m) i)=fixA p (IntCast.intCast m) (i+1).toNat:=fun i i0 i1=>by
  refine List.ext_getElem (by rw[List.length_set,hal,hal]) fun j h1 h2=>?_
  rw[hal] at h2
  have e1:=anth (i+1).toNat j h2
  rw[nthD_eq (by rw[hal];exact h2)] at e1
  rw[e1,List.getElem_set]
  by_cases hj:i.toNat=j
  ·rw[if_pos hj,if_pos (by omega),show((j:Nat):Int)=i by omega]
  ·have e2:=anth i.toNat j h2
   rw[nthD_eq (by rw[hal];exact h2)] at e2
   rw[if_neg hj,e2]
   by_cases h3:(j:Int)<i
   ·rw[if_pos (by omega),if_pos (by omega)]
   ·rw[if_neg (by omega),if_neg (by omega)]
 have akeep:∀i:Int,0≤i→i<p.offers.length→fixV p (IntCast.intCast m) i=0→fixA p (IntCast.intCast m) i.toNat=fixA p (IntCast.intCast m) (i+1).toNat:=fun i i0 i1 hz=>by
  rw[←aset i i0 i1,hz]
  refine(List.ext_getElem (by rw[List.length_set]) fun j h1 h2=>?_)
  rw[List.getElem_set]
  split
  ·rename_i hj
   have e2:=anth i.toNat j (by rw[hal] at h1;exact h1)
   rw[nthD_eq h1] at e2
   rw[e2,if_neg (by omega)]
  ·rfl
 simp only[hcast,hal,fra_eta,valF_frE]
 refine⟨⟨m0,m1⟩,by omega,by omega,by omega,by omega,⟨⟨⟨rfl,by first|trivial|rfl⟩,hrow ?_⟩,by omega,by omega⟩,?_⟩
 ·refine List.ext_getElem (by rw[hal,List.length_replicate]) fun j h1 h2=>?_
  rw[hal] at h2
  have e1:=anth 0 j h2
  rw[nthD_eq (by rw[hal];exact h2)] at e1
  rw[e1,if_neg (by omega),List.getElem_replicate]
 rintro i ⟨i0,i1⟩
 refine⟨fun hi=>⟨⟨hc,⟨i0,hi⟩,_,rfl,hsm⟩,fun h1=>?_,fun h1=>⟨⟨hc,⟨i0,hi⟩,_,rfl,hsm⟩,fun h2=>?_,fun h2=>?_⟩⟩,fun hi=>?_⟩
 ·have e:fixV p (IntCast.intCast m) i= -1:=by unfold fixV;rw[if_pos h1]
  have:=aset i i0 hi
  rw[e] at this
  rw[this]
  exact⟨by first|trivial|rfl,i0,hi,by first|trivial|rfl,by omega,by omega,hrow rfl,by omega,by omega⟩
 ·have e:fixV p (IntCast.intCast m) i=1:=by unfold fixV;rw[if_neg (by rw[h1];simp),if_pos h2]
  have:=aset i i0 hi
  rw[e] at this
  rw[this]
  exact⟨by first|trivial|rfl,i0,hi,by first|trivial|rfl,by omega,by omega,hrow rfl,by omega,by omega⟩
 ·have e:fixV p (IntCast.intCast m) i=0:=by unfold fixV;rw[if_neg (by rw[h1];simp),if_neg (by rw[h2];simp)]
  rw[akeep i i0 hi e]
  exact⟨by omega,hrow rfl,by omega,by omega⟩
 ·refine⟨trivial,?_,hc.symm⟩
  rw[show i.toNat=p.offers.length by omega]
  unfold fixW fixA
  rw[if_pos hc]
  refine List.map_congr_left fun j hj=>?_
  rw[if_pos (uptoI_mem.1 hj).2]
theorem rem_check {p:Prob} {l:List Int} (hc:checkE p=0):checkE (remP p l)=0:=by
 have hn:=offers_nodup hc
 have e:remP p l=offP p (p.offers.filter fun x=>decide (x∈(kepA p l).map (oI p))):=by
  unfold remP offP
  congr 1
  have e1:p.offers=(uptoI p.offers.length).map (oI p):=by
   refine List.ext_getElem (by rw[List.length_map,uptoI_len]) fun i h1 h2=>?_
   rw[List.getElem_map]
   have:=nth_upto (d:=0) h1
   rw[nthD_eq (by rw[uptoI_len];exact h1)] at this
   rw[this]
   unfold oI
   rw[Int.toNat_natCast,nthD_eq h1]
  conv=>rhs;rw[e1]
  rw[List.filter_map]
  congr 1
  unfold kepA kepI
  refine List.filter_congr fun i hi=>?_
  have hi2:=uptoI_mem.1 hi
  simp only[Function.comp,decide_eq_decide]
  constructor
  ·intro h
   exact List.mem_map.2 ⟨i,List.mem_filter.2 ⟨hi,decide_eq_true h⟩,rfl⟩
  ·intro h
   obtain⟨j,hj,hji⟩:=List.mem_map.1 h
   rw[List.mem_filter,decide_eq_true_eq] at hj
   have hj2:=uptoI_mem.1 hj.1
   have:=nth_inj hn (i:=j.toNat) (j:=i.toNat) (by omega) (by omega) hji
   rw[show i=j by omega]
   exact hj.2
 rw[e]
 exact check_filter hc
def redQ (p:Prob):Prob:=remP p (domS p)
noncomputable def uslI (p:Prob) (m:Int):List Int:=dcI (fixW (redQ p) m) (-1)
noncomputable def redP (p:Prob) (m:Int):Prob:=if checkE p=0 then remP (redQ p) (uslI p m) else zeroP
noncomputable def redS (p:Prob) (m:Int):List Int:=if checkE p=0 then(kepA (redQ p) (uslI p m)).map (fun i=>nthD (kepA p (domS p)) i.toNat 0) else[]
theorem kepA_lt {p:Prob} {l:List Int}:(kepA p l).Pairwise (·<·):=uptoI_lt.sublist List.filter_sublist
theorem kepA_mem {p:Prob} {l:List Int} {x:Int}:x∈kepA p l↔(0≤x∧x<p.offers.length)∧x∉l:=by
 unfold kepA kepI
 rw[List.mem_filter,uptoI_mem,decide_eq_true_eq]
theorem domS_lt {p:Prob}:(domS p).Pairwise (·<·):=uptoI_lt.sublist List.filter_sublist
theorem fixW_len {p:Prob} {m:Int} (hc:checkE p=0):(fixW p m).length=p.offers.length:=by
 unfold fixW
 rw[if_pos hc,List.length_map,uptoI_len]
noncomputable def r384:SCtr:=⟨20,Prob×Int,.cons codP (.one (codI .i64)),fun a=> -9223372036854775808≤a.2∧a.2≤9223372036854775807,fun a=> .tup [.agg (redP a.1 a.2).ss,.row (.i .i64) (redS a.1 a.2),.si .i64 (checkE a.1)]⟩
def zerC:SObj:=.cells [.il .i64 0,.il .i64 0,.il .i64 0,.il .i64 0,.il .i64 0,.il .i64 0,.il .i64 0,.il .i64 0,.il .i64 0,.il .i64 0,.il .i64 0,.il .i64 0,.il .i64 0,.il .i64 0,.il .i64 0,.il .i64 0,.il .i64 0,.il .i64 0,.sc (.slice none 0 0),.sc (.slice none 0 0)] 27 20 false
noncomputable def Λ384 (p:Prob) (m:Int):Nat→LoopAnn
 |10=> .inv Int (fun i=>⟨[(4,.ptr 1 0 20),(8,.ptr 2 0 20),(9,.row (.i .i64) (kepA p (domS p))),(12,.ow 3 (dcI ((fixW (redQ p) m).take i.toNat) (-1)).length 1),(43,.row (.i .i64) (fixW (redQ p) m)),(44,.si .i64 (fixW (redQ p) m).length),(45,.si .i64 i)],[.cells p.ss 27 20 false,zerC,.cells (redQ p).ss 27 20 false,.row (.i .i64) (dcI ((fixW (redQ p) m).take i.toNat) (-1)) 3 true]⟩)
   (fun s=>iS s 45) (fun i=>0≤i∧i≤(fixW (redQ p) m).length) (fun i=>((fixW (redQ p) m).length - i).toNat) fun _ _=> .look
 |18=> .inv Int (fun i=>⟨[(4,.ptr 1 0 20),(9,.row (.i .i64) (kepA p (domS p))),(15,.ptr 4 0 20),(17,.ow 5 (((kepA (redQ p) (uslI p m)).take i.toNat).map (fun i=>nthD (kepA p (domS p)) i.toNat 0)).length 1),(63,.row (.i .i64) (kepA (redQ p) (uslI p m))),(64,.si .i64 (kepA (redQ p) (uslI p m)).length),(65,.si .i64 i)],[.cells p.ss 27 20 false,zerC,.cells (redQ p).ss 27 20 false,.dead,.cells (remP (redQ p) (uslI p m)).ss 27 20 false,.row (.i .i64) (((kepA (redQ p) (uslI p m)).take i.toNat).map (fun i=>nthD (kepA p (domS p)) i.toNat 0)) 3 true]⟩)
   (fun s=>iS s 65) (fun i=>0≤i∧i≤(kepA (redQ p) (uslI p m)).length) (fun i=>((kepA (redQ p) (uslI p m)).length - i).toNat) fun _ _=> .look
 |_=> .look
theorem h384:Holds Try.prog r384:=by
 refine con (L:=[r79,r386,r388,r383]) r384 F384 (fun a=>Λ384 a.1 a.2) (OwnOK.none _) (by simpa using⟨h79,h386,h388,h383⟩) (by kernel_rfl) (by kernel_rfl) (fun _=>rfl) ?_
 rintro⟨p,m⟩ ⟨m0,m1⟩
 simp only at m0 m1
 refine vcOf (let z0:=decide (checkE p≠(0:Int));let z1:=SV.il .i64 0;let z2:=SId.i .i64;let z3:=SV.row z2 [];let z4:=SV.agg [z1,z1,z1,z1,z1,z1,z1,z1,z1,z1,z1,z1,z1,z1,z1,z1,z1,z1,z3,z3];let z5:=[SV.si .i64 (checkE p)];let z6:=(redP p m).supply;let z7:=(redP p m).opn;let z8:=(redP p m).cls;let z9:=SV.tup (SV.agg [SV.si .i64 z6.a0,SV.si .i64 z6.a1,SV.si .i64 z6.a2,SV.si .i64 z6.a3,SV.si .i64 z6.a4,SV.si .i64 z6.a5,SV.si .i64 z7.a0,SV.si .i64 z7.a1,SV.si .i64 z7.a2,SV.si .i64 z7.a3,SV.si .i64 z7.a4,SV.si .i64 z7.a5,SV.si .i64 z8.a0,SV.si .i64 z8.a1,SV.si .i64 z8.a2,SV.si .i64 z8.a3,SV.si .i64 z8.a4,SV.si .i64 z8.a5,SV.row z2 (redP p m).classes,SV.row SId.off (redP p m).offers]::SV.row z2 (redS p m)::z5);let z10:=remP p (domS p);let z11:=decide (checkE z10≠(0:Int));let z12:=SV.ptr 1 0 20;let z13:=SV.ptr 2 0 20;let z14:=kepA p (domS p);let z15:=fixW (redQ p) m;let z16:=SV.row z2 z15;let z17:=(↑z15.length:Int);let z18:=SV.si .i64 z17;let z19:=SObj.cells [SV.si .i64 p.supply.a0,SV.si .i64 p.supply.a1,SV.si .i64 p.supply.a2,SV.si .i64 p.supply.a3,SV.si .i64 p.supply.a4,SV.si .i64 p.supply.a5,SV.si .i64 p.opn.a0,SV.si .i64 p.opn.a1,SV.si .i64 p.opn.a2,SV.si .i64 p.opn.a3,SV.si .i64 p.opn.a4,SV.si .i64 p.opn.a5,SV.si .i64 p.cls.a0,SV.si .i64 p.cls.a1,SV.si .i64 p.cls.a2,SV.si .i64 p.cls.a3,SV.si .i64 p.cls.a4,SV.si .i64 p.cls.a5,SV.row z2 p.classes,SV.row SId.off p.offers] 27 20 false;let z20:=SV.sc (Value.slice none 0 0);let z21:=SObj.cells [z1,z1,z1,z1,z1,z1,z1,z1,z1,z1,z1,z1,z1,z1,z1,z1,z1,z1,z20,z20] 27 20 false;let z22:=z10.supply;let z23:=z10.opn;let z24:=z10.cls;let z25:=(redQ p).supply;let z26:=(redQ p).opn;let z27:=(redQ p).cls;let z28:=SObj.cells [SV.si .i64 z25.a0,SV.si .i64 z25.a1,SV.si .i64 z25.a2,SV.si .i64 z25.a3,SV.si .i64 z25.a4,SV.si .i64 z25.a5,SV.si .i64 z26.a0,SV.si .i64 z26.a1,SV.si .i64 z26.a2,SV.si .i64 z26.a3,SV.si .i64 z26.a4,SV.si .i64 z26.a5,SV.si .i64 z27.a0,SV.si .i64 z27.a1,SV.si .i64 z27.a2,SV.si .i64 z27.a3,SV.si .i64 z27.a4,SV.si .i64 z27.a5,SV.row z2 (redQ p).classes,SV.row SId.off (redQ p).offers] 27 20 false;let z29:=SObj.row z2 [] 3 true;let z30:=SV.ptr 4 0 20;let z31:=SV.ow 5 0 1;let z32:=kepA (redQ p) (uslI p m);let z33:=SV.row z2 z32;let z34:=(↑z32.length:Int);let z35:=SV.si .i64 z34;let z36:=remP (redQ p) (uslI p m);let z37:=z36.supply;let z38:=z36.opn;let z39:=z36.cls;let z40:=[SV.si .i64 z37.a0,SV.si .i64 z37.a1,SV.si .i64 z37.a2,SV.si .i64 z37.a3,SV.si .i64 z37.a4,SV.si .i64 z37.a5,SV.si .i64 z38.a0,SV.si .i64 z38.a1,SV.si .i64 z38.a2,SV.si .i64 z38.a3,SV.si .i64 z38.a4,SV.si .i64 z38.a5,SV.si .i64 z39.a0,SV.si .i64 z39.a1,SV.si .i64 z39.a2,SV.si .i64 z39.a3,SV.si .i64 z39.a4,SV.si .i64 z39.a5,SV.row z2 z36.classes,SV.row SId.off z36.offers];let z41:=SObj.cells z40 27 20 false;True∧(z0=true→(SV.tup (z4::z3::z5)).same z9)∧(z0=false→p.offers.length≤1000∧((p.offers.length≤1000∧p.classes.length≤1000)∧(domS p).length≤1000000000000∧List.Pairwise (fun x1 x2 ↦x1<x2) (domS p))∧((-9223372036854775808:Int)≤m∧m≤(9223372036854775807:Int))∧(z11=true→(SV.tup [z4,z3,SV.si .i64 (checkE z10)]).same z9)∧(z11=false→(((z12.same z12∧z13.same z13∧(SV.row z2 z14).same (SV.row z2 z14)∧(SV.ow 3 0 1).same (SV.ow 3 (dcI [] (-1:Int)).length 1)∧(SV.row z2 (fixW z10 m)).same z16∧(SV.si .i64 (↑(fixW z10 m).length:Int)).same z18∧z1.same (SV.si .i64 0)∧True)∧z19.same z19∧z21.same z21∧(SObj.cells [SV.si .i64 z22.a0,SV.si .i64 z22.a1,SV.si .i64 z22.a2,SV.si .i64 z22.a3,SV.si .i64 z22.a4,SV.si .i64 z22.a5,SV.si .i64 z23.a0,SV.si .i64 z23.a1,SV.si .i64 z23.a2,SV.si .i64 z23.a3,SV.si .i64 z23.a4,SV.si .i64 z23.a5,SV.si .i64 z24.a0,SV.si .i64 z24.a1,SV.si .i64 z24.a2,SV.si .i64 z24.a3,SV.si .i64 z24.a4,SV.si .i64 z24.a5,SV.row z2 z10.classes,SV.row SId.off z10.offers] 27 20 false).same z28∧z29.same (SObj.row z2 (dcI [] (-1:Int)) 3 true)∧True)∧(0:Int)≤(0:Int)∧(0:Int)≤z17)∧∀(x:Int),let z42:=decide (nthD z15 x.toNat (0:Int)=(-1:Int));let z43:=dcI (List.take x.toNat z15) (-1:Int);let z44:=z43.length+1;let z45:=x+(1:Int);let z46:=dcI (List.take z45.toNat z15) (-1:Int);let z47:=SV.ow 3 z46.length 1;let z48:=SV.si .i64 z45;let z49:=SObj.row z2 z46 3 true;let z50:=remP (redQ p) z43;let z51:=z50.supply;let z52:=z50.opn;let z53:=z50.cls;(0:Int)≤x∧x≤z17→(decide (x<z17)=true→(0:Int)≤x∧x<(↑z15.length:Int)∧x.toNat<z15.length∧(z42=true→z43.length=z43.length∧z44*8≤140737488355328∧z44≤1000000000000∧inR .i64 z45∧((z12.same z12∧z13.same z13∧(SV.row z2 z14).same (SV.row z2 z14)∧(SV.ow 3 (z43++[x]).length 1).same z47∧z16.same z16∧z18.same z18∧z48.same z48∧True)∧z19.same z19∧z21.same z21∧z28.same z28∧(SObj.row z2 (z43++[x]) 3 true).same z49∧True)∧((0:Int)≤z45∧z45≤z17)∧(z17 - z45).toNat<(z17 - x).toNat)∧(z42=false→inR .i64 z45∧((z12.same z12∧z13.same z13∧(SV.row z2 z14).same (SV.row z2 z14)∧(SV.ow 3 z43.length 1).same z47∧z16.same z16∧z18.same z18∧z48.same z48∧True)∧z19.same z19∧z21.same z21∧z28.same z28∧(SObj.row z2 z43 3 true).same z49∧True)∧((0:Int)≤z45∧z45≤z17)∧(z17 - z45).toNat<(z17 - x).toNat))∧(decide (x<z17)=false→z43.length=z43.length∧(((redQ p).offers.length≤1000∧(redQ p).classes.length≤1000)∧z43.length≤1000000000000∧List.Pairwise (fun x1 x2 ↦x1<x2) z43)∧(((z12.same z12∧(SV.row z2 z14).same (SV.row z2 z14)∧z30.same z30∧z31.same z31∧(SV.row z2 (kepA (redQ p) z43)).same z33∧(SV.si .i64 (↑(kepA (redQ p) z43).length:Int)).same z35∧z1.same (SV.si .i64 0)∧True)∧z19.same z19∧z21.same z21∧z28.same z28∧SObj.dead.same SObj.dead∧(SObj.cells [SV.si .i64 z51.a0,SV.si .i64 z51.a1,SV.si .i64 z51.a2,SV.si .i64 z51.a3,SV.si .i64 z51.a4,SV.si .i64 z51.a5,SV.si .i64 z52.a0,SV.si .i64 z52.a1,SV.si .i64 z52.a2,SV.si .i64 z52.a3,SV.si .i64 z52.a4,SV.si .i64 z52.a5,SV.si .i64 z53.a0,SV.si .i64 z53.a1,SV.si .i64 z53.a2,SV.si .i64 z53.a3,SV.si .i64 z53.a4,SV.si .i64 z53.a5,SV.row z2 z50.classes,SV.row SId.off z50.offers] 27 20 false).same z41∧z29.same z29∧True)∧(0:Int)≤(0:Int)∧(0:Int)≤z34)∧∀(x:Int),let z54:=nthD z32 x.toNat (0:Int);let z55:=List.take x.toNat z32;let z56:=List.map (fun i ↦nthD z14 i.toNat (0:z2.T)) z55;let z57:=z56.length+1;let z58:=x+(1:Int);let z59:=z56++[nthD z14 z54.toNat (0:Int)];let z60:=List.take z58.toNat z32;let z61:=SV.si .i64 z58;(0:Int)≤x∧x≤z34→(decide (x<z34)=true→(0:Int)≤x∧x<(↑z32.length:Int)∧x.toNat<z32.length∧(0:Int)≤z54∧z54<(↑z14.length:Int)∧z54.toNat<z14.length∧(List.map (fun i ↦nthD z14 i.toNat (0:Int)) z55).length=z56.length∧z57*8≤140737488355328∧z57≤1000000000000∧inR .i64 z58∧((z12.same z12∧(SV.row z2 z14).same (SV.row z2 z14)∧z30.same z30∧(SV.ow 5 z59.length 1).same (SV.ow 5 (List.map (fun i ↦nthD z14 i.toNat (0:Int)) z60).length 1)∧z33.same z33∧z35.same z35∧z61.same z61∧True)∧z19.same z19∧z21.same z21∧z28.same z28∧SObj.dead.same SObj.dead∧z41.same z41∧(SObj.row z2 z59 3 true).same (SObj.row z2 (List.map (fun i ↦nthD z14 i.toNat (0:z2.T)) z60) 3 true)∧True)∧((0:Int)≤z58∧z58≤z34)∧(z34 - z58).toNat<(z34 - x).toNat)∧(decide (x<z34)=false→(List.map (fun i ↦nthD z14 i.toNat (0:Int)) z55).length=z56.length∧(SV.tup [SV.agg z40,SV.row z2 z56,z1]).same z9))))) (by kernel_rfl) ?_
 simp only[vcs]
 refine⟨fun h=>?_,fun h=>?_⟩
 ·have e1:redP p m=zeroP:=by unfold redP;rw[if_neg h]
  have e2:redS p m=[]:=by unfold redS;rw[if_neg h]
  rw[e1,e2]
  exact⟨rfl,rfl⟩
 have hc:checkE p=0:=Classical.not_not.1 h
 have hg:=good_of hc
 have hq:checkE (redQ p)=0:=rem_check hc
 have hgq:=good_of hq
 have hdl:=@domL_len p p.offers.length
 have hrq:remP p (domS p)=redQ p:=rfl
 have hfl:=@fixW_len (redQ p) m hq
 have hu:uslI p m=dcI (fixW (redQ p) m) (-1):=rfl
 have hul:=@dcI_len (fixW (redQ p) m) (-1)
 have hkl:=@kepI_len (redQ p) (uslI p m) (redQ p).offers.length
 have hkq:kepI (redQ p) (uslI p m) (redQ p).offers.length=kepA (redQ p) (uslI p m):=rfl
 have hql:(redQ p).offers.length=(kepA p (domS p)).length:=List.length_map _
 have h1:=hg.1
 have h2:=hg.2.1
 have h3:=hgq.1
 have h4:=hgq.2.1
 have hw3:∀{a b:Nat},a=b→(SV.ow 3 a 1).same (SV.ow 3 b 1):=by rintro _ _ rfl;rfl
 have hw5:∀{a b:Nat},a=b→(SV.ow 5 a 1).same (SV.ow 5 b 1):=by rintro _ _ rfl;rfl
 have hrI:∀{x y:List Int},x=y→(SObj.row (.i .i64) x 3 true).same (SObj.row (.i .i64) y 3 true):=by rintro _ _ rfl;rfl
 simp only[hrq,hq]
 rw[hkq] at hkl
 unfold domS at hdl
 refine⟨by omega,⟨⟨by omega,by omega⟩,by show(domL p p.offers.length).length≤_;omega,domS_lt⟩,⟨m0,m1⟩,fun h=>absurd rfl h,fun _=>⟨⟨⟨⟨hw3 rfl,trivial,trivial⟩,rfl,hrI rfl⟩,by omega,by omega⟩,?_⟩⟩
 rintro i ⟨i0,i1⟩
 have hdt:=@dcI_len ((fixW (redQ p) m).take i.toNat) (-1)
 have htl:((fixW (redQ p) m).take i.toNat).length≤160:=by rw[List.length_take];omega
 refine⟨fun hi=>?_,fun hi=>?_⟩
 ·have hs:=@dc_succ (fixW (redQ p) m) (-1) i i0 hi
  refine⟨i0,hi,by omega,fun h5=>?_,fun h5=>?_⟩
  ·rw[if_pos h5] at hs
   rw[←hs]
   exact⟨by omega,by omega,by omega,⟨hw3 rfl,hrI rfl⟩,by omega,by omega⟩
  ·rw[if_neg h5,List.append_nil] at hs
   rw[hs]
   exact⟨by omega,⟨hw3 rfl,hrI rfl⟩,by omega,by omega⟩
 ·rw[dc_all (by omega),←hu] at*
  refine⟨⟨⟨by omega,by omega⟩,by omega,dcI_lt⟩,⟨⟨⟨by first|trivial|rfl,by first|trivial|rfl⟩,rfl⟩,by omega,by omega⟩,?_⟩
  rintro j ⟨j0,j1⟩
  have hml:(List.map (fun i:Int=>nthD (kepA p (domS p)) i.toNat 0) (List.take j.toNat (kepA (redQ p) (uslI p m)))).length≤160:=by rw[List.length_map,List.length_take];omega
  refine⟨fun hj=>?_,fun hj=>?_⟩
  ·have hk:=(kepA_mem.1 (nthD_mem (d:=0) (show j.toNat<(kepA (redQ p) (uslI p m)).length by omega))).1
   have e:List.map (fun i:Int=>nthD (kepA p (domS p)) i.toNat 0) (List.take j.toNat (kepA (redQ p) (uslI p m)))++[nthD (kepA p (domS p)) (nthD (kepA (redQ p) (uslI p m)) j.toNat 0).toNat 0]=List.map (fun i:Int=>nthD (kepA p (domS p)) i.toNat 0) (List.take (j+1).toNat (kepA (redQ p) (uslI p m))):=by
    rw[take_nth (d:=0) j0 hj,List.map_append]
    rfl
   rw[e]
   exact⟨j0,hj,by omega,hk.1,by omega,by omega,by omega,by omega,by omega,⟨hw5 rfl,hrI rfl⟩,by omega,by omega⟩
  ·have e1:redP p m=remP (redQ p) (uslI p m):=by unfold redP;rw[if_pos hc]
   have e2:redS p m=(kepA (redQ p) (uslI p m)).map (fun i=>nthD (kepA p (domS p)) i.toNat 0):=by unfold redS;rw[if_pos hc]
   rw[e1,e2,List.take_of_length_le (by omega)]
   exact⟨rfl,rfl,hc.symm⟩
def r387:SCtr:=⟨25,Bun×Bun,.cons (codE .bun) (.one (codE .bun)),fun _=>True,fun a=> .sb (a.1.le a.2)⟩
theorem h387:Holds Try.prog r387:=by
 refine con (L:=[]) r387 F387 (fun _=>fun _=> .unroll 7) (OwnOK.none _) (by simp) (by kernel_rfl) (by kernel_rfl) (fun _=>rfl) ?_
 rintro⟨a,b⟩ -
 refine vcOf (let z0:=decide (b.a0<a.a0);let z1:=decide (b.a1<a.a1);let z2:=decide (b.a2<a.a2);let z3:=decide (b.a3<a.a3);let z4:=decide (b.a4<a.a4);let z5:=decide (b.a5<a.a5);(z0=true→(SV.bl false).same (SV.sb (a.le b)))∧(z0=false→(z1=true→(SV.bl false).same (SV.sb (a.le b)))∧(z1=false→(z2=true→(SV.bl false).same (SV.sb (a.le b)))∧(z2=false→(z3=true→(SV.bl false).same (SV.sb (a.le b)))∧(z3=false→(z4=true→(SV.bl false).same (SV.sb (a.le b)))∧(z4=false→(z5=true→(SV.bl false).same (SV.sb (a.le b)))∧(z5=false→(SV.bl true).same (SV.sb (a.le b))))))))) (by kernel_rfl) ?_
 conv=>zeta
 have hb:=@Bun.le_iff a b
 by_cases h:a.le b=true
 ·have h2:=hb.1 h
  simp only[vcs,h]
  repeat' (first|refine And.intro ?_ ?_|intro _)
  all_goals first|trivial|omega|(exfalso;omega)
 ·have h2:=mt hb.2 h
  have h3:a.le b=false:=by simpa using h
  simp only[vcs,h3]
  repeat' (first|refine And.intro ?_ ?_|intro _)
  all_goals first|trivial|omega|(exfalso;omega)
def r378:SCtr:=⟨10,Prob,.one codP,fun _=>True,fun p=> .tup [.row (.i .i64) (if checkE p=0 then domS p else[]),.si .i64 (checkE p)]⟩
def offC (o:Off):SObj:=.cells [.si .i64 o.bidder,.si .i64 o.want.a0,.si .i64 o.want.a1,.si .i64 o.want.a2,.si .i64 o.want.a3,.si .i64 o.want.a4,.si .i64 o.want.a5,.si .i64 o.value] 48 8 false
def Λ378 (p:Prob):Nat→LoopAnn
 |6=> .inv Int (fun i=>⟨[(1,.ptr 0 0 20),(5,.ow 1 (domL p i.toNat).length 1),(6,.si .i64 i)],[.cells p.ss 27 20 false,.row (.i .i64) (domL p i.toNat) 3 true]⟩)
   (fun s=>iS s 6) (fun i=>0≤i∧i≤p.offers.length) (fun i=>(p.offers.length - i).toNat) fun i j=>match j with
   |11=> .inv Int (fun k=>⟨[(1,.ptr 0 0 20),(5,.ow 1 (domL p i.toNat).length 1),(6,.si .i64 i),(7,.ptr 2 0 8),(8,.sb (domK p i k.toNat)),(9,.si .i64 k)],[.cells p.ss 27 20 false,.row (.i .i64) (domL p i.toNat) 3 true,offC (oI p i)]⟩)
     (fun s=>iS s 9) (fun k=>0≤k∧k≤p.offers.length) (fun k=>(p.offers.length - k).toNat) fun _ _=> .look
   |_=> .look
 |_=> .look
theorem h378:Holds Try.prog r378:=by
 refine con (L:=[r24,r387]) r378 F378 Λ378 (OwnOK.none _) (by simpa using⟨h24,h387⟩) (by kernel_rfl) (by kernel_rfl) (fun _=>rfl) ?_
 rintro(p:Prob) -
 refine vcOf (let z0:=decide (checkE p≠(0:Int));let z1:=SId.i .i64;let z2:=[SV.si .i64 (checkE p)];let z3:=SV.tup (SV.row z1 (if checkE p=(0:Int) then domS p else[])::z2);let z4:=SV.ptr 0 0 20;let z5:=SV.il .i64 0;let z6:=SObj.cells [SV.si .i64 p.supply.a0,SV.si .i64 p.supply.a1,SV.si .i64 p.supply.a2,SV.si .i64 p.supply.a3,SV.si .i64 p.supply.a4,SV.si .i64 p.supply.a5,SV.si .i64 p.opn.a0,SV.si .i64 p.opn.a1,SV.si .i64 p.opn.a2,SV.si .i64 p.opn.a3,SV.si .i64 p.opn.a4,SV.si .i64 p.opn.a5,SV.si .i64 p.cls.a0,SV.si .i64 p.cls.a1,SV.si .i64 p.cls.a2,SV.si .i64 p.cls.a3,SV.si .i64 p.cls.a4,SV.si .i64 p.cls.a5,SV.row z1 p.classes,SV.row SId.off p.offers] 27 20 false;let z7:=(↑p.offers.length:Int);let z8:=(↑p.offers.length:Int);let z9:=SV.ptr 2 0 8;let z10:=SId.off.dflt;True∧(z0=true→(SV.tup (SV.row z1 []::z2)).same z3)∧(z0=false→(((z4.same z4∧(SV.ow 1 0 1).same (SV.ow 1 (domL p 0).length 1)∧z5.same (SV.si .i64 0)∧True)∧z6.same z6∧(SObj.row z1 [] 3 true).same (SObj.row z1 (domL p 0) 3 true)∧True)∧(0:Int)≤(0:Int)∧(0:Int)≤z7)∧∀(x:Int),let z11:=domL p x.toNat;let z12:=SV.ow 1 z11.length 1;let z13:=SObj.row z1 z11 3 true;let z14:=nthD p.offers x.toNat z10;let z15:=z14.want;let z16:=(oI p x).want;let z17:=(oI p x).value;let z18:=SObj.cells [SV.si .i64 (oI p x).bidder,SV.si .i64 z16.a0,SV.si .i64 z16.a1,SV.si .i64 z16.a2,SV.si .i64 z16.a3,SV.si .i64 z16.a4,SV.si .i64 z16.a5,SV.si .i64 z17] 48 8 false;let z19:=z11.length+1;let z20:=x+(1:Int);let z21:=SV.ow 1 (domL p z20.toNat).length 1;let z22:=SV.si .i64 z20;let z23:=SObj.row z1 (domL p z20.toNat) 3 true;(0:Int)≤x∧x≤z7→(decide (x<z8)=true→(0:Int)≤x∧x<z8∧x.toNat<p.offers.length∧(((z4.same z4∧z12.same z12∧(SV.si .i64 x).same (SV.si .i64 x)∧z9.same z9∧(SV.bl false).same (SV.sb (domK p x 0))∧z5.same (SV.si .i64 0)∧True)∧z6.same z6∧z13.same z13∧(SObj.cells [SV.si .i64 z14.bidder,SV.si .i64 z15.a0,SV.si .i64 z15.a1,SV.si .i64 z15.a2,SV.si .i64 z15.a3,SV.si .i64 z15.a4,SV.si .i64 z15.a5,SV.si .i64 z14.value] 48 8 false).same z18∧True)∧(0:Int)≤(0:Int)∧(0:Int)≤z7)∧∀(x_1:Int),let z24:=nthD p.offers x_1.toNat z10;let z25:=decide (z24.bidder=(oI p x).bidder);let z26:=decide (z17<z24.value);let z27:=x_1+(1:Int);let z28:=SV.si .i64 x;let z29:=SV.sb (domK p x z27.toNat);let z30:=SV.si .i64 z27;let z31:=decide (z24.value=z17);let z32:=domK p x x_1.toNat;(0:Int)≤x_1∧x_1≤z7→(decide (x_1<z8)=true→(0:Int)≤x_1∧x_1<z8∧x_1.toNat<p.offers.length∧(decide (x_1≠x)=true→(z25=true→True∧(z24.want.le z16=true→(z26=true→inR .i64 z27∧((z4.same z4∧z12.same z12∧z28.same z28∧z9.same z9∧(SV.bl true).same z29∧z30.same z30∧True)∧z6.same z6∧z13.same z13∧z18.same z18∧True)∧((0:Int)≤z27∧z27≤z7)∧(z7 - z27).toNat<(z7 - x_1).toNat)∧(z26=false→(z31=true→(decide (x_1<x)=true→inR .i64 z27∧((z4.same z4∧z12.same z12∧z28.same z28∧z9.same z9∧(SV.bl true).same z29∧z30.same z30∧True)∧z6.same z6∧z13.same z13∧z18.same z18∧True)∧((0:Int)≤z27∧z27≤z7)∧(z7 - z27).toNat<(z7 - x_1).toNat)∧(decide (x_1<x)=false→inR .i64 z27∧((z4.same z4∧z12.same z12∧z28.same z28∧z9.same z9∧(SV.sb z32).same z29∧z30.same z30∧True)∧z6.same z6∧z13.same z13∧z18.same z18∧True)∧((0:Int)≤z27∧z27≤z7)∧(z7 - z27).toNat<(z7 - x_1).toNat))∧(z31=false→inR .i64 z27∧((z4.same z4∧z12.same z12∧z28.same z28∧z9.same z9∧(SV.sb z32).same z29∧z30.same z30∧True)∧z6.same z6∧z13.same z13∧z18.same z18∧True)∧((0:Int)≤z27∧z27≤z7)∧(z7 - z27).toNat<(z7 - x_1).toNat)))∧(z24.want.le z16=false→inR .i64 z27∧((z4.same z4∧z12.same z12∧z28.same z28∧z9.same z9∧(SV.sb z32).same z29∧z30.same z30∧True)∧z6.same z6∧z13.same z13∧z18.same z18∧True)∧((0:Int)≤z27∧z27≤z7)∧(z7 - z27).toNat<(z7 - x_1).toNat))∧(z25=false→inR .i64 z27∧((z4.same z4∧z12.same z12∧z28.same z28∧z9.same z9∧(SV.sb z32).same z29∧z30.same z30∧True)∧z6.same z6∧z13.same z13∧z18.same z18∧True)∧((0:Int)≤z27∧z27≤z7)∧(z7 - z27).toNat<(z7 - x_1).toNat))∧(decide (x_1≠x)=false→inR .i64 z27∧((z4.same z4∧z12.same z12∧z28.same z28∧z9.same z9∧(SV.sb z32).same z29∧z30.same z30∧True)∧z6.same z6∧z13.same z13∧z18.same z18∧True)∧((0:Int)≤z27∧z27≤z7)∧(z7 - z27).toNat<(z7 - x_1).toNat))∧(decide (x_1<z8)=false→(z32=true→z11.length=z11.length∧z19*8≤140737488355328∧z19≤1000000000000∧inR .i64 z20∧((z4.same z4∧(SV.ow 1 (z11++[x]).length 1).same z21∧z22.same z22∧True)∧z6.same z6∧(SObj.row z1 (z11++[x]) 3 true).same z23∧True)∧((0:Int)≤z20∧z20≤z7)∧(z7 - z20).toNat<(z7 - x).toNat)∧(z32=false→inR .i64 z20∧((z4.same z4∧z12.same z21∧z22.same z22∧True)∧z6.same z6∧z13.same z23∧True)∧((0:Int)≤z20∧z20≤z7)∧(z7 - z20).toNat<(z7 - x).toNat)))∧(decide (x<z8)=false→z11.length=z11.length∧(SV.tup [SV.row z1 z11,z5]).same z3))) (by kernel_rfl) ?_
 simp only[vcs]
 refine⟨fun h=>by rw[if_neg h],fun h=>?_⟩
 have hc:checkE p=0:=Classical.not_not.1 h
 have h160:=(good_of hc).2.1
 rw[if_pos hc]
 have hw:∀{a b:Nat},a=b→(SV.ow 1 a 1).same (SV.ow 1 b 1):=by rintro _ _ rfl;rfl
 have hrI:∀{x y:List Int},x=y→(SObj.row (.i .i64) x 3 true).same (SObj.row (.i .i64) y 3 true):=by rintro _ _ rfl;rfl
 have hoi:∀o:Int,nthD p.offers o.toNat SId.off.dflt=oI p o:=fun _=>rfl
 simp only[hoi]
 refine⟨⟨⟨hw rfl,hrI rfl⟩,by omega,by omega⟩,?_⟩
 rintro i ⟨i0,i1⟩
 have hdl:=@domL_len p i.toNat
 have hds:=@domL_succ p i i0
 refine⟨fun hi=>⟨i0,hi,by omega,⟨⟨rfl,rfl⟩,by omega,by omega⟩,?_⟩,fun hi=>?_⟩
 ·rintro k ⟨k0,k1⟩
  have hs:=@domK_succ p i k k0
  refine⟨fun hk=>?_,fun hk=>?_⟩
  ·refine⟨k0,hk,by omega,fun h1=>⟨fun h2=>⟨fun h3=>⟨fun h4=>?_,fun h4=>⟨fun h5=>⟨fun h6=>?_,fun h6=>?_⟩,fun h5=>?_⟩⟩,fun h3=>?_⟩,fun h2=>?_⟩,fun h1=>?_⟩
   all_goals
    refine⟨by omega,?_,by omega,by omega⟩
    rw[hs]
    unfold domB
    first|(simp_all;done)|(simp_all;intros;omega)
  ·rw[show k.toNat=p.offers.length by omega]
   refine⟨fun hd=>?_,fun hd=>?_⟩
   ·rw[if_pos hd] at hds
    rw[hds]
    exact⟨by omega,by omega,by omega,⟨hw rfl,hrI rfl⟩,by omega,by omega⟩
   ·rw[if_neg (by rw[hd];simp),List.append_nil] at hds
    rw[hds]
    exact⟨by omega,⟨hw rfl,hrI rfl⟩,by omega,by omega⟩
 ·rw[show i.toNat=p.offers.length by omega]
  exact⟨rfl,hc.symm⟩
def r380:SCtr:=⟨13,Prob×List Int,.cons codP (.one (codR (.i .i64))),fun a=>a.2.length≤1000000000000,fun a=> .tup [.agg (remQ a.1 a.2).ss,.row (.i .i64) (if remE a.1 a.2=0 then kepA a.1 a.2 else[]),.si .i64 (remE a.1 a.2)]⟩
def Λ380 (p:Prob) (l:List Int):Nat→LoopAnn
 |11=> .inv Int (fun i=>⟨[(1,.row (.i .i64) l),(2,.ptr 0 0 20),(4,.ptr 1 0 20),(10,.ptr 2 0 20),(11,.ow 4 (kepI p l i.toNat).length 1),(12,.si .i64 i)],st388 p (kepI p l i.toNat)⟩)
   (fun s=>iS s 12) (fun i=>0≤i∧i≤p.offers.length) (fun i=>(p.offers.length - i).toNat) fun i j=>match j with
   |15=> .inv Int (fun k=>⟨[(1,.row (.i .i64) l),(2,.ptr 0 0 20),(4,.ptr 1 0 20),(10,.ptr 2 0 20),(11,.ow 4 (kepI p l i.toNat).length 1),(12,.si .i64 i),(13,.sb (decide (i∈l.take k.toNat))),(14,.si .i64 k)],st388 p (kepI p l i.toNat)⟩)
     (fun s=>iS s 14) (fun k=>0≤k∧k≤l.length) (fun k=>(l.length - k).toNat) fun _ _=> .look
   |_=> .look
 |_=> .look
theorem h380:Holds Try.prog r380:=by
 refine con (L:=[r24,r109]) r380 F380 (fun a=>Λ380 a.1 a.2) (OwnOK.none _) (by simpa using⟨h24,h109⟩) (by kernel_rfl) (by kernel_rfl) (fun _=>rfl) ?_
 rintro⟨p,l⟩ (hl:l.length≤1000000000000)
 refine vcOf (let z0:=decide (checkE p≠(0:Int));let z1:=SV.il .i64 0;let z2:=SId.i .i64;let z3:=SV.row z2 [];let z4:=SV.agg [z1,z1,z1,z1,z1,z1,z1,z1,z1,z1,z1,z1,z1,z1,z1,z1,z1,z1,z3,z3];let z5:=(remQ p l).supply;let z6:=(remQ p l).opn;let z7:=(remQ p l).cls;let z8:=SV.tup [SV.agg [SV.si .i64 z5.a0,SV.si .i64 z5.a1,SV.si .i64 z5.a2,SV.si .i64 z5.a3,SV.si .i64 z5.a4,SV.si .i64 z5.a5,SV.si .i64 z6.a0,SV.si .i64 z6.a1,SV.si .i64 z6.a2,SV.si .i64 z6.a3,SV.si .i64 z6.a4,SV.si .i64 z6.a5,SV.si .i64 z7.a0,SV.si .i64 z7.a1,SV.si .i64 z7.a2,SV.si .i64 z7.a3,SV.si .i64 z7.a4,SV.si .i64 z7.a5,SV.row z2 (remQ p l).classes,SV.row SId.off (remQ p l).offers],SV.row z2 (if remE p l=(0:Int) then kepA p l else[]),SV.si .i64 (remE p l)];let z9:=SV.ptr 0 0 20;let z10:=SV.ptr 1 0 20;let z11:=SV.ptr 2 0 20;let z12:=(kepI p l 0).length;let z13:=SV.si .i64 p.supply.a0;let z14:=SV.si .i64 p.supply.a1;let z15:=SV.si .i64 p.supply.a2;let z16:=SV.si .i64 p.supply.a3;let z17:=SV.si .i64 p.supply.a4;let z18:=SV.si .i64 p.supply.a5;let z19:=SV.si .i64 p.opn.a0;let z20:=SV.si .i64 p.opn.a1;let z21:=SV.si .i64 p.opn.a2;let z22:=SV.si .i64 p.opn.a3;let z23:=SV.si .i64 p.opn.a4;let z24:=SV.si .i64 p.opn.a5;let z25:=SV.si .i64 p.cls.a0;let z26:=SV.si .i64 p.cls.a1;let z27:=SV.si .i64 p.cls.a2;let z28:=SV.si .i64 p.cls.a3;let z29:=SV.si .i64 p.cls.a4;let z30:=SV.si .i64 p.cls.a5;let z31:=SV.row z2 p.classes;let z32:=SObj.cells [z13,z14,z15,z16,z17,z18,z19,z20,z21,z22,z23,z24,z25,z26,z27,z28,z29,z30,z31,SV.row SId.off p.offers] 27 20 false;let z33:=SV.sc (Value.slice none 0 0);let z34:=SObj.cells [z1,z1,z1,z1,z1,z1,z1,z1,z1,z1,z1,z1,z1,z1,z1,z1,z1,z1,z33,z33] 27 20 false;let z35:=SObj.row SId.off [] 48 true;let z36:=(↑p.offers.length:Int);let z37:=(↑p.offers.length:Int);let z38:=(↑l.length:Int);True∧(z0=true→(SV.tup [z4,z3,SV.si .i64 (checkE p)]).same z8)∧(z0=false→(l.length≤9223372036854775807∧p.offers.length≤1000)∧((!pickOk p l)=true→(SV.tup [z4,z3,SV.il .i64 4]).same z8)∧((!pickOk p l)=false→((((SV.row z2 l).same (SV.row z2 l)∧z9.same z9∧z10.same z10∧z11.same z11∧(SV.ow 4 0 1).same (SV.ow 4 z12 1)∧z1.same (SV.si .i64 0)∧True)∧z32.same z32∧z34.same z34∧(SObj.cells [z13,z14,z15,z16,z17,z18,z19,z20,z21,z22,z23,z24,z25,z26,z27,z28,z29,z30,z31,SV.ow 3 0 8] 27 20 false).same (SObj.cells [z13,z14,z15,z16,z17,z18,z19,z20,z21,z22,z23,z24,z25,z26,z27,z28,z29,z30,z31,SV.ow 3 z12 8] 27 20 false)∧z35.same z35∧(SObj.row z2 [] 3 true).same (SObj.row z2 (kepI p l 0) 3 true)∧True)∧(0:Int)≤(0:Int)∧(0:Int)≤z36)∧∀(x:Int),let z39:=kepI p l x.toNat;let z40:=z39.length;let z41:=SV.ow 4 z40 1;let z42:=SObj.cells [z13,z14,z15,z16,z17,z18,z19,z20,z21,z22,z23,z24,z25,z26,z27,z28,z29,z30,z31,SV.ow 3 z40 8] 27 20 false;let z43:=List.map (oI p) z39;let z44:=SObj.row SId.off z43 48 true;let z45:=SObj.row z2 z39 3 true;let z46:=z43.length+1;let z47:=z39.length+1;let z48:=x+(1:Int);let z49:=kepI p l z48.toNat;let z50:=SV.ow 4 z49.length 1;let z51:=SV.si .i64 z48;let z52:=z43++[nthD p.offers x.toNat SId.off.dflt];let z53:=SObj.cells [z13,z14,z15,z16,z17,z18,z19,z20,z21,z22,z23,z24,z25,z26,z27,z28,z29,z30,z31,SV.ow 3 z49.length 8] 27 20 false;let z54:=SObj.row SId.off (List.map (oI p) z49) 48 true;let z55:=SObj.row z2 z49 3 true;(0:Int)≤x∧x≤z36→(decide (x<z37)=true→((((SV.row z2 l).same (SV.row z2 l)∧z9.same z9∧z10.same z10∧z11.same z11∧z41.same z41∧(SV.si .i64 x).same (SV.si .i64 x)∧(SV.bl false).same (SV.sb (decide (x∈[])))∧z1.same (SV.si .i64 0)∧True)∧z32.same z32∧z34.same z34∧z42.same z42∧z44.same z44∧z45.same z45∧True)∧(0:Int)≤(0:Int)∧(0:Int)≤z38)∧∀(x_1:Int),let z56:=decide (x_1<(↑l.length:Int));let z57:=decide (x∈List.take x_1.toNat l);let z58:=x_1+(1:Int);let z59:=SV.si .i64 x;let z60:=SV.sb (decide (x∈List.take z58.toNat l));let z61:=SV.si .i64 z58;(0:Int)≤x_1∧x_1≤z38→(z56=true→(z57=true→inR .i64 z58∧(((SV.row z2 l).same (SV.row z2 l)∧z9.same z9∧z10.same z10∧z11.same z11∧z41.same z41∧z59.same z59∧(SV.bl true).same z60∧z61.same z61∧True)∧z32.same z32∧z34.same z34∧z42.same z42∧z44.same z44∧z45.same z45∧True)∧((0:Int)≤z58∧z58≤z38)∧(z38 - z58).toNat<(z38 - x_1).toNat)∧(z57=false→(0:Int)≤x_1∧x_1<(↑l.length:Int)∧x_1.toNat<l.length∧inR .i64 z58∧(((SV.row z2 l).same (SV.row z2 l)∧z9.same z9∧z10.same z10∧z11.same z11∧z41.same z41∧z59.same z59∧(SV.sb (decide (nthD l x_1.toNat (0:Int)=x))).same z60∧z61.same z61∧True)∧z32.same z32∧z34.same z34∧z42.same z42∧z44.same z44∧z45.same z45∧True)∧((0:Int)≤z58∧z58≤z38)∧(z38 - z58).toNat<(z38 - x_1).toNat))∧(z56=false→((!z57)=true→(0:Int)≤x∧x<z37∧x.toNat<p.offers.length∧1=1∧z40=z43.length∧z46*64≤140737488355328∧z46≤1000000000000∧z40=z39.length∧z47*8≤140737488355328∧z47≤1000000000000∧inR .i64 z48∧(((SV.row z2 l).same (SV.row z2 l)∧z9.same z9∧z10.same z10∧z11.same z11∧(SV.ow 4 (z39++[x]).length 1).same z50∧z51.same z51∧True)∧z32.same z32∧z34.same z34∧(SObj.cells [z13,z14,z15,z16,z17,z18,z19,z20,z21,z22,z23,z24,z25,z26,z27,z28,z29,z30,z31,SV.ow 3 z52.length 8] 27 20 false).same z53∧(SObj.row SId.off z52 48 true).same z54∧(SObj.row z2 (z39++[x]) 3 true).same z55∧True)∧((0:Int)≤z48∧z48≤z36)∧(z36 - z48).toNat<(z36 - x).toNat)∧((!z57)=false→inR .i64 z48∧(((SV.row z2 l).same (SV.row z2 l)∧z9.same z9∧z10.same z10∧z11.same z11∧z41.same z50∧z51.same z51∧True)∧z32.same z32∧z34.same z34∧z42.same z53∧z44.same z54∧z45.same z55∧True)∧((0:Int)≤z48∧z48≤z36)∧(z36 - z48).toNat<(z36 - x).toNat)))∧(decide (x<z37)=false→z40=z43.length∧z40=z39.length∧(SV.tup [SV.agg [z13,z14,z15,z16,z17,z18,z19,z20,z21,z22,z23,z24,z25,z26,z27,z28,z29,z30,z31,SV.row SId.off z43],SV.row z2 z39,z1]).same z8)))) (by kernel_rfl) ?_
 simp only[vcs]
 have hw4:∀{a b:Nat},a=b→(SV.ow 4 a 1).same (SV.ow 4 b 1):=by rintro _ _ rfl;rfl
 have hrI:∀{x y:List Int},x=y→(SObj.row (.i .i64) x 3 true).same (SObj.row (.i .i64) y 3 true):=by rintro _ _ rfl;rfl
 have hrO:∀{x y:List Off},x=y→(SObj.row .off x 48 true).same (SObj.row .off y 48 true):=by rintro _ _ rfl;rfl
 have hcell:∀{a b:Nat},a=b→(SObj.cells [.si .i64 p.supply.a0,.si .i64 p.supply.a1,.si .i64 p.supply.a2,.si .i64 p.supply.a3,.si .i64 p.supply.a4,.si .i64 p.supply.a5,
  .si .i64 p.opn.a0,.si .i64 p.opn.a1,.si .i64 p.opn.a2,.si .i64 p.opn.a3,.si .i64 p.opn.a4,.si .i64 p.opn.a5,
  .si .i64 p.cls.a0,.si .i64 p.cls.a1,.si .i64 p.cls.a2,.si .i64 p.cls.a3,.si .i64 p.cls.a4,.si .i64 p.cls.a5,
  .row (.i .i64) p.classes,.ow 3 a 8] 27 20 false).same (SObj.cells [.si .i64 p.supply.a0,.si .i64 p.supply.a1,.si .i64 p.supply.a2,.si .i64 p.supply.a3,.si .i64 p.supply.a4,.si .i64 p.supply.a5,
  .si .i64 p.opn.a0,.si .i64 p.opn.a1,.si .i64 p.opn.a2,.si .i64 p.opn.a3,.si .i64 p.opn.a4,.si .i64 p.opn.a5,
  .si .i64 p.cls.a0,.si .i64 p.cls.a1,.si .i64 p.cls.a2,.si .i64 p.cls.a3,.si .i64 p.cls.a4,.si .i64 p.cls.a5,
  .row (.i .i64) p.classes,.ow 3 b 8] 27 20 false):=by rintro _ _ rfl;rfl
 have hz:remE p l≠0→remQ p l=zeroP:=fun h=>by unfold remQ;rw[if_neg h]
 refine⟨fun h=>?_,fun h=>?_⟩
 ·have e:remE p l=checkE p:=by unfold remE;rw[if_pos h]
  rw[hz (by rw[e];exact h),e,if_neg h]
  exact⟨rfl,rfl,rfl⟩
 have hc:checkE p=0:=Classical.not_not.1 h
 have hg:=good_of hc
 have h160:=hg.2.1
 have e:remE p l=if pickOk p l=true then 0 else 4:=by unfold remE;rw[if_neg h]
 refine⟨⟨by omega,by omega⟩,fun hb=>?_,fun hb=>?_⟩
 ·rw[hb] at e
  rw[hz (by rw[e];decide),e]
  exact⟨rfl,rfl,rfl⟩
 rw[hb] at e
 have e0:remE p l=0:=e
 have eq:remQ p l=remP p l:=by unfold remQ;rw[if_pos e0]
 rw[eq,e0,if_pos rfl]
 refine⟨⟨⟨hw4 rfl,hcell rfl,hrI rfl⟩,by omega,by omega⟩,?_⟩
 rintro i ⟨i0,i1⟩
 have hk:=@kepI_len p l i.toNat
 have hsu:=@kepI_succ p l i i0
 have hml:(List.map (oI p) (kepI p l i.toNat)).length=(kepI p l i.toNat).length:=List.length_map _
 refine⟨fun hi=>⟨⟨rfl,by omega,by omega⟩,?_⟩,fun hi=>?_⟩
 ·rintro k ⟨k0,k1⟩
  refine⟨fun hk2=>⟨fun hm=>?_,fun hm=>?_⟩,fun hk2=>?_⟩
  ·refine⟨by omega,(decide_eq_true ?_).symm,by omega,by omega⟩
   rw[take_nth (d:=0) k0 hk2]
   exact List.mem_append_left _ hm
  ·refine⟨k0,hk2,by omega,by omega,?_,by omega,by omega⟩
   rw[take_nth (d:=0) k0 hk2,decide_eq_decide,List.mem_append,List.mem_singleton]
   exact⟨fun h=> .inr h.symm,fun h=>(h.resolve_left hm).symm⟩
  ·rw[List.take_of_length_le (show l.length≤k.toNat by omega)]
   refine⟨fun hm=>?_,fun hm=>?_⟩
   ·rw[if_neg hm] at hsu
    have e:List.map (oI p) (kepI p l i.toNat)++[nthD p.offers i.toNat SId.off.dflt]=List.map (oI p) (kepI p l (i+1).toNat):=by rw[hsu,List.map_append];rfl
    rw[e,←hsu,hml,List.length_map]
    exact⟨i0,hi,by omega,rfl,by omega,by omega,by omega,by omega,by omega,⟨hw4 rfl,hcell rfl,hrO rfl,hrI rfl⟩,by omega,by omega⟩
   ·rw[if_pos hm,List.append_nil] at hsu
    rw[hsu]
    exact⟨by omega,⟨hw4 rfl,hcell rfl,hrO rfl,hrI rfl⟩,by omega,by omega⟩
 ·rw[show i.toNat=p.offers.length by omega] at hml ⊢
  exact⟨hml.symm,rfl,rfl,rfl⟩
def r381:SCtr:=⟨14,Prob×Prob,.cons codP (.one codP),fun a=>(a.1.classes.length≤1000000∧a.1.offers.length≤1000000)∧a.1=a.2,fun _=> .sb true⟩
def Λ381 (p:Prob):Nat→LoopAnn
 |4=> .inv Int (fun i=>⟨[(2,.ptr 0 0 20),(3,.ptr 1 0 20),(5,.si .i64 i)],[.cells p.ss 27 20 false,.cells p.ss 27 20 false]⟩)
   (fun s=>iS s 5) (fun i=>0≤i∧i≤p.offers.length) (fun i=>(p.offers.length - i).toNat) fun _ _=> .look
 |_=> .look
theorem h381:Holds Try.prog r381:=by
 refine con (L:=[r32]) r381 F381 (fun a=>Λ381 a.1) (OwnOK.none _) (by simpa using h32) (by kernel_rfl) (by kernel_rfl) (fun _=>rfl) ?_
 rintro⟨p,p'⟩ ⟨⟨h1,h2⟩,h3⟩
 simp only at h1 h2 h3
 subst h3
 refine vcOf (let z0:=!(decide (p.supply.a0=p.supply.a0)&&(decide (p.supply.a1=p.supply.a1)&&(decide (p.supply.a2=p.supply.a2)&&(decide (p.supply.a3=p.supply.a3)&&(decide (p.supply.a4=p.supply.a4)&&(decide (p.supply.a5=p.supply.a5)&&true))))));let z1:=!(decide (p.opn.a0=p.opn.a0)&&(decide (p.opn.a1=p.opn.a1)&&(decide (p.opn.a2=p.opn.a2)&&(decide (p.opn.a3=p.opn.a3)&&(decide (p.opn.a4=p.opn.a4)&&(decide (p.opn.a5=p.opn.a5)&&true))))));let z2:=!(decide (p.cls.a0=p.cls.a0)&&(decide (p.cls.a1=p.cls.a1)&&(decide (p.cls.a2=p.cls.a2)&&(decide (p.cls.a3=p.cls.a3)&&(decide (p.cls.a4=p.cls.a4)&&(decide (p.cls.a5=p.cls.a5)&&true))))));let z3:=decide (cmpL p.classes p.classes≠(0:Int));let z4:=(↑p.offers.length:Int);let z5:=SV.ptr 0 0 20;let z6:=SV.ptr 1 0 20;let z7:=SObj.cells (Prob.ss p) 27 20 false;let z8:=(↑p.offers.length:Int);(z0=true→(SV.bl false).same (SV.sb true))∧(z0=false→(z1=true→(SV.bl false).same (SV.sb true))∧(z1=false→(z2=true→(SV.bl false).same (SV.sb true))∧(z2=false→(p.classes.length≤1000000000000∧p.classes.length≤1000000000000)∧(z3=true→(SV.bl false).same (SV.sb true))∧(z3=false→(decide (z4≠z4)=true→(SV.bl false).same (SV.sb true))∧(decide (z4≠z4)=false→(((z5.same z5∧z6.same z6∧(SV.il .i64 0).same (SV.si .i64 0)∧True)∧z7.same z7∧z7.same z7∧True)∧(0:Int)≤(0:Int)∧(0:Int)≤z8)∧∀(x:Int),let z9:=nthD p.offers x.toNat SId.off.dflt;let z10:=z9.want;let z11:=!(decide (z9.bidder=z9.bidder)&&(decide (z10.a0=z10.a0)&&(decide (z10.a1=z10.a1)&&(decide (z10.a2=z10.a2)&&(decide (z10.a3=z10.a3)&&(decide (z10.a4=z10.a4)&&(decide (z10.a5=z10.a5)&&(decide (z9.value=z9.value)&&true))))))));let z12:=x+(1:Int);let z13:=SV.si .i64 z12;(0:Int)≤x∧x≤z8→(decide (x<z4)=true→(0:Int)≤x∧x<z4∧x.toNat<p.offers.length∧(0:Int)≤x∧x<z4∧x.toNat<p.offers.length∧(z11=true→(SV.bl false).same (SV.sb true))∧(z11=false→inR .i64 z12∧((z5.same z5∧z6.same z6∧z13.same z13∧True)∧z7.same z7∧z7.same z7∧True)∧((0:Int)≤z12∧z12≤z8)∧(z8 - z12).toNat<(z8 - x).toNat))∧(decide (x<z4)=false→(SV.bl true).same (SV.sb true)))))))) (by kernel_rfl) ?_
 simp only[vcs,cmp_same]
 refine⟨fun h=>(by simp at h),fun _=>⟨fun h=>(by simp at h),fun _=>⟨fun h=>(by simp at h),fun _=>⟨⟨by omega,by omega⟩,fun h=>absurd rfl h,fun _=>⟨fun h=>absurd rfl h,fun _=>⟨⟨by omega,by omega⟩,?_⟩⟩⟩⟩⟩⟩
 rintro i ⟨i0,i1⟩
 exact⟨fun hi=>⟨i0,hi,by omega,i0,hi,by omega,fun h=>(by simp at h),fun _=>⟨by omega,by omega,by omega⟩⟩,fun _=>trivial⟩
theorem mis_eval {p:Prob} {i d:Int} {q:Rat} (N:Nat) (h:endsT (nF (sngF p i d)) (mF p) N (relT p (sngF p i d))=true):misB p i d q=(decide (fixE p (sngF p i d)=0)&&(!okX p (sngF p i d)||decide (((accS p (sngF p i d):Int):Rat)+(runT (nF (sngF p i d)) (mF p) N (relT p (sngF p i d))).value<q))):=by
 unfold misB bndQ optT
 rw[last_eq h]
theorem fix_three:fixW three 12=[-1,1,1]:=by
 have hc:checkE three=0:=by kernel_rfl
 have m0:misB three 0 1 ((12:Int):Rat)=true:=by rw[mis_eval 6 (by kernel_rfl)];kernel_rfl
 have m1:misB three 1 1 ((12:Int):Rat)=false:=by rw[mis_eval 6 (by kernel_rfl)];kernel_rfl
 have m1':misB three 1 (-1) ((12:Int):Rat)=true:=by rw[mis_eval 6 (by kernel_rfl)];kernel_rfl
 have m2:misB three 2 1 ((12:Int):Rat)=false:=by rw[mis_eval 6 (by kernel_rfl)];kernel_rfl
 have m2':misB three 2 (-1) ((12:Int):Rat)=true:=by rw[mis_eval 6 (by kernel_rfl)];kernel_rfl
 unfold fixW
 rw[if_pos hc]
 show[fixV three ((12:Int):Rat) 0,fixV three ((12:Int):Rat) 1,fixV three ((12:Int):Rat) 2]=_
 unfold fixV
 rw[m0,m1,m1',m2,m2']
 rfl
def r385:SCtr:=⟨22,Unit,.nil,fun _=>True,fun _=>codP.put three⟩
theorem h385:Holds Try.prog r385:=by
 refine con (L:=[]) r385 F385 (fun _ _=> .look) (OwnOK.none _) (by simp) (by kernel_rfl) (by kernel_rfl) (fun _=>rfl) ?_
 intro _ _
 refine vcOf (let z0:=SV.il .i64 1;let z1:=SV.il .i64 0;let z2:=three.supply;(SV.agg [z0,z0,z1,z1,z1,z1,z0,z0,z1,z1,z1,z1,z1,z1,z1,z1,z1,z1,SV.row (SId.i .i64) [(0:Int),(0:Int),(0:Int)],SV.row SId.off [Off.mk (0:Int) (Bun.mk (1:Int) (1:Int) (0:Int) (0:Int) (0:Int) (0:Int)) (10:Int),Off.mk (1:Int) (Bun.mk (1:Int) (0:Int) (0:Int) (0:Int) (0:Int) (0:Int)) (6:Int),Off.mk (2:Int) (Bun.mk (0:Int) (1:Int) (0:Int) (0:Int) (0:Int) (0:Int)) (6:Int)]]).same (SV.agg [SV.si .i64 z2.a0,SV.si .i64 z2.a1,SV.si .i64 z2.a2,SV.si .i64 z2.a3,SV.si .i64 z2.a4,SV.si .i64 z2.a5,SV.si .i64 three.opn.a0,SV.si .i64 three.opn.a1,SV.si .i64 three.opn.a2,SV.si .i64 three.opn.a3,SV.si .i64 three.opn.a4,SV.si .i64 three.opn.a5,SV.si .i64 three.cls.a0,SV.si .i64 three.cls.a1,SV.si .i64 three.cls.a2,SV.si .i64 three.cls.a3,SV.si .i64 three.cls.a4,SV.si .i64 three.cls.a5,SV.row (SId.i .i64) three.classes,SV.row SId.off three.offers])) (by kernel_rfl) ?_
 conv=>zeta
 rfl
def r376:SCtr:=⟨8,Unit,.nil,fun _=>True,fun _=> .sb true⟩
theorem h376:Holds Try.prog r376:=by
 refine con (L:=[r385,r383,r384,r377,r379,r32]) r376 F376 (fun _ _=> .look) (OwnOK.none _) (by simpa using⟨h385,h383,h384,h377,h379,h32⟩) (by kernel_rfl) (by kernel_rfl) (fun _=>rfl) ?_
 intro _ _
 refine vcOf (let z0:=fixW three (12:Int);let z1:=decide (nthD z0 0 (0:Int)=(-1:Int));let z2:=decide (nthD z0 1 (0:Int)=(1:Int));let z3:=decide (nthD z0 2 (0:Int)=(1:Int));let z4:=decide ((↑(redP three (12:Int)).offers.length:Int)=(2:Int));let z5:=redS three (12:Int);let z6:=decide (cmpL z5 [(1:Int),(2:Int)]=(0:Int));True∧((-9223372036854775808:Int)≤(12:Int)∧(12:Int)≤(9223372036854775807:Int))∧True∧((-9223372036854775808:Int)≤(12:Int)∧(12:Int)≤(9223372036854775807:Int))∧True∧True∧True∧1≤1000000000000∧(true=true→(true=true→(0:Int)≤(0:Int)∧(0:Int)<(3:Int)∧0<z0.length∧(z1=true→(0:Int)≤(1:Int)∧(1:Int)<(3:Int)∧1<z0.length∧(z2=true→(0:Int)≤(2:Int)∧(2:Int)<(3:Int)∧2<z0.length∧(z3=true→(true=true→(z4=true→(z5.length≤1000000000000∧2≤1000000000000)∧(z6=true→(true=true→((domS (Prob.mk three.supply three.opn three.cls three.classes [Off.mk (0:Int) (Bun.mk (1:Int) (0:Int) (0:Int) (0:Int) (0:Int) (0:Int)) (5:Int),Off.mk (0:Int) (Bun.mk (1:Int) (1:Int) (0:Int) (0:Int) (0:Int) (0:Int)) (4:Int)])).length≤1000000000000∧1≤1000000000000)∧(true=true→(true=true→((kepA three [(1:Int)]).length≤1000000000000∧2≤1000000000000)∧(SV.sb true).same (SV.sb true))∧(true=false→(SV.bl false).same (SV.sb true)))∧(true=false→(SV.bl false).same (SV.sb true)))∧(true=false→(SV.bl false).same (SV.sb true)))∧(z6=false→(SV.bl false).same (SV.sb true)))∧(z4=false→(SV.bl false).same (SV.sb true)))∧(true=false→(SV.bl false).same (SV.sb true)))∧(z3=false→(SV.bl false).same (SV.sb true)))∧(z2=false→(SV.bl false).same (SV.sb true)))∧(z1=false→(SV.bl false).same (SV.sb true)))∧(true=false→(SV.bl false).same (SV.sb true)))∧(true=false→(SV.bl false).same (SV.sb true))) (by kernel_rfl) ?_
 simp only[vcs]
 have hc:checkE three=0:=by kernel_rfl
 have q1:redQ three=three:=by kernel_rfl
 have u1:uslI three 12=[0]:=by unfold uslI;rw[q1,fix_three];kernel_rfl
 have e1:redP three 12=remP three [0]:=by unfold redP;rw[if_pos hc,q1,u1]
 have e2:redS three 12=[1,2]:=by unfold redS;rw[if_pos hc,q1,u1];kernel_rfl
 have e3:(remP three [0]).offers.length=2:=by kernel_rfl
 have d1:checkE ⟨three.supply,three.opn,three.cls,three.classes,[⟨0,⟨1,0,0,0,0,0⟩,5⟩,⟨0,⟨1,1,0,0,0,0⟩,4⟩]⟩=0:=by kernel_rfl
 have d2:domS ⟨three.supply,three.opn,three.cls,three.classes,[⟨0,⟨1,0,0,0,0,0⟩,5⟩,⟨0,⟨1,1,0,0,0,0⟩,4⟩]⟩=[1]:=by kernel_rfl
 have r1:remE three [1]=0:=by kernel_rfl
 have r2:kepA three [1]=[0,2]:=by kernel_rfl
 have c1:cmpL [1,2] [1,2]=0:=by decide
 have c2:cmpL [1] [1]=0:=by decide
 have c3:cmpL [0,2] [0,2]=0:=by decide
 have n0:nthD [(-1:Int),1,1] 0 0= -1:=rfl
 have n1:nthD [(-1:Int),1,1] 1 0=1:=rfl
 have n2:nthD [(-1:Int),1,1] 2 0=1:=rfl
 simp only[fix_three,e1,e2,e3,hc,d1,d2,r1,r2,c1,c2,c3,n0,n1,n2,if_true]
 simp
theorem pick_rise {p:Prob} {l:List Int} (h:ascOk p.offers.length l):pickOk p l=true:=by
 unfold pickOk
 rw[pick_of h]
 rfl
theorem domS_mem {p:Prob}:ascOk p.offers.length (domS p):=⟨domS_lt,fun x hx=>uptoI_mem.1 (List.mem_filter.1 hx).1⟩
theorem remE_asc {p:Prob} {l:List Int} (hc:checkE p=0) (h:ascOk p.offers.length l):remE p l=0:=by
 unfold remE
 rw[if_neg (by simp[hc]),if_pos (pick_rise h)]
theorem remQ_asc {p:Prob} {l:List Int} (hc:checkE p=0) (h:ascOk p.offers.length l):remQ p l=remP p l:=by
 unfold remQ
 rw[if_pos (remE_asc hc h)]
noncomputable def wntI (p:Prob) (m:Int) (n:Nat):List Int:=((uptoI n).filter fun k=>decide (nthD (fixW (redQ p) m) k.toNat 0≠ -1)).map fun k=>nthD (kepA p (domS p)) k.toNat 0
def gonI (w:List Int) (n:Nat):List Int:=(uptoI n).filter fun k=>decide (k∉w)
section
variable {p:Prob} {m:Int}
theorem redQ_len:(redQ p).offers.length=(kepA p (domS p)).length:=List.length_map _
theorem wnt_succ {i:Int} (h:0≤i):wntI p m (i+1).toNat=wntI p m i.toNat++if nthD (fixW (redQ p) m) i.toNat 0≠ -1 then[nthD (kepA p (domS p)) i.toNat 0] else[]:=by
 unfold wntI
 rw[show(i+1).toNat=i.toNat+1 by omega,uptoI_succ,List.filter_append,List.map_append,show((i.toNat:Nat):Int)=i by omega]
 congr 1
 simp only[List.filter_cons,List.filter_nil]
 by_cases h:nthD (fixW (redQ p) m) i.toNat 0≠ -1
 ·rw[if_pos (decide_eq_true h),if_pos h];rfl
 ·rw[if_neg (by simpa using h),if_neg h];rfl
theorem gon_succ {w:List Int} {i:Int} (h:0≤i):gonI w (i+1).toNat=gonI w i.toNat++if i∈w then[] else[i]:=by
 unfold gonI
 rw[show(i+1).toNat=i.toNat+1 by omega,uptoI_succ,List.filter_append,show((i.toNat:Nat):Int)=i by omega]
 congr 1
 simp only[List.filter_cons,List.filter_nil]
 by_cases hi:i∈w<;>simp[hi]
theorem wnt_len {n:Nat}:(wntI p m n).length≤n:=by
 unfold wntI
 rw[List.length_map]
 have:=List.length_filter_le (fun k=>decide (nthD (fixW (redQ p) m) k.toNat 0≠ -1)) (uptoI n)
 rw[uptoI_len] at this
 exact this
theorem gon_len {w:List Int} {n:Nat}:(gonI w n).length≤n:=by
 have:=List.length_filter_le (fun k=>decide (k∉w)) (uptoI n)
 rw[uptoI_len] at this
 exact this
theorem gon_asc {w:List Int} {n:Nat}:ascOk n (gonI w n):=⟨uptoI_lt.sublist List.filter_sublist,fun x hx=>uptoI_mem.1 (List.mem_filter.1 hx).1⟩
theorem wnt_all (hc:checkE p=0):wntI p m (redQ p).offers.length=redS p m:=by
 have hq:checkE (redQ p)=0:=rem_check hc
 unfold redS wntI
 rw[if_pos hc]
 congr 1
 show _=kepI (redQ p) (uslI p m) (redQ p).offers.length
 unfold kepI
 refine List.filter_congr fun k hk=>?_
 have h1:=uptoI_mem.1 hk
 rw[decide_eq_decide]
 show _↔¬k∈dcI (fixW (redQ p) m) (-1)
 rw[dcI_mem,fixW_len hq]
 constructor
 ·intro h h2
  exact h h2.2
 ·intro h h2
  exact h ⟨h1,h2⟩
theorem redS_asc (hc:checkE p=0):ascOk p.offers.length (redS p m):=by
 unfold redS
 rw[if_pos hc]
 have hin:∀k∈kepA (redQ p) (uslI p m),0≤k∧k<(kepA p (domS p)).length:=fun k hk=>by
  have:=(kepA_mem.1 hk).1
  rw[redQ_len] at this
  exact this
 refine⟨List.pairwise_map.2 (kepA_lt.imp_of_mem fun {a b} ha hb hab=>?_),fun x hx=>?_⟩
 ·have h1:=hin a ha
  have h2:=hin b hb
  rw[nthD_eq (by omega),nthD_eq (by omega)]
  exact List.pairwise_iff_getElem.1 (kepA_lt (p:=p) (l:=domS p)) a.toNat b.toNat (by omega) (by omega) (by omega)
 ·obtain⟨k,hk,rfl⟩:=List.mem_map.1 hx
  have h1:=hin k hk
  exact(kepA_mem.1 (nthD_mem (d:=0) (show k.toNat<(kepA p (domS p)).length by omega))).1
theorem left_eq (hc:checkE p=0):remP p (gonI (redS p m) p.offers.length)=redP p m:=by
 have ha:=redS_asc (m:=m) hc
 have e:kepA p (gonI (redS p m) p.offers.length)=redS p m:=by
  refine asc_ext kepA_lt ha.1 fun x=>?_
  rw[kepA_mem]
  unfold gonI
  rw[List.mem_filter,uptoI_mem,decide_eq_true_eq]
  constructor
  ·rintro⟨h1,h2⟩
   exact Classical.byContradiction fun h3=>h2 ⟨h1,h3⟩
  ·intro h
   exact⟨ha.2 x h,fun h2=>h2.2 h⟩
 unfold redP
 rw[if_pos hc]
 show({p with offers:=(kepA p (gonI (redS p m) p.offers.length)).map (oI p)}:Prob)={p with offers:=(kepA (redQ p) (uslI p m)).map (oI (redQ p))}
 rw[e]
 congr 1
 unfold redS
 rw[if_pos hc,List.map_map]
 refine List.map_congr_left fun k hk=>?_
 have h1:=(kepA_mem.1 hk).1
 rw[redQ_len] at h1
 show oI p (nthD (kepA p (domS p)) k.toNat 0)=nthD ((kepA p (domS p)).map (oI p)) k.toNat SId.off.dflt
 rw[nth_mapL (e:=0) (by omega)]
end
noncomputable def r374:SCtr:=⟨6,Prob×Int,.cons codP (.one (codI .i64)),fun a=> -9223372036854775808≤a.2∧a.2≤9223372036854775807,fun _=> .sb true⟩
noncomputable def st374 (p:Prob) (m:Int) (g w:List Int):SStore:=[.cells p.ss 27 20 false,.cells (redP p m).ss 27 20 false,.cells (redQ p).ss 27 20 false,.row (.i .i64) g 3 true,.row (.i .i64) w 3 true]
noncomputable def Λ374 (p:Prob) (m:Int):Nat→LoopAnn
 |14=> .inv Int (fun i=>⟨[(2,.ptr 0 0 20),(5,.ptr 1 0 20),(6,.row (.i .i64) (redS p m)),(12,.row (.i .i64) (kepA p (domS p))),(14,.row (.i .i64) (fixW (redQ p) m)),(16,.ow 4 (wntI p m i.toNat).length 1),(17,.ow 3 0 1),(18,.si .i64 i)],st374 p m [] (wntI p m i.toNat)⟩)
   (fun s=>iS s 18) (fun i=>0≤i∧i≤(fixW (redQ p) m).length) (fun i=>((fixW (redQ p) m).length - i).toNat) fun _ _=> .look
 |19=> .inv Int (fun i=>⟨[(2,.ptr 0 0 20),(5,.ptr 1 0 20),(6,.row (.i .i64) (redS p m)),(16,.ow 4 (redS p m).length 1),(17,.ow 3 (gonI (redS p m) i.toNat).length 1),(19,.si .i64 i)],st374 p m (gonI (redS p m) i.toNat) (redS p m)⟩)
   (fun s=>iS s 19) (fun i=>0≤i∧i≤p.offers.length) (fun i=>(p.offers.length - i).toNat) fun _ _=> .look
 |_=> .look
theorem h374:Holds Try.prog r374:=by
 refine con (L:=[r376,r384,r24,r378,r380,r383,r78,r32,r381]) r374 F374 (fun a=>Λ374 a.1 a.2) (OwnOK.none _) (by simpa using⟨h376,h384,h24,h378,h380,h383,h78,h32,h381⟩) (by kernel_rfl) (by kernel_rfl) (fun _=>rfl) ?_
 rintro⟨p,m⟩ ⟨m0,m1⟩
 simp only at m0 m1
 refine vcOf (let z0:=decide ((8:Int)<(↑p.classes.length:Int));let z1:=(↑p.offers.length:Int);let z2:=decide ((12:Int)<z1);let z3:=decide (checkE p≠(0:Int));let z4:=decide (checkE p=checkE p);let z5:=decide ((↑(redS p m).length:Int)=(0:Int));let z6:=(redP p m).offers;let z7:=decide ((↑z6.length:Int)=(0:Int));let z8:=if checkE p=(0:Int) then domS p else[];let z9:=remQ p z8;let z10:=decide (checkE z9≠(0:Int));let z11:=decide ((↑(fixW z9 m).length:Int)≠(↑z9.offers.length:Int));let z12:=SV.ptr 0 0 20;let z13:=SV.ptr 1 0 20;let z14:=SId.i .i64;let z15:=SV.row z14 (redS p m);let z16:=kepA p (domS p);let z17:=SV.row z14 z16;let z18:=fixW (redQ p) m;let z19:=SV.row z14 z18;let z20:=SV.ow 3 0 1;let z21:=SObj.cells [SV.si .i64 p.supply.a0,SV.si .i64 p.supply.a1,SV.si .i64 p.supply.a2,SV.si .i64 p.supply.a3,SV.si .i64 p.supply.a4,SV.si .i64 p.supply.a5,SV.si .i64 p.opn.a0,SV.si .i64 p.opn.a1,SV.si .i64 p.opn.a2,SV.si .i64 p.opn.a3,SV.si .i64 p.opn.a4,SV.si .i64 p.opn.a5,SV.si .i64 p.cls.a0,SV.si .i64 p.cls.a1,SV.si .i64 p.cls.a2,SV.si .i64 p.cls.a3,SV.si .i64 p.cls.a4,SV.si .i64 p.cls.a5,SV.row z14 p.classes,SV.row SId.off p.offers] 27 20 false;let z22:=(redP p m).supply;let z23:=(redP p m).opn;let z24:=(redP p m).cls;let z25:=SObj.cells [SV.si .i64 z22.a0,SV.si .i64 z22.a1,SV.si .i64 z22.a2,SV.si .i64 z22.a3,SV.si .i64 z22.a4,SV.si .i64 z22.a5,SV.si .i64 z23.a0,SV.si .i64 z23.a1,SV.si .i64 z23.a2,SV.si .i64 z23.a3,SV.si .i64 z23.a4,SV.si .i64 z23.a5,SV.si .i64 z24.a0,SV.si .i64 z24.a1,SV.si .i64 z24.a2,SV.si .i64 z24.a3,SV.si .i64 z24.a4,SV.si .i64 z24.a5,SV.row z14 (redP p m).classes,SV.row SId.off z6] 27 20 false;let z26:=z9.supply;let z27:=(redQ p).supply;let z28:=(redQ p).opn;let z29:=(redQ p).cls;let z30:=SObj.cells [SV.si .i64 z27.a0,SV.si .i64 z27.a1,SV.si .i64 z27.a2,SV.si .i64 z27.a3,SV.si .i64 z27.a4,SV.si .i64 z27.a5,SV.si .i64 z28.a0,SV.si .i64 z28.a1,SV.si .i64 z28.a2,SV.si .i64 z28.a3,SV.si .i64 z28.a4,SV.si .i64 z28.a5,SV.si .i64 z29.a0,SV.si .i64 z29.a1,SV.si .i64 z29.a2,SV.si .i64 z29.a3,SV.si .i64 z29.a4,SV.si .i64 z29.a5,SV.row z14 (redQ p).classes,SV.row SId.off (redQ p).offers] 27 20 false;let z31:=SObj.row z14 [] 3 true;let z32:=(↑z18.length:Int);let z33:=(redS p m).length;let z34:=SV.ow 4 z33 1;let z35:=gonI (redS p m) 0;let z36:=SObj.row z14 (redS p m) 3 true;let z37:=(↑p.offers.length:Int);let z38:=decide (cmpL (redS p m) (redS p m)=(0:Int));(z0=true→True∧(SV.sb true).same (SV.sb true))∧(z0=false→(z2=true→True∧(SV.sb true).same (SV.sb true))∧(z2=false→((-9223372036854775808:Int)≤m∧m≤(9223372036854775807:Int))∧True∧(z3=true→(z4=true→(z5=true→(z7=true→True∧(SV.sb true).same (SV.sb true))∧(z7=false→(SV.bl false).same (SV.sb true)))∧(z5=false→(SV.bl false).same (SV.sb true)))∧(z4=false→(SV.bl false).same (SV.sb true)))∧(z3=false→True∧z8.length≤1000000000000∧((-9223372036854775808:Int)≤m∧m≤(9223372036854775807:Int))∧(z3=true→(SV.bl false).same (SV.sb true))∧(z3=false→(z10=true→(SV.bl false).same (SV.sb true))∧(z10=false→(z11=true→(SV.bl false).same (SV.sb true))∧(z11=false→(((z12.same z12∧z13.same z13∧z15.same z15∧(SV.row z14 (if remE p z8=(0:Int) then kepA p z8 else[])).same z17∧(SV.row z14 (fixW z9 m)).same z19∧(SV.ow 4 0 1).same (SV.ow 4 (wntI p m 0).length 1)∧z20.same z20∧(SV.il .i64 0).same (SV.si .i64 0)∧True)∧z21.same z21∧z25.same z25∧(SObj.cells [SV.si .i64 z26.a0,SV.si .i64 z26.a1,SV.si .i64 z26.a2,SV.si .i64 z26.a3,SV.si .i64 z26.a4,SV.si .i64 z26.a5,SV.si .i64 z9.opn.a0,SV.si .i64 z9.opn.a1,SV.si .i64 z9.opn.a2,SV.si .i64 z9.opn.a3,SV.si .i64 z9.opn.a4,SV.si .i64 z9.opn.a5,SV.si .i64 z9.cls.a0,SV.si .i64 z9.cls.a1,SV.si .i64 z9.cls.a2,SV.si .i64 z9.cls.a3,SV.si .i64 z9.cls.a4,SV.si .i64 z9.cls.a5,SV.row z14 z9.classes,SV.row SId.off z9.offers] 27 20 false).same z30∧z31.same z31∧z31.same (SObj.row z14 (wntI p m 0) 3 true)∧True)∧(0:Int)≤(0:Int)∧(0:Int)≤z32)∧∀(x:Int),let z39:=decide (x<(↑z18.length:Int));let z40:=decide (nthD z18 x.toNat (0:Int)≠(-1:Int));let z41:=wntI p m x.toNat;let z42:=z41.length+1;let z43:=x+(1:Int);let z44:=z41++[nthD z16 x.toNat (0:Int)];let z45:=SV.ow 4 (wntI p m z43.toNat).length 1;let z46:=SV.si .i64 z43;let z47:=SObj.row z14 (wntI p m z43.toNat) 3 true;let z48:=SV.ow 4 z41.length 1;let z49:=SObj.row z14 z41 3 true;(0:Int)≤x∧x≤z32→(z39=true→(0:Int)≤x∧x<(↑z18.length:Int)∧x.toNat<z18.length∧(z40=true→(0:Int)≤x∧x<(↑z16.length:Int)∧x.toNat<z16.length∧z41.length=z41.length∧z42*8≤140737488355328∧z42≤1000000000000∧inR .i64 z43∧((z12.same z12∧z13.same z13∧z15.same z15∧z17.same z17∧z19.same z19∧(SV.ow 4 z44.length 1).same z45∧z20.same z20∧z46.same z46∧True)∧z21.same z21∧z25.same z25∧z30.same z30∧z31.same z31∧(SObj.row z14 z44 3 true).same z47∧True)∧((0:Int)≤z43∧z43≤z32)∧(z32 - z43).toNat<(z32 - x).toNat)∧(z40=false→inR .i64 z43∧((z12.same z12∧z13.same z13∧z15.same z15∧z17.same z17∧z19.same z19∧z48.same z45∧z20.same z20∧z46.same z46∧True)∧z21.same z21∧z25.same z25∧z30.same z30∧z31.same z31∧z49.same z47∧True)∧((0:Int)≤z43∧z43≤z32)∧(z32 - z43).toNat<(z32 - x).toNat))∧(z39=false→(((z12.same z12∧z13.same z13∧z15.same z15∧z48.same z34∧z20.same (SV.ow 3 z35.length 1)∧(SV.il .i64 0).same (SV.si .i64 0)∧True)∧z21.same z21∧z25.same z25∧z30.same z30∧z31.same (SObj.row z14 z35 3 true)∧z49.same z36∧True)∧(0:Int)≤(0:Int)∧(0:Int)≤z37)∧∀(x:Int),let z50:=!decide (x∈redS p m);let z51:=gonI (redS p m) x.toNat;let z52:=z51.length+1;let z53:=x+(1:Int);let z54:=gonI (redS p m) z53.toNat;let z55:=SV.ow 3 z54.length 1;let z56:=SV.si .i64 z53;let z57:=SObj.row z14 z54 3 true;(0:Int)≤x∧x≤z37→(decide (x<z1)=true→z33=(redS p m).length∧z33≤1000000000000∧(z50=true→z51.length=z51.length∧z52*8≤140737488355328∧z52≤1000000000000∧inR .i64 z53∧((z12.same z12∧z13.same z13∧z15.same z15∧z34.same z34∧(SV.ow 3 (z51++[x]).length 1).same z55∧z56.same z56∧True)∧z21.same z21∧z25.same z25∧z30.same z30∧(SObj.row z14 (z51++[x]) 3 true).same z57∧z36.same z36∧True)∧((0:Int)≤z53∧z53≤z37)∧(z37 - z53).toNat<(z37 - x).toNat)∧(z50=false→inR .i64 z53∧((z12.same z12∧z13.same z13∧z15.same z15∧z34.same z34∧(SV.ow 3 z51.length 1).same z55∧z56.same z56∧True)∧z21.same z21∧z25.same z25∧z30.same z30∧(SObj.row z14 z51 3 true).same z57∧z36.same z36∧True)∧((0:Int)≤z53∧z53≤z37)∧(z37 - z53).toNat<(z37 - x).toNat))∧(decide (x<z1)=false→z51.length=z51.length∧z51.length≤1000000000000∧z33=(redS p m).length∧(z33≤1000000000000∧z33≤1000000000000)∧(z38=true→(((redP p m).classes.length≤1000000∧z6.length≤1000000)∧redP p m=remQ p z51)∧(true=true→True∧(SV.sb true).same (SV.sb true))∧(true=false→(SV.bl false).same (SV.sb true)))∧(z38=false→(SV.bl false).same (SV.sb true))))))))))) (by kernel_rfl) ?_
 simp only[vcs,cmp_same]
 refine⟨fun _=>trivial,fun hb=>⟨fun _=>trivial,fun hb2=>?_⟩⟩
 by_cases hc:checkE p=0
 ·have hg:=good_of hc
  have hdm:(if checkE p=0 then domS p else[])=domS p:=if_pos hc
  have hrq:remQ p (domS p)=redQ p:=remQ_asc hc domS_mem
  have hkk:(if remE p (domS p)=0 then kepA p (domS p) else[])=kepA p (domS p):=if_pos (remE_asc hc domS_mem)
  have hq:checkE (redQ p)=0:=rem_check hc
  simp only[hdm]
  simp only[hrq,hkk,hq,hc]
  have hfl:=@fixW_len (redQ p) m hq
  have hql:=@redQ_len p
  have hkl:(kepA p (domS p)).length≤p.offers.length:=kepI_len
  have hdl:=asc_len (@domS_mem p)
  have hsl:=asc_len (redS_asc (m:=m) hc)
  have hw4:∀{a b:Nat},a=b→(SV.ow 4 a 1).same (SV.ow 4 b 1):=by rintro _ _ rfl;rfl
  have hw3:∀{a b:Nat},a=b→(SV.ow 3 a 1).same (SV.ow 3 b 1):=by rintro _ _ rfl;rfl
  have hrI:∀{x y:List Int},x=y→(SObj.row (.i .i64) x 3 true).same (SObj.row (.i .i64) y 3 true):=by rintro _ _ rfl;rfl
  refine⟨⟨m0,m1⟩,fun h=>absurd rfl h,fun _=>⟨by omega,⟨m0,m1⟩,fun h=>absurd rfl h,fun _=>⟨fun h=>absurd rfl h,fun _=>⟨fun h=>absurd (by rw[hfl]) h,fun _=>⟨⟨⟨⟨trivial,trivial,hw4 rfl⟩,rfl,hrI rfl⟩,by omega,by omega⟩,?_⟩⟩⟩⟩⟩
  rintro i ⟨i0,i1⟩
  have hk:=@wnt_len p m i.toNat
  have hsu:=@wnt_succ p m i i0
  refine⟨fun hi=>⟨i0,hi,by omega,fun hv=>?_,fun hv=>?_⟩,fun hi=>?_⟩
  ·rw[if_pos hv] at hsu
   exact⟨i0,by omega,by omega,by omega,by omega,by omega,⟨hw4 (congrArg List.length hsu.symm),hrI hsu.symm⟩,by omega,by omega⟩
  ·rw[if_neg hv,List.append_nil] at hsu
   exact⟨by omega,⟨hw4 (congrArg List.length hsu.symm),hrI hsu.symm⟩,by omega,by omega⟩
  rw[show i.toNat=(redQ p).offers.length by omega,wnt_all hc]
  refine⟨⟨⟨⟨hw4 rfl,hw3 rfl⟩,hrI rfl,hrI rfl⟩,by omega,by omega⟩,?_⟩
  rintro k ⟨k0,k1⟩
  have hgl:=@gon_len (redS p m) k.toNat
  have hgs:=@gon_succ (redS p m) k k0
  refine⟨fun hi=>⟨by omega,fun hv=>?_,fun hv=>?_⟩,fun hi=>?_⟩
  ·rw[if_neg hv] at hgs
   exact⟨by omega,by omega,by omega,⟨hw3 (congrArg List.length hgs.symm),hrI hgs.symm⟩,by omega,by omega⟩
  ·rw[if_pos hv,List.append_nil] at hgs
   exact⟨by omega,⟨hw3 (congrArg List.length hgs.symm),hrI hgs.symm⟩,by omega,by omega⟩
  rw[show k.toNat=p.offers.length by omega] at hgl ⊢
  have hle:=left_eq (m:=m) hc
  have hol:(redP p m).offers.length≤p.offers.length:=by
   rw[←hle]
   show((kepA p (gonI (redS p m) p.offers.length)).map (oI p)).length≤_
   rw[List.length_map]
   exact kepI_len
  have hcl:(redP p m).classes=p.classes:=by rw[←hle];rfl
  rw[hcl]
  exact⟨by omega,⟨by omega,by omega⟩,fun _=>⟨⟨⟨by omega,by omega⟩,by rw[remQ_asc hc gon_asc,hle]⟩,fun _=>trivial,fun h=>absurd h (by decide)⟩,fun h=>absurd trivial h⟩
 ·have e1:redP p m=zeroP:=by unfold redP;rw[if_neg hc]
  have e2:redS p m=[]:=by unfold redS;rw[if_neg hc]
  exact⟨⟨m0,m1⟩,fun _=>⟨fun _=>⟨fun _=>⟨fun _=>trivial,fun h=>absurd (by rw[e1];rfl) h⟩,fun h=>absurd (by rw[e2];rfl) h⟩,fun h=>absurd trivial h⟩,fun h=>absurd hc h⟩
end Go.Vi
