/-
  Contracts: zeros, eliminate.
  Conditions: none.
-/
import Derived.Test.YtoifpgeocpjneaaDD06
import Derived.Test.YtoifpgeocpjneaaDD07
import Derived.Test.YtoifpgeocpjneaaDD08
import Derived.Test.YtoifpgeocpjneaaDD09
set_option maxRecDepth 100000
set_option maxHeartbeats 4000000
set_option linter.unusedSimpArgs false
set_option linter.unusedVariables false
namespace Go.Vi
open Go.Proofs.Ytoifpgeocpjneaa.Ir
open Go.Proofs
def rowU (d:List Fra) (j:Nat) (z:Fra):List Fra:=d.take j++List.replicate (d.length - j) z
theorem rowU_len {d:List Fra} {j:Nat} {z:Fra} (h:j≤d.length):(rowU d j z).length=d.length:=by
 unfold rowU
 rw[List.length_append,List.length_take,List.length_replicate]
 omega
theorem rowU_zero {d:List Fra} {z:Fra}:rowU d 0 z=List.replicate d.length z:=by simp[rowU]
theorem rowU_all {d:List Fra} {z:Fra}:rowU d d.length z=d:=by simp[rowU]
theorem rowU_set {d:List Fra} {j:Nat} {z x:Fra} (h:j<d.length) (hx:x=nthD d j z):(rowU d j z).set j x=rowU d (j+1) z:=by
 unfold rowU
 have h1:d.length - j=(d.length - (j+1))+1:=by omega
 rw[h1,List.replicate_succ,List.set_append_right _ _ (by rw[List.length_take];omega),List.length_take,show j - min j d.length=0 by omega,List.set_cons_zero,List.take_succ_eq_append_getElem h,List.append_assoc,hx,nthD_eq h]
 rfl
theorem fL_set {l:List Rat} {i:Nat} {q:Rat}:(fL l).set i (frE q)=fL (l.set i q):=by
 unfold fL
 rw[List.map_set]
theorem elim_none {l p:List Rat} {c:Nat} (h:nthD l c 0=0) (hc:c<l.length):elimR l c p=l:=by
 refine List.ext_getElem elim_len fun i h1 h2=>?_
 have e1:=@elim_nth c l p i h2
 rw[nthD_eq h1,h] at e1
 rw[e1]
 split
 ·rename_i hic
  subst hic
  rw[nthD_eq hc] at h
  rw[h]
  grind
 ·rw[nthD_eq h2]
  grind
def r413:OCtr where
 f:=87
 α:=Int
 put a:=[.si .i64 a]
 st _:=[]
 dec v o:=match v,o with
  |[v],[]=>v.int .i64
  |_,_=>none
 ok v o a h:=by
  split at h
  ·exact⟨by simp only[gL,int_g h];rfl,rfl⟩
  ·cases h
 inj a b h _:=by simpa[gL,SV.g] using h
 dom n:=0≤n∧n≤1000
 res n:=.ow 0 n.toNat 3
 out n:=[.row sF (fL (List.replicate n.toNat 0)) 58 false]
def Λ413 (n:Int):Nat→LoopAnn
 |3=> .inv Int (fun j=>⟨[(3,.ow 0 n.toNat 3),(8,.si .i64 n.toNat),(9,.si .i64 j)],[.row sF (rowU (fL (List.replicate n.toNat 0)) j.toNat (false,([],[]))) 58 true]⟩)
   (fun s=>iS s 9) (fun j=>0≤j∧j≤n) (fun j=>(n - j).toNat) fun _ _=> .look
 |_=> .look
theorem h413:HoldsO Try.prog r413:=by
 refine conN (L:=[r94]) (W:=[]) r413 F413 (fun _=>none) Λ413 (by simp) (by simpa using h94) (by kernel_rfl) (fun _=>rfl) (fun _=>rfl) (by kernel_rfl) ?_
 rintro(n:Int) ⟨n0,n1⟩
 refine vcOf (let z0:=SV.ow 0 n.toNat 3;let z1:=SV.si .i64 (↑n.toNat:Int);let z2:=(SId.i .u32).lst;let z3:=(false,[],[]);let z4:=fL (List.replicate n.toNat (0:Rat));let z5:=frE (IntCast.intCast (0:Int));(0:Int)≤n∧n≤n∧n*(56:Int)≤(140737488355328:Int)∧n≤(1000000000000:Int)∧(((z0.same z0∧z1.same z1∧(SV.il .i64 0).same (SV.si .i64 0)∧True)∧(SObj.row (SId.b.pair (z2.pair z2)) (List.replicate n.toNat z3) 58 true).same (SObj.row sF (rowU z4 0 z3) 58 true)∧True)∧(0:Int)≤(0:Int)∧(0:Int)≤n)∧∀(x:Int),let z6:=decide (x<(↑n.toNat:Int));let z7:=rowU z4 x.toNat z3;let z8:=x+(1:Int);let z9:=SV.si .i64 z8;(0:Int)≤x∧x≤n→(z6=true→((-9223372036854775808:Int)≤(0:Int)∧(0:Int)≤(9223372036854775807:Int))∧n.toNat=z7.length∧(0:Int)≤x∧x<(↑z7.length:Int)∧n.toNat=z7.length∧x.toNat<z7.length∧inR .i64 z8∧((z0.same z0∧z1.same z1∧z9.same z9∧True)∧(SObj.row sF (z7.set x.toNat (z5.fst,z5.snd.fst,z5.snd.snd)) 58 true).same (SObj.row sF (rowU z4 z8.toNat z3) 58 true)∧True)∧((0:Int)≤z8∧z8≤n)∧(n - z8).toNat<(n - x).toNat)∧(z6=false→z0.same z0∧(SObj.row sF z7 58 false).same (SObj.row sF z4 58 false)∧True)) (by kernel_rfl) ?_
 conv=>zeta
 try simp only[vcs]
 have hcast:∀k:Nat,((k:Nat):Int).toNat=k:=fun k=>Int.toNat_natCast k
 have hl:(fL (List.replicate n.toNat 0)).length=n.toNat:=by rw[fL_len,List.length_replicate]
 have hrow:∀{x y:List Fra},x=y→(SObj.row sF x 58 true).same (SObj.row sF y 58 true):=by rintro _ _ rfl;rfl
 refine⟨n0,by omega,by omega,by omega,⟨hrow (by rw[rowU_zero,hl]),by omega,by omega⟩,?_⟩
 rintro j ⟨j0,j1⟩
 have hru:=@rowU_len (fL (List.replicate n.toNat 0)) j.toNat (false,([],[])) (by omega)
 refine⟨fun hj=>?_,fun hj=>?_⟩
 ·have hE:nthD (fL (List.replicate n.toNat 0)) j.toNat (false,([],[]))=frE 0:=by
   rw[fL_nth (by rw[List.length_replicate];omega),nthD_eq (by rw[List.length_replicate];omega),List.getElem_replicate]
  have h0:(IntCast.intCast 0:Rat)=0:=rfl
  simp only[h0,fra_eta]
  exact⟨by omega,by omega,j0,by omega,by omega,by omega,by omega,hrow (by rw[rowU_set (by omega) hE.symm,show(j+1).toNat=j.toNat+1 by omega]),by omega,by omega⟩
 ·rw[show j.toNat=(fL (List.replicate n.toNat 0)).length by omega,rowU_all]
  rfl
def r417:SCtr:=⟨95,List Fra×Fra×Int×List Fra×Fra,.cons (codR sF) (.cons (codE sF) (.cons (codI .i64) (.cons (codR sF) (.one (codE sF))))),
 fun a=>∃l b p pb,(a.1=fL l∧a.2.1=frE b∧a.2.2.2.1=fL p∧a.2.2.2.2=frE pb)∧(l.length=p.length∧l.length≤1000)∧(0≤a.2.2.1∧a.2.2.1<l.length)∧(∀q∈l,Sz 10000000 q)∧(∀q∈p,Sz 10000000 q)∧Sz 10000000 b∧Sz 10000000 pb,
 fun a=> .tup [.row sF (fL (elimR (vL a.1) a.2.2.1.toNat (vL a.2.2.2.1))),frS (valF a.2.1 - nthD (vL a.1) a.2.2.1.toNat 0*valF a.2.2.2.2)]⟩
def Λ417 (l:List Rat) (b:Rat) (c:Int) (p:List Rat) (pb:Rat):Nat→LoopAnn
 |6=> .inv Int (fun j=>⟨[(2,.si .i64 c),(3,.row sF (fL p)),(6,.ptr 0 0 3),(9,.ptr 1 0 3),(11,.ptr 2 0 3),(12,.ptr 3 0 3),(13,.ow 4 l.length 3),(28,.row sF (fL l)),(29,.si .i64 l.length),(30,.si .i64 j)],
   [.cells [.sb (frE b).1,.row (.i .u32) (frE b).2.1,.row (.i .u32) (frE b).2.2] 58 3 false,.cells [.sb (frE pb).1,.row (.i .u32) (frE pb).2.1,.row (.i .u32) (frE pb).2.2] 58 3 false,
    .cells [.bl false,.sc (.slice none 0 0),.sc (.slice none 0 0)] 58 3 false,.cells [.sb (frE (nthD l c.toNat 0)).1,.row (.i .u32) (frE (nthD l c.toNat 0)).2.1,.row (.i .u32) (frE (nthD l c.toNat 0)).2.2] 58 3 false,
    .row sF (rowU (fL (elimR l c.toNat p)) j.toNat (false,([],[]))) 58 true]⟩)
   (fun s=>iS s 30) (fun j=>0≤j∧j≤l.length) (fun j=>(l.length - j).toNat) fun _ _=> .look
 |_=> .look
theorem h417:Holds Try.prog r417:=by
 refine con (L:=[r99,r410,r130,r95]) r417 F417 (fun a=>Λ417 (vL a.1) (valF a.2.1) a.2.2.1 (vL a.2.2.2.1) (valF a.2.2.2.2)) (OwnOK.none _) (by simpa using⟨h99,h410,h130,h95⟩) (by kernel_rfl) (by kernel_rfl) (fun _=>rfl) ?_
 rintro⟨l',b',c,p',pb'⟩ ⟨l,b,p,pb,⟨e1,e2,e3,e4⟩,⟨g1,g2⟩,⟨c0,c1⟩,hl,hp,hb,hpb⟩
 simp only at e1 e2 e3 e4 c0 c1
 subst e1 e2 e3 e4
 refine vcOf (let z0:=(↑(fL l).length:Int);let z1:=nthD (fL l) c.toNat sF.dflt;let z2:=(z1.fst,z1.snd.fst,z1.snd.snd);let z3:=decide (sgnQ (valF z2)=(0:Int));let z4:=SId.i .u32;let z5:=[SV.sb (frE b).fst,SV.row z4 (frE b).snd.fst,SV.row z4 (frE b).snd.snd];let z6:=fL (elimR (vL (fL l)) c.toNat (vL (fL p)));let z7:=nthD (vL (fL l)) c.toNat (0:Rat);let z8:=frE (valF (frE b) - z7*valF (frE pb));let z9:=SV.tup [SV.row sF z6,SV.agg [SV.sb z8.fst,SV.row z4 z8.snd.fst,SV.row z4 z8.snd.snd]];let z10:=fL (vL (fL p));let z11:=SV.row sF z10;let z12:=SV.ptr 0 0 3;let z13:=SV.ptr 1 0 3;let z14:=SV.ptr 2 0 3;let z15:=SV.ptr 3 0 3;let z16:=(vL (fL l)).length;let z17:=SV.ow 4 z16 3;let z18:=fL (vL (fL l));let z19:=SV.row sF z18;let z20:=(↑z16:Int);let z21:=SV.si .i64 z20;let z22:=(frE (valF (frE b))).fst;let z23:=(frE (valF (frE b))).snd;let z24:=SObj.cells [SV.sb z22,SV.row z4 z23.fst,SV.row z4 z23.snd] 58 3 false;let z25:=(frE (valF (frE pb))).fst;let z26:=(frE (valF (frE pb))).snd;let z27:=SObj.cells [SV.sb z25,SV.row z4 z26.fst,SV.row z4 z26.snd] 58 3 false;let z28:=SV.sc (Value.slice none 0 0);let z29:=SObj.cells [SV.bl false,z28,z28] 58 3 false;let z30:=SObj.cells [SV.sb (frE z7).fst,SV.row z4 (frE z7).snd.fst,SV.row z4 (frE z7).snd.snd] 58 3 false;let z31:=(false,[],[]);let z32:=((frE z7).fst,(frE z7).snd.fst,(frE z7).snd.snd);let z33:=(z25,z26.fst,z26.snd);let z34:=(z22,z23.fst,z23.snd);let z35:=frE (valF z32*valF z33);let z36:=(z35.fst,z35.snd.fst,z35.snd.snd);let z37:=frE (valF z34 - valF z36);(0:Int)≤c∧c<z0∧c.toNat<(fL l).length∧isF z2∧(z3=true→(SV.tup [SV.row sF (fL l),SV.agg z5]).same z9)∧(z3=false→(0:Int)≤z0∧z0≤z0∧z0*(56:Int)≤(140737488355328:Int)∧z0≤(1000000000000:Int)∧((((SV.si .i64 c).same (SV.si .i64 c)∧(SV.row sF (fL p)).same z11∧z12.same z12∧z13.same z13∧z14.same z14∧z15.same z15∧(SV.ow 4 z0.toNat 3).same z17∧(SV.row sF (fL l)).same z19∧(SV.si .i64 z0).same z21∧(SV.il .i64 0).same (SV.si .i64 0)∧True)∧(SObj.cells z5 58 3 false).same z24∧(SObj.cells [SV.sb (frE pb).fst,SV.row z4 (frE pb).snd.fst,SV.row z4 (frE pb).snd.snd] 58 3 false).same z27∧z29.same z29∧(SObj.cells [SV.sb z1.fst,SV.row z4 z1.snd.fst,SV.row z4 z1.snd.snd] 58 3 false).same z30∧(SObj.row (SId.b.pair (z4.lst.pair z4.lst)) (List.replicate z0.toNat z31) 58 true).same (SObj.row sF (rowU z6 0 z31) 58 true)∧True)∧(0:Int)≤(0:Int)∧(0:Int)≤z20)∧∀(x:Int),let z38:=nthD z10 x.toNat sF.dflt;let z39:=(z38.fst,z38.snd.fst,z38.snd.snd);let z40:=frE (valF z32*valF z39);let z41:=(z40.fst,z40.snd.fst,z40.snd.snd);let z42:=rowU z6 x.toNat z31;let z43:=x+(1:Int);let z44:=SV.si .i64 z43;let z45:=(frE (-valF z41)).snd;let z46:=SObj.row sF (rowU z6 z43.toNat z31) 58 true;let z47:=decide (sgnQ (valF z39)=(0:Int));let z48:=nthD z18 x.toNat sF.dflt;let z49:=(z48.fst,z48.snd.fst,z48.snd.snd);let z50:=frE (valF z49 - valF z41);(0:Int)≤x∧x≤z20→(decide (x<z20)=true→(0:Int)≤x∧x<(↑z18.length:Int)∧x.toNat<z18.length∧(decide (x=c)=true→(0:Int)≤x∧x<(↑z10.length:Int)∧x.toNat<z10.length∧(isF z32∧isF z39)∧isF z41∧z16=z42.length∧(0:Int)≤x∧x<(↑z42.length:Int)∧z16=z42.length∧x.toNat<z42.length∧inR .i64 z43∧(((SV.si .i64 c).same (SV.si .i64 c)∧z11.same z11∧z12.same z12∧z13.same z13∧z14.same z14∧z15.same z15∧z17.same z17∧z19.same z19∧z21.same z21∧z44.same z44∧True)∧z24.same z24∧z27.same z27∧z29.same z29∧z30.same z30∧(SObj.row sF (z42.set x.toNat ((frE (-valF z41)).fst,z45.fst,z45.snd)) 58 true).same z46∧True)∧((0:Int)≤z43∧z43≤z20)∧(z20 - z43).toNat<(z20 - x).toNat)∧(decide (x=c)=false→(0:Int)≤x∧x<(↑z10.length:Int)∧x.toNat<z10.length∧isF z39∧(z47=true→z16=z42.length∧(0:Int)≤x∧x<(↑z42.length:Int)∧z16=z42.length∧x.toNat<z42.length∧inR .i64 z43∧(((SV.si .i64 c).same (SV.si .i64 c)∧z11.same z11∧z12.same z12∧z13.same z13∧z14.same z14∧z15.same z15∧z17.same z17∧z19.same z19∧z21.same z21∧z44.same z44∧True)∧z24.same z24∧z27.same z27∧z29.same z29∧z30.same z30∧(SObj.row sF (z42.set x.toNat z49) 58 true).same z46∧True)∧((0:Int)≤z43∧z43≤z20)∧(z20 - z43).toNat<(z20 - x).toNat)∧(z47=false→(0:Int)≤x∧x<(↑z10.length:Int)∧x.toNat<z10.length∧(isF z32∧isF z39)∧(isF z49∧isF z41)∧z16=z42.length∧(0:Int)≤x∧x<(↑z42.length:Int)∧z16=z42.length∧x.toNat<z42.length∧inR .i64 z43∧(((SV.si .i64 c).same (SV.si .i64 c)∧z11.same z11∧z12.same z12∧z13.same z13∧z14.same z14∧z15.same z15∧z17.same z17∧z19.same z19∧z21.same z21∧z44.same z44∧True)∧z24.same z24∧z27.same z27∧z29.same z29∧z30.same z30∧(SObj.row sF (z42.set x.toNat (z50.fst,z50.snd.fst,z50.snd.snd)) 58 true).same z46∧True)∧((0:Int)≤z43∧z43≤z20)∧(z20 - z43).toNat<(z20 - x).toNat)))∧(decide (x<z20)=false→(isF z32∧isF z33)∧(isF z34∧isF z36)∧z16=z42.length∧(SV.tup [SV.row sF z42,SV.agg [SV.sb z37.fst,SV.row z4 z37.snd.fst,SV.row z4 z37.snd.snd]]).same z9))) (by kernel_rfl) ?_
 simp only[vL_fL,valF_frE]
 try simp only[vcs]
 have hfl:=@fL_len l
 have hfp:=@fL_len p
 have hel:(elimR l c.toNat p).length=l.length:=elim_len
 have hfe:=@fL_len (elimR l c.toNat p)
 have hA:nthD (fL l) c.toNat sF.dflt=frE (nthD l c.toNat 0):=fL_nth (by omega)
 have hzc:=hl _ (nthD_mem (d:=0) (show c.toNat<l.length by omega))
 have hcast:∀k:Nat,((k:Nat):Int).toNat=k:=fun k=>Int.toNat_natCast k
 have hag:∀{x y:Rat},x=y→(SV.agg [SV.sb (frE x).1,SV.row (SId.i IntKind.u32) (frE x).2.1,SV.row (SId.i IntKind.u32) (frE x).2.2]).same (SV.agg [SV.sb (frE y).1,SV.row (SId.i IntKind.u32) (frE y).2.1,SV.row (SId.i IntKind.u32) (frE y).2.2]):=by rintro _ _ rfl;rfl
 have hrow:∀{x y:List Fra},x=y→(SObj.row sF x 58 true).same (SObj.row sF y 58 true):=by rintro _ _ rfl;rfl
 simp only[hA,fra_eta,valF_frE,sgnQ_zero,hcast]
 refine⟨c0,by omega,by omega,isF_of hzc (by omega),fun hz=>⟨by rw[elim_none hz (by omega)],hag (by rw[hz];grind)⟩,fun hz=>⟨by omega,by omega,by omega,by omega,⟨⟨⟨by rw[hfl];rfl,by omega⟩,rfl,hrow (by rw[rowU_zero,hfe,hel,hfl])⟩,by omega,by omega⟩,?_⟩⟩
 rintro j ⟨j0,j1⟩
 have hru:=@rowU_len (fL (elimR l c.toNat p)) j.toNat (false,([],[])) (by omega)
 refine⟨fun hj=>?_,fun hj=>?_⟩
 ·have hP:nthD (fL p) j.toNat sF.dflt=frE (nthD p j.toNat 0):=fL_nth (by omega)
  have hL:nthD (fL l) j.toNat sF.dflt=frE (nthD l j.toNat 0):=fL_nth (by omega)
  have hzp:=hp _ (nthD_mem (d:=0) (show j.toNat<p.length by omega))
  have hzl:=hl _ (nthD_mem (d:=0) (show j.toNat<l.length by omega))
  have hE:nthD (fL (elimR l c.toNat p)) j.toNat (false,([],[]))=frE (if j.toNat=c.toNat then -(nthD l c.toNat 0*nthD p j.toNat 0) else nthD l j.toNat 0 - nthD l c.toNat 0*nthD p j.toNat 0):=by
   rw[fL_nth (by omega),elim_nth (by omega)]
  have hm:=sz_mul hzc hzp
  have tail:(0≤j+1∧j+1≤(l.length:Int))∧((l.length:Int) - (j+1)).toNat<((l.length:Int) - j).toNat:=by omega
  have step:∀{x:Fra},x=nthD (fL (elimR l c.toNat p)) j.toNat (false,([],[]))→(SObj.row sF ((rowU (fL (elimR l c.toNat p)) j.toNat (false,([],[]))).set j.toNat x) 58 true).same (SObj.row sF (rowU (fL (elimR l c.toNat p)) (j+1).toNat (false,([],[]))) 58 true):=fun h=>hrow (by
   rw[rowU_set (by omega) h,show(j+1).toNat=j.toNat+1 by omega])
  simp only[hP,hL,fra_eta,valF_frE,sgnQ_zero]
  refine⟨j0,by omega,by omega,fun hjc=>⟨j0,by omega,by omega,⟨isF_of hzc (by omega),isF_of hzp (by omega)⟩,isF_of hm (by omega),by omega,j0,by omega,by omega,by omega,by omega,step ?_,tail⟩,fun hjc=>⟨j0,by omega,by omega,isF_of hzp (by omega),fun hpz=>⟨by omega,j0,by omega,by omega,by omega,by omega,step ?_,tail⟩,fun hpz=>⟨j0,by omega,by omega,⟨isF_of hzc (by omega),isF_of hzp (by omega)⟩,⟨isF_of hzl (by omega),isF_of hm (by omega)⟩,by omega,j0,by omega,by omega,by omega,by omega,step ?_,tail⟩⟩⟩
  ·rw[hE,if_pos (by omega)]
  ·rw[hE,if_neg (by omega),hpz]
   congr 1
   grind
  ·rw[hE,if_neg (by omega)]
 ·rw[show j.toNat=(fL (elimR l c.toNat p)).length by omega,rowU_all]
  exact⟨⟨isF_of hzc (by omega),isF_of hpb (by omega)⟩,⟨isF_of hb (by omega),isF_of (sz_mul hzc hpb) (by omega)⟩,by omega,rfl,rfl⟩
def r408:OCtr:=tabCtr 81 (Int×Int) (.cons (codI .i64) (.one (codI .i64))) (fun n m t a=>(0≤a.1∧a.1<m)∧(0≤a.2∧a.2<n)∧t.cf a.1.toNat a.2.toNat≠0) (fun _ _ _ _=> .tup []) (fun _ _ t a=>pivT t a.1.toNat a.2.toNat)
def scaR (l:List Rat) (q:Rat):List Rat:=l.map fun x=>x*q
def fC (q:Rat):SObj:=.cells [.sb (frE q).1,.row (.i .u32) (frE q).2.1,.row (.i .u32) (frE q).2.2] 58 3 false
def updL {α:Type} (f g:Nat→α) (n r i:Nat):List α:=(List.range n).map fun k=>if k<i∧k≠r then g k else f k
theorem updL_len {α:Type} {f g:Nat→α} {n r i:Nat}:(updL f g n r i).length=n:=by simp[updL]
theorem updL_zero {α:Type} {l:List α} {g:Nat→α} {r:Nat} {d:α}:updL (fun k=>nthD l k d) g l.length r 0=l:=by
 refine List.ext_getElem updL_len fun i h1 h2=>?_
 simp[updL,nthD,h2]
theorem updL_nth {α:Type} {f g:Nat→α} {n r i:Nat} {d:α} (h:i<n):nthD (updL f g n r i) i d=f i:=by
 unfold updL
 rw[nth_map h,if_neg (by omega)]
theorem updL_set {α:Type} {f g:Nat→α} {n r i:Nat} (h:i<n) (hr:i≠r):(updL f g n r i).set i (g i)=updL f g n r (i+1):=by
 refine List.ext_getElem (by simp[updL]) fun k h1 h2=>?_
 have hk:k<n:=by simpa[updL] using h2
 rw[List.getElem_set]
 simp only[updL,List.getElem_map,List.getElem_range]
 by_cases hik:i=k
 ·subst hik
  rw[if_pos rfl,if_pos ⟨by omega,hr⟩]
 ·rw[if_neg hik]
  by_cases h3:k<i∧k≠r
  ·rw[if_pos h3,if_pos ⟨by omega,h3.2⟩]
  ·rw[if_neg h3,if_neg (fun h4=>h3 ⟨by omega,h4.2⟩)]
theorem updL_skip {α:Type} {f g:Nat→α} {n r:Nat}:updL f g n r (r+1)=updL f g n r r:=by
 unfold updL
 refine List.map_congr_left fun k _=>?_
 by_cases h3:k<r∧k≠r
 ·rw[if_pos h3,if_pos ⟨by omega,h3.2⟩]
 ·rw[if_neg h3,if_neg (fun h4=>h3 ⟨by omega,h4.2⟩)]
theorem updL_end {α:Type} {f g:Nat→α} {n r:Nat} {x:α} (h:r<n):(updL f g n r n).set r x=(List.range n).map fun k=>if k=r then x else g k:=by
 refine List.ext_getElem (by simp[updL]) fun k h1 h2=>?_
 have hk:k<n:=by simpa[updL] using h2
 rw[List.getElem_set]
 simp only[updL,List.getElem_map,List.getElem_range]
 by_cases hik:r=k
 ·subst hik
  rw[if_pos rfl,if_pos rfl]
 ·rw[if_neg hik,if_pos ⟨hk,fun h=>hik h.symm⟩,if_neg fun h=>hik h.symm]
theorem fM_set {l:List (List Rat)} {i:Nat} {x:List Rat}:(fM l).set i (fL x)=fM (l.set i x):=by
 unfold fM
 rw[List.map_set]
theorem prow_set {l:List Rat} {c:Nat} (h:c<l.length):(fL (scaR l (1 / nthD l c 0))).set c (frE (1 / nthD l c 0))=fL (prowR l c):=by
 rw[fL_set]
 congr 1
 refine List.ext_getElem (by simp[scaR,prowR]) fun k h1 h2=>?_
 have hk:k<l.length:=by simpa[prowR] using h2
 rw[List.getElem_set]
 simp only[scaR,prowR,List.getElem_map,List.getElem_range]
 by_cases hik:c=k
 ·subst hik
  rw[if_pos rfl,if_pos rfl]
 ·rw[if_neg hik,if_neg fun h=>hik h.symm,nthD_eq (i:=k) hk]
def elT (t:Tb) (r c i:Nat):Tb:={t with
 coef:=updL (fun k=>nthD t.coef k []) (fun k=>elimR (nthD t.coef k []) c (prowR (nthD t.coef r []) c)) t.coef.length r i
 bound:=updL t.bd (fun k=>t.bd k - t.cf k c*(t.bd r*(1 / t.cf r c))) t.bound.length r i}
theorem elT_zero {t:Tb} {r c:Nat}:elT t r c 0=t:=by
 unfold elT
 have h1:=@updL_zero (List Rat) t.coef (fun k=>elimR (nthD t.coef k []) c (prowR (nthD t.coef r []) c)) r []
 have h2:=@updL_zero Rat t.bound (fun k=>t.bd k - t.cf k c*(t.bd r*(1 / t.cf r c))) r 0
 have h2':updL t.bd (fun k=>t.bd k - t.cf k c*(t.bd r*(1 / t.cf r c))) t.bound.length r 0=t.bound:=h2
 rw[h1,h2']
def Λ408 (n m:Int) (t:Tb) (r c:Int):Nat→LoopAnn
 |3=> .inv Int (fun j=>⟨[(0,.ptr 0 0 10),(1,.si .i64 r),(2,.si .i64 c),(6,.ptr 5 0 3),(8,.ow 6 n.toNat 3),(41,.row sF (fL (nthD t.coef r.toNat []))),(42,.si .i64 n),(43,.si .i64 j)],
   (encT n m t).sto++[fC (1 / t.cf r.toNat c.toNat),.row sF (rowU (fL (scaR (nthD t.coef r.toNat []) (1 / t.cf r.toNat c.toNat))) j.toNat (false,([],[]))) 58 true]⟩)
   (fun s=>iS s 43) (fun j=>0≤j∧j≤n) (fun j=>(n - j).toNat) fun _ _=> .look
 |10=> .inv Int (fun i=>⟨[(0,.ptr 0 0 10),(1,.si .i64 r),(2,.si .i64 c),(8,.row sF (fL (prowR (nthD t.coef r.toNat []) c.toNat))),(11,.ptr 7 0 3),(72,.si .i64 m),(73,.si .i64 i)],
   (encT n m (elT t r.toNat c.toNat i.toNat)).sto++[fC (1 / t.cf r.toNat c.toNat),.dead,fC (t.bd r.toNat*(1 / t.cf r.toNat c.toNat))]⟩)
   (fun s=>iS s 73) (fun j=>0≤j∧j≤m) (fun j=>(m - j).toNat) fun _ _=> .look
 |_=> .look
theorem h408:HoldsO Try.prog r408:=by
 refine conO (L:=[r94,r416,r410,r417,r129]) (W:=[]) r408 F408 (fun a=>Λ408 a.1.n a.1.m a.1.t a.2.1 a.2.2) (by simp) (by simpa using⟨h94,h416,h410,h417,h129⟩) (by kernel_rfl) (fun _=>rfl) (by kernel_rfl) ?_
 rintro⟨x,r,c⟩ ⟨n,m,t,hx,hok,⟨r0,r1⟩,⟨c0,c1⟩,ha⟩
 simp only at hx r0 r1 c0 c1 ha
 subst hx
 refine vcOf (let z0:=(encT n m t).coef;let z1:=nthD z0 r.toNat sF.lst.dflt;let z2:=frE (IntCast.intCast (1:Int));let z3:=(z2.fst,z2.snd.fst,z2.snd.snd);let z4:=nthD z1 c.toNat sF.dflt;let z5:=(z4.fst,z4.snd.fst,z4.snd.snd);let z6:=(↑(encT n m t).k4:Int);let z7:=SV.ptr 0 0 10;let z8:=SV.ptr 5 0 3;let z9:=(encT n m t).n;let z10:=SV.ow 6 z9.toNat 3;let z11:=(encT n m t).t;let z12:=nthD z11.coef r.toNat [];let z13:=SV.row sF (fL z12);let z14:=SV.si .i64 z9;let z15:=(encT n m t).m;let z16:=SV.si .i64 z15;let z17:=SId.i .u32;let z18:=encT z9 z15 z11;let z19:=SObj.cells [SV.si .i64 z18.n,SV.si .i64 z18.m,SV.ow 1 z18.k0 1,SV.ow 2 z18.k1 3,SV.row sF z18.cost,SV.sb z18.v.fst,SV.row z17 z18.v.snd.fst,SV.row z17 z18.v.snd.snd,SV.ow 3 z18.k3 1,SV.ow 4 z18.k4 1] 127 10 false;let z20:=SObj.row sF.lst z18.coef 60 false;let z21:=SObj.row sF z18.bound 58 false;let z22:=SId.i .i64;let z23:=SObj.row z22 z18.basic 3 false;let z24:=SObj.row z22 z18.free 3 false;let z25:=frE (valF z3 / valF z5);let z26:=(1:Rat) / z11.cf r.toNat c.toNat;let z27:=SObj.cells [SV.sb (frE z26).fst,SV.row z17 (frE z26).snd.fst,SV.row z17 (frE z26).snd.snd] 58 3 false;let z28:=(false,[],[]);let z29:=fL (scaR z12 z26);let z30:=((frE z26).fst,(frE z26).snd.fst,(frE z26).snd.snd);let z31:=z18.bound.length;let z32:=nthD z18.bound r.toNat sF.dflt;let z33:=(z32.fst,z32.snd.fst,z32.snd.snd);let z34:=fL (prowR z12 c.toNat);let z35:=SV.row sF z34;let z36:=SV.ptr 7 0 3;let z37:=encT z9 z15 (elT z11 r.toNat c.toNat 0);let z38:=frE (valF z33*valF z30);let z39:=frE (z11.bd r.toNat*z26);let z40:=SObj.cells [SV.sb z39.fst,SV.row z17 z39.snd.fst,SV.row z17 z39.snd.snd] 58 3 false;let z41:=(z39.fst,z39.snd.fst,z39.snd.snd);let z42:=encT z9 z15 (pivT z11 r.toNat c.toNat);((-9223372036854775808:Int)≤(1:Int)∧(1:Int)≤(9223372036854775807:Int))∧(encT n m t).k0=z0.length∧(0:Int)≤r∧r<(↑z0.length:Int)∧(encT n m t).k0=z0.length∧r.toNat<z0.length∧(0:Int)≤c∧c<(↑z1.length:Int)∧c.toNat<z1.length∧((isF z3∧isF z5)∧valF z5≠(0:Rat))∧(0:Int)≤z6∧z6≤z6∧z6*(56:Int)≤(140737488355328:Int)∧z6≤(1000000000000:Int)∧(encT n m t).k0=z0.length∧(0:Int)≤r∧r<(↑z0.length:Int)∧(encT n m t).k0=z0.length∧r.toNat<z0.length∧(((z7.same z7∧(SV.si .i64 r).same (SV.si .i64 r)∧(SV.si .i64 c).same (SV.si .i64 c)∧z8.same z8∧(SV.ow 6 z6.toNat 3).same z10∧(SV.row sF z1).same z13∧(SV.si .i64 (↑z1.length:Int)).same z14∧(SV.il .i64 0).same (SV.si .i64 0)∧True)∧(SObj.cells [z14,z16,SV.ow 1 (encT n m t).k0 1,SV.ow 2 (encT n m t).k1 3,SV.row sF (encT n m t).cost,SV.sb (encT n m t).v.fst,SV.row z17 (encT n m t).v.snd.fst,SV.row z17 (encT n m t).v.snd.snd,SV.ow 3 (encT n m t).k3 1,SV.ow 4 (encT n m t).k4 1] 127 10 false).same z19∧(SObj.row sF.lst z0 60 false).same z20∧(SObj.row sF (encT n m t).bound 58 false).same z21∧(SObj.row z22 (encT n m t).basic 3 false).same z23∧(SObj.row z22 (encT n m t).free 3 false).same z24∧(SObj.cells [SV.sb z25.fst,SV.row z17 z25.snd.fst,SV.row z17 z25.snd.snd] 58 3 false).same z27∧(SObj.row (SId.b.pair (z17.lst.pair z17.lst)) (List.replicate z6.toNat z28) 58 true).same (SObj.row sF (rowU z29 0 z28) 58 true)∧True)∧(0:Int)≤(0:Int)∧(0:Int)≤z9)∧∀(x:Int),let z43:=nthD (fL z12) x.toNat sF.dflt;let z44:=(z43.fst,z43.snd.fst,z43.snd.snd);let z45:=rowU z29 x.toNat z28;let z46:=z45.length;let z47:=x+(1:Int);let z48:=SV.si .i64 z47;let z49:=frE (valF z44*valF z30);(0:Int)≤x∧x≤z9→(decide (x<z9)=true→(0:Int)≤x∧x<(↑(fL z12).length:Int)∧x.toNat<(fL z12).length∧(isF z44∧isF z30)∧z9.toNat=z46∧(0:Int)≤x∧x<(↑z46:Int)∧z9.toNat=z46∧x.toNat<z46∧inR .i64 z47∧((z7.same z7∧(SV.si .i64 r).same (SV.si .i64 r)∧(SV.si .i64 c).same (SV.si .i64 c)∧z8.same z8∧z10.same z10∧z13.same z13∧z14.same z14∧z48.same z48∧True)∧z19.same z19∧z20.same z20∧z21.same z21∧z23.same z23∧z24.same z24∧z27.same z27∧(SObj.row sF (z45.set x.toNat (z49.fst,z49.snd.fst,z49.snd.snd)) 58 true).same (SObj.row sF (rowU z29 z47.toNat z28) 58 true)∧True)∧((0:Int)≤z47∧z47≤z9)∧(z9 - z47).toNat<(z9 - x).toNat)∧(decide (x<z9)=false→z9.toNat=z46∧(0:Int)≤c∧c<(↑z46:Int)∧z9.toNat=z46∧c.toNat<z46∧z18.k1=z31∧(0:Int)≤r∧r<(↑z31:Int)∧z18.k1=z31∧r.toNat<z31∧(isF z33∧isF z30)∧z9.toNat=(z45.set c.toNat z30).length∧(((z7.same z7∧(SV.si .i64 r).same (SV.si .i64 r)∧(SV.si .i64 c).same (SV.si .i64 c)∧(SV.row sF (z45.set c.toNat z30)).same z35∧z36.same z36∧(SV.si .i64 (↑z18.k0:Int)).same z16∧(SV.il .i64 0).same (SV.si .i64 0)∧True)∧z19.same (SObj.cells [SV.si .i64 z37.n,SV.si .i64 z37.m,SV.ow 1 z37.k0 1,SV.ow 2 z37.k1 3,SV.row sF z37.cost,SV.sb z37.v.fst,SV.row z17 z37.v.snd.fst,SV.row z17 z37.v.snd.snd,SV.ow 3 z37.k3 1,SV.ow 4 z37.k4 1] 127 10 false)∧z20.same (SObj.row sF.lst z37.coef 60 false)∧z21.same (SObj.row sF z37.bound 58 false)∧z23.same (SObj.row z22 z37.basic 3 false)∧z24.same (SObj.row z22 z37.free 3 false)∧z27.same z27∧SObj.dead.same SObj.dead∧(SObj.cells [SV.sb z38.fst,SV.row z17 z38.snd.fst,SV.row z17 z38.snd.snd] 58 3 false).same z40∧True)∧(0:Int)≤(0:Int)∧(0:Int)≤z15)∧∀(x:Int),let z50:=encT z9 z15 (elT z11 r.toNat c.toNat x.toNat);let z51:=z50.coef;let z52:=z51.length;let z53:=z50.bound;let z54:=z53.length;let z55:=nthD z51 x.toNat sF.lst.dflt;let z56:=nthD z53 x.toNat sF.dflt;let z57:=(z56.fst,z56.snd.fst,z56.snd.snd);let z58:=x+(1:Int);let z59:=SV.si .i64 z58;let z60:=SV.si .i64 z50.n;let z61:=SV.si .i64 z50.m;let z62:=SV.ow 1 z50.k0 1;let z63:=SV.ow 2 z50.k1 3;let z64:=z50.cost;let z65:=[SV.ow 3 z50.k3 1,SV.ow 4 z50.k4 1];let z66:=encT z9 z15 (elT z11 r.toNat c.toNat z58.toNat);let z67:=SObj.row sF.lst z66.coef 60 false;let z68:=frE (valF z57 - nthD (vL z55) c.toNat (0:Rat)*valF z41);let z69:=SObj.row sF z66.bound 58 false;let z70:=z50.basic;let z71:=(z50.v.fst,z50.v.snd.fst,z50.v.snd.snd);let z72:=nthD z64 c.toNat sF.dflt;let z73:=(z72.fst,z72.snd.fst,z72.snd.snd);let z74:=frE (valF z73*valF z41);let z75:=(z74.fst,z74.snd.fst,z74.snd.snd);let z76:=z50.free.length;let z77:=frE (valF z71+valF z75);(0:Int)≤x∧x≤z15→(decide (x<z15)=true→(decide (x≠r)=true→z50.k0=z52∧(0:Int)≤x∧x<(↑z52:Int)∧z50.k0=z52∧x.toNat<z52∧z50.k1=z54∧(0:Int)≤x∧x<(↑z54:Int)∧z50.k1=z54∧x.toNat<z54∧(∃l b p pb,(z55=fL l∧z57=frE b∧z34=fL p∧z41=frE pb)∧(l.length=p.length∧l.length≤1000)∧((0:Int)≤c∧c<(↑l.length:Int))∧(∀(q:Rat),q∈l→Sz 10000000 q)∧(∀(q:Rat),q∈p→Sz 10000000 q)∧Sz 10000000 b∧Sz 10000000 pb)∧z50.k0=z52∧(0:Int)≤x∧x<(↑z52:Int)∧z50.k0=z52∧x.toNat<z52∧z50.k1=z54∧(0:Int)≤x∧x<(↑z54:Int)∧z50.k1=z54∧x.toNat<z54∧inR .i64 z58∧((z7.same z7∧(SV.si .i64 r).same (SV.si .i64 r)∧(SV.si .i64 c).same (SV.si .i64 c)∧z35.same z35∧z36.same z36∧z16.same z16∧z59.same z59∧True)∧(SObj.cells (z60::z61::z62::z63::SV.row sF z64::SV.sb z50.v.fst::SV.row z17 z50.v.snd.fst::SV.row z17 z50.v.snd.snd::z65) 127 10 false).same (SObj.cells [SV.si .i64 z66.n,SV.si .i64 z66.m,SV.ow 1 z66.k0 1,SV.ow 2 z66.k1 3,SV.row sF z66.cost,SV.sb z66.v.fst,SV.row z17 z66.v.snd.fst,SV.row z17 z66.v.snd.snd,SV.ow 3 z66.k3 1,SV.ow 4 z66.k4 1] 127 10 false)∧(SObj.row sF.lst (z51.set x.toNat (fL (elimR (vL z55) c.toNat (vL z34)))) 60 false).same z67∧(SObj.row sF (z53.set x.toNat (z68.fst,z68.snd.fst,z68.snd.snd)) 58 false).same z69∧(SObj.row z22 z70 3 false).same (SObj.row z22 z66.basic 3 false)∧(SObj.row z22 z50.free 3 false).same (SObj.row z22 z66.free 3 false)∧z27.same z27∧SObj.dead.same SObj.dead∧z40.same z40∧True)∧((0:Int)≤z58∧z58≤z15)∧(z15 - z58).toNat<(z15 - x).toNat)∧(decide (x≠r)=false→inR .i64 z58∧((z7.same z7∧(SV.si .i64 r).same (SV.si .i64 r)∧(SV.si .i64 c).same (SV.si .i64 c)∧z35.same z35∧z36.same z36∧z16.same z16∧z59.same z59∧True)∧(SObj.cells (z60::z61::z62::z63::SV.row sF z64::SV.sb z50.v.fst::SV.row z17 z50.v.snd.fst::SV.row z17 z50.v.snd.snd::z65) 127 10 false).same (SObj.cells [SV.si .i64 z66.n,SV.si .i64 z66.m,SV.ow 1 z66.k0 1,SV.ow 2 z66.k1 3,SV.row sF z66.cost,SV.sb z66.v.fst,SV.row z17 z66.v.snd.fst,SV.row z17 z66.v.snd.snd,SV.ow 3 z66.k3 1,SV.ow 4 z66.k4 1] 127 10 false)∧(SObj.row sF.lst z51 60 false).same z67∧(SObj.row sF z53 58 false).same z69∧(SObj.row z22 z70 3 false).same (SObj.row z22 z66.basic 3 false)∧(SObj.row z22 z50.free 3 false).same (SObj.row z22 z66.free 3 false)∧z27.same z27∧SObj.dead.same SObj.dead∧z40.same z40∧True)∧((0:Int)≤z58∧z58≤z15)∧(z15 - z58).toNat<(z15 - x).toNat))∧(decide (x<z15)=false→(0:Int)≤c∧c<(↑z64.length:Int)∧c.toNat<z64.length∧(∃l b p pb,(z64=fL l∧z71=frE b∧z34=fL p∧z41=frE pb)∧(l.length=p.length∧l.length≤1000)∧((0:Int)≤c∧c<(↑l.length:Int))∧(∀(q:Rat),q∈l→Sz 10000000 q)∧(∀(q:Rat),q∈p→Sz 10000000 q)∧Sz 10000000 b∧Sz 10000000 pb)∧(isF z73∧isF z41)∧(isF z71∧isF z75)∧z50.k0=z52∧(0:Int)≤r∧r<(↑z52:Int)∧z50.k0=z52∧r.toNat<z52∧z50.k1=z54∧(0:Int)≤r∧r<(↑z54:Int)∧z50.k1=z54∧r.toNat<z54∧z50.k4=z76∧(0:Int)≤c∧c<(↑z76:Int)∧z50.k4=z76∧c.toNat<z76∧z50.k3=z70.length∧(0:Int)≤r∧r<(↑z70.length:Int)∧z50.k3=z70.length∧r.toNat<z70.length∧z50.k3=z70.length∧(0:Int)≤r∧r<(↑z70.length:Int)∧z50.k3=z70.length∧r.toNat<z70.length∧z50.k4=z76∧(0:Int)≤c∧c<(↑z76:Int)∧z50.k4=z76∧c.toNat<z76∧(SV.tup []).same (SV.tup [])∧(SObj.cells (z60::z61::z62::z63::SV.row sF (fL (elimR (vL z64) c.toNat (vL z34)))::SV.sb z77.fst::SV.row z17 z77.snd.fst::SV.row z17 z77.snd.snd::z65) 127 10 false).same (SObj.cells [SV.si .i64 z42.n,SV.si .i64 z42.m,SV.ow 1 z42.k0 1,SV.ow 2 z42.k1 3,SV.row sF z42.cost,SV.sb z42.v.fst,SV.row z17 z42.v.snd.fst,SV.row z17 z42.v.snd.snd,SV.ow 3 z42.k3 1,SV.ow 4 z42.k4 1] 127 10 false)∧(SObj.row sF.lst (z51.set r.toNat z34) 60 false).same (SObj.row sF.lst z42.coef 60 false)∧(SObj.row sF (z53.set r.toNat z41) 58 false).same (SObj.row sF z42.bound 58 false)∧(SObj.row z22 (z70.set r.toNat (nthD z50.free c.toNat (0:Int))) 3 false).same (SObj.row z22 z42.basic 3 false)∧(SObj.row z22 (z50.free.set c.toNat (nthD z70 r.toNat (0:Int))) 3 false).same (SObj.row z22 z42.free 3 false)∧True))) (by kernel_rfl) ?_
 conv=>zeta
 try simp only[encT_t]
 try simp only[encT]
 try simp only[vcs]
 obtain⟨⟨⟨n0,n1⟩,m0,m1⟩,hw,hz⟩:=id hok
 have hkl:=hw.coef
 have hbl:=hw.bound
 have hbb:=hw.basic
 have hfl:=hw.free
 have hcl:=hw.cost
 have hfm:=@fM_len t.coef
 have hfb:=@fL_len t.bound
 have hrl:=hw.row r.toNat (by omega)
 have hcast:∀k:Nat,((k:Nat):Int).toNat=k:=fun k=>Int.toNat_natCast k
 have h1:(IntCast.intCast 1:Rat)=1:=rfl
 have hR:nthD (fM t.coef) r.toNat sF.lst.dflt=fL (nthD t.coef r.toNat []):=fM_nth (by omega)
 have hA:nthD (fL (nthD t.coef r.toNat [])) c.toNat sF.dflt=frE (t.cf r.toNat c.toNat):=fL_nth (by omega)
 have hB:nthD (fL t.bound) r.toNat sF.dflt=frE (t.bd r.toNat):=fL_nth (by omega)
 simp only[hR,hA,hB,fra_eta,valF_frE,hcast,h1]
 have hsA:=hok.cf (i:=r.toNat) (j:=c.toNat) (by omega) (by omega)
 have hsB:=hok.bd (i:=r.toNat) (by omega)
 have s1:Sz 1 (1:Rat):=by unfold Sz;decide
 have hsI:=sz_div s1 hsA ha
 have hsP:=sz_mul hsB hsI
 have hfr:=@fL_len (nthD t.coef r.toNat [])
 have hsl:(scaR (nthD t.coef r.toNat []) (1 / t.cf r.toNat c.toNat)).length=n.toNat:=by unfold scaR;rw[List.length_map];exact hrl
 have hfs:=@fL_len (scaR (nthD t.coef r.toNat []) (1 / t.cf r.toNat c.toNat))
 have hrow:∀{x y:List Fra},x=y→(SObj.row sF x 58 true).same (SObj.row sF y 58 true):=by rintro _ _ rfl;rfl
 refine⟨by omega,by omega,r0,by omega,by omega,by omega,c0,by omega,by omega,⟨⟨isF_of s1 (by omega),isF_of hsA (by omega)⟩,ha⟩,by omega,by omega,by omega,by omega,by omega,r0,by omega,by omega,by omega,⟨⟨⟨by rw[hfl];rfl,trivial,by omega⟩,rfl,hrow (by rw[rowU_zero,hfs,hsl,hfl])⟩,by omega,by omega⟩,?_⟩
 rintro j ⟨j0,j1⟩
 have hru:=@rowU_len (fL (scaR (nthD t.coef r.toNat []) (1 / t.cf r.toNat c.toNat))) j.toNat (false,([],[])) (by omega)
 refine⟨fun hj=>?_,fun hj=>?_⟩
 ·have hL:nthD (fL (nthD t.coef r.toNat [])) j.toNat sF.dflt=frE (t.cf r.toNat j.toNat):=fL_nth (by omega)
  have hS:nthD (fL (scaR (nthD t.coef r.toNat []) (1 / t.cf r.toNat c.toNat))) j.toNat (false,([],[]))=frE (t.cf r.toNat j.toNat*(1 / t.cf r.toNat c.toNat)):=by
   rw[fL_nth (by omega),nthD_eq (by omega)]
   unfold scaR Tb.cf
   rw[List.getElem_map,nthD_eq (l:=nthD t.coef r.toNat []) (i:=j.toNat) (by omega)]
  simp only[hL,valF_frE]
  refine⟨j0,by omega,by omega,⟨isF_of (hok.cf (by omega) (by omega)) (by omega),isF_of hsI (by omega)⟩,by omega,j0,by omega,by omega,by omega,by omega,hrow ?_,by omega,by omega⟩
  rw[rowU_set (by omega) hS.symm,show(j+1).toNat=j.toNat+1 by omega]
 ·have hset:(rowU (fL (scaR (nthD t.coef r.toNat []) (1 / t.cf r.toNat c.toNat))) j.toNat (false,([],[]))).set c.toNat (frE (1 / t.cf r.toNat c.toNat))=fL (prowR (nthD t.coef r.toNat []) c.toNat):=by
   rw[show j.toNat=(fL (scaR (nthD t.coef r.toNat []) (1 / t.cf r.toNat c.toNat))).length by omega,rowU_all]
   exact prow_set (by omega)
  have hpl:(prowR (nthD t.coef r.toNat []) c.toNat).length=n.toNat:=by rw[prow_len];exact hrl
  have hfp:=@fL_len (prowR (nthD t.coef r.toNat []) c.toNat)
  simp only[hset,elT_zero]
  have hsPr:∀q∈prowR (nthD t.coef r.toNat []) c.toNat,Sz 10000000 q:=fun q hq=>by
   obtain⟨k,hk,rfl⟩:=List.mem_map.1 hq
   rw[List.mem_range] at hk
   split
   ·exact hsI.mono (by omega)
   ·exact(sz_mul (hok.cf (i:=r.toNat) (j:=k) (by omega) (by omega)) hsI).mono (by omega)
  refine⟨by omega,c0,by omega,by omega,by omega,by omega,r0,by omega,by omega,by omega,⟨isF_of hsB (by omega),isF_of hsI (by omega)⟩,by omega,⟨⟨⟨trivial,by omega⟩,rfl,rfl,rfl,rfl,rfl,rfl⟩,by omega,by omega⟩,?_⟩
  rintro i ⟨i0,i1⟩
  have ekl:(elT t r.toNat c.toNat i.toNat).coef.length=m.toNat:=by show(updL _ _ _ _ _).length=_;rw[updL_len];exact hkl
  have ebl:(elT t r.toNat c.toNat i.toNat).bound.length=m.toNat:=by show(updL _ _ _ _ _).length=_;rw[updL_len];exact hbl
  have efm:=@fM_len (elT t r.toNat c.toNat i.toNat).coef
  have efb:=@fL_len (elT t r.toNat c.toNat i.toNat).bound
  have hfc:=@fL_len t.cost
  have hcellE:∀{a b:Tb},a.coef.length=b.coef.length→a.bound.length=b.bound.length→a.cost=b.cost→a.value=b.value→a.basic.length=b.basic.length→a.free.length=b.free.length→
    (SObj.cells [.si .i64 n,.si .i64 m,.ow 1 a.coef.length 1,.ow 2 a.bound.length 3,.row sF (fL a.cost),.sb (frE a.value).1,.row (.i .u32) (frE a.value).2.1,.row (.i .u32) (frE a.value).2.2,.ow 3 a.basic.length 1,.ow 4 a.free.length 1] 127 10 false).same
    (SObj.cells [.si .i64 n,.si .i64 m,.ow 1 b.coef.length 1,.ow 2 b.bound.length 3,.row sF (fL b.cost),.sb (frE b.value).1,.row (.i .u32) (frE b.value).2.1,.row (.i .u32) (frE b.value).2.2,.ow 3 b.basic.length 1,.ow 4 b.free.length 1] 127 10 false):=fun h1 h2 h3 h4 h5 h6=>by
   rw[h1,h2,h3,h4,h5,h6];rfl
  have hrowM:∀{x y:List (List Fra)},x=y→(SObj.row sF.lst x 60 false).same (SObj.row sF.lst y 60 false):=by rintro _ _ rfl;rfl
  have hrowF:∀{x y:List Fra},x=y→(SObj.row sF x 58 false).same (SObj.row sF y 58 false):=by rintro _ _ rfl;rfl
  have hrowI:∀{x y:List Int},x=y→(SObj.row (.i .i64) x 3 false).same (SObj.row (.i .i64) y 3 false):=by rintro _ _ rfl;rfl
  refine⟨fun hi=>⟨fun hir=>?_,fun hir=>?_⟩,fun hi=>?_⟩
  ·have hRi:nthD (fM (elT t r.toNat c.toNat i.toNat).coef) i.toNat sF.lst.dflt=fL (nthD t.coef i.toNat []):=by
    rw[fM_nth (by omega)]
    congr 1
    exact updL_nth (by omega)
   have hBi:nthD (fL (elT t r.toNat c.toNat i.toNat).bound) i.toNat sF.dflt=frE (t.bd i.toNat):=by
    rw[fL_nth (by omega)]
    congr 1
    exact updL_nth (by omega)
   have hli:=hw.row i.toNat (by omega)
   simp only[hRi,hBi,vL_fL,valF_frE]
   refine⟨by omega,i0,by omega,by omega,by omega,by omega,i0,by omega,by omega,by omega,⟨nthD t.coef i.toNat [],t.bd i.toNat,prowR (nthD t.coef r.toNat []) c.toNat,t.bd r.toNat*(1 / t.cf r.toNat c.toNat),⟨rfl,rfl,rfl,rfl⟩,⟨by omega,by omega⟩,⟨c0,by omega⟩,fun q hq=>?_,hsPr,(hok.bd (by omega)).mono (by omega),hsP.mono (by omega)⟩,by omega,i0,by omega,by omega,by omega,by omega,i0,by omega,by omega,by omega,by omega,⟨hcellE ?_ ?_ rfl rfl rfl rfl,hrowM ?_,hrowF ?_,rfl,rfl⟩,by omega,by omega⟩
   ·exact(hz.1 _ (nthD_mem (d:=[]) (by omega)) q hq).mono (by omega)
   ·show(updL _ _ _ _ _).length=(updL _ _ _ _ _).length
    rw[updL_len,updL_len]
   ·show(updL _ _ _ _ _).length=(updL _ _ _ _ _).length
    rw[updL_len,updL_len]
   ·rw[fM_set,show(i+1).toNat=i.toNat+1 by omega]
    congr 1
    exact updL_set (by omega) (by omega)
   ·rw[fL_set,show(i+1).toNat=i.toNat+1 by omega]
    congr 1
    exact updL_set (f:=t.bd) (g:=fun k=>t.bd k - t.cf k c.toNat*(t.bd r.toNat*(1 / t.cf r.toNat c.toNat))) (by omega) (by omega)
  ·have e:elT t r.toNat c.toNat (i+1).toNat=elT t r.toNat c.toNat i.toNat:=by
    rw[show(i+1).toNat=r.toNat+1 by omega,show i.toNat=r.toNat by omega]
    unfold elT
    rw[updL_skip,updL_skip]
   rw[e]
   exact⟨by omega,⟨rfl,rfl,rfl,rfl,rfl⟩,by omega,by omega⟩
  ·have hsC:=hok.cs (j:=c.toNat) (by omega)
   have hC:nthD (fL t.cost) c.toNat sF.dflt=frE (t.cs c.toNat):=fL_nth (by omega)
   have hcc:(elT t r.toNat c.toNat i.toNat).cost=t.cost:=rfl
   have hvv:(elT t r.toNat c.toNat i.toNat).value=t.value:=rfl
   have hff:(elT t r.toNat c.toNat i.toNat).free=t.free:=rfl
   have hbs:(elT t r.toNat c.toNat i.toNat).basic=t.basic:=rfl
   simp only[hC,hcc,hvv,hff,hbs,vL_fL,valF_frE]
   refine⟨c0,by omega,by omega,⟨t.cost,t.value,prowR (nthD t.coef r.toNat []) c.toNat,t.bd r.toNat*(1 / t.cf r.toNat c.toNat),⟨rfl,rfl,rfl,rfl⟩,⟨by omega,by omega⟩,⟨c0,by omega⟩,fun q hq=>(hz.2.2.1 q hq).mono (by omega),hsPr,hz.2.2.2.mono (by omega),hsP.mono (by omega)⟩,⟨isF_of hsC (by omega),isF_of hsP (by omega)⟩,⟨isF_of hz.2.2.2 (by omega),isF_of (sz_mul hsC hsP) (by omega)⟩,
    by omega,r0,by omega,by omega,by omega,by omega,r0,by omega,by omega,by omega,c0,by omega,by omega,r0,by omega,by omega,r0,by omega,by omega,c0,by omega,by omega,?_,hrowM ?_,hrowF ?_,hrowI rfl,hrowI rfl⟩
   ·have hpw:=piv_wf (r:=r.toNat) (c:=c.toNat) hw
    rw[ekl,ebl,hbb,hfl,hpw.coef,hpw.bound,hpw.basic,hpw.free]
    rfl
   ·rw[fM_set,show i.toNat=t.coef.length by omega]
    congr 1
    exact updL_end (by omega)
   ·rw[fL_set,show i.toNat=t.bound.length by omega]
    congr 1
    exact updL_end (by omega)
def okO (n m:Nat) (t:Tb):Prop:=∃t0 M G,Small n m M G t0∧Run n m t0 t∧feasT m t
theorem lastN_ok {n m:Nat} {t:Tb} (h:okO n m t):endsT n m (lastN n m t) t=true:=by
 obtain⟨t0,M,G,h1,h2,h3⟩:=h
 have hx:=bland h2 h3
 unfold lastN
 rw[dif_pos hx]
 exact Classical.choose_spec hx
noncomputable def r402:OCtr:=tabCtr 67 Unit .nil (fun n m t _=>okO n.toNat m.toNat t) (fun n m t _=> .tup [.si .i64 (if entN (lastT n.toNat m.toNat t) n.toNat<0 then 0 else entN (lastT n.toNat m.toNat t) n.toNat),.sb (decide (entN (lastT n.toNat m.toNat t) n.toNat<0))]) (fun n m t _=>lastT n.toNat m.toNat t)
def tS (t:Tb) (s:SSt):Tb:=match decTab s.o with
 |some x=>x.t
 |none=>t
noncomputable def Λ402 (n m:Int) (t:Tb):Nat→LoopAnn
 |1=> .inv Tb (fun x=>⟨[(0,.ptr 0 0 10)],(encT n m x).sto⟩) (tS t) (fun x=>okO n.toNat m.toNat x∧lastT n.toNat m.toNat x=lastT n.toNat m.toNat t∧endsT n.toNat m.toNat (lastN n.toNat m.toNat t) x=true) (fun x=>leftT n.toNat m.toNat (lastN n.toNat m.toNat t) x) fun _ _=> .look
 |_=> .look
theorem okO_ok {n m:Int} {t:Tb} (h:okO n.toNat m.toNat t) (hn:0≤n∧n≤1000) (hm:0≤m∧m≤1000):okT n m t:=by
 obtain⟨t0,M,G,h1,h2,h3⟩:=h
 exact small_okT h1 h2 hn hm
theorem h402:HoldsO Try.prog r402:=by
 refine conO (L:=[]) (W:=[r411,r412,r408]) r402 F402 (fun a=>Λ402 a.1.n a.1.m a.1.t) (by simpa using⟨h411,h412,h408⟩) (by simp) (by kernel_rfl) (fun _=>rfl) (by kernel_rfl) ?_
 rintro⟨x,u⟩ ⟨n,m,t,hx,hok,hd⟩
 simp only at hx hd
 subst hx
 refine vcOf (let z0:=SV.ptr 0 0 10;let z1:=(encT n m t).n;let z2:=(encT n m t).m;let z3:=SId.i .u32;let z4:=(encT n m t).t;let z5:=encT z1 z2 z4;let z6:=SId.i .i64;let z7:=z1.toNat;let z8:=z2.toNat;let z9:=lastT z7 z8 z4;let z10:=lastN z7 z8 z4;let z11:=SV.tup [SV.si .i64 (if entN z9 z7<(0:Int) then(0:Int) else entN z9 z7),SV.sb (decide (entN z9 z7<(0:Int)))];let z12:=encT z1 z2 z9;let z13:=SObj.cells [SV.si .i64 z12.n,SV.si .i64 z12.m,SV.ow 1 z12.k0 1,SV.ow 2 z12.k1 3,SV.row sF z12.cost,SV.sb z12.v.fst,SV.row z3 z12.v.snd.fst,SV.row z3 z12.v.snd.snd,SV.ow 3 z12.k3 1,SV.ow 4 z12.k4 1] 127 10 false;let z14:=SObj.row sF.lst z12.coef 60 false;let z15:=SObj.row sF z12.bound 58 false;let z16:=SObj.row z6 z12.basic 3 false;let z17:=SObj.row z6 z12.free 3 false;(((z0.same z0∧True)∧(SObj.cells [SV.si .i64 z1,SV.si .i64 z2,SV.ow 1 (encT n m t).k0 1,SV.ow 2 (encT n m t).k1 3,SV.row sF (encT n m t).cost,SV.sb (encT n m t).v.fst,SV.row z3 (encT n m t).v.snd.fst,SV.row z3 (encT n m t).v.snd.snd,SV.ow 3 (encT n m t).k3 1,SV.ow 4 (encT n m t).k4 1] 127 10 false).same (SObj.cells [SV.si .i64 z5.n,SV.si .i64 z5.m,SV.ow 1 z5.k0 1,SV.ow 2 z5.k1 3,SV.row sF z5.cost,SV.sb z5.v.fst,SV.row z3 z5.v.snd.fst,SV.row z3 z5.v.snd.snd,SV.ow 3 z5.k3 1,SV.ow 4 z5.k4 1] 127 10 false)∧(SObj.row sF.lst (encT n m t).coef 60 false).same (SObj.row sF.lst z5.coef 60 false)∧(SObj.row sF (encT n m t).bound 58 false).same (SObj.row sF z5.bound 58 false)∧(SObj.row z6 (encT n m t).basic 3 false).same (SObj.row z6 z5.basic 3 false)∧(SObj.row z6 (encT n m t).free 3 false).same (SObj.row z6 z5.free 3 false)∧True)∧okO z7 z8 z4∧z9=z9∧endsT z7 z8 z10 z4=true)∧∀(x:Tb),let z18:=encT z1 z2 x;let z19:=entN z18.t z18.n.toNat;let z20:=decide (z19<(0:Int));let z21:=encT z18.n z18.m z18.t;let z22:=levN z21.t z19.toNat z21.m.toNat;let z23:=decide (z22<(0:Int));let z24:=encT z21.n z21.m z21.t;let z25:=encT z24.n z24.m (pivT z24.t z22.toNat z19.toNat);let z26:=encT z1 z2 z25.t;okO z7 z8 x∧lastT z7 z8 x=z9∧endsT z7 z8 z10 x=true→(∃n m t,z18=encT n m t∧okT n m t∧True)∧(z20=true→(SV.tup [SV.il .i64 0,SV.bl true]).same z11∧(SObj.cells [SV.si .i64 z21.n,SV.si .i64 z21.m,SV.ow 1 z21.k0 1,SV.ow 2 z21.k1 3,SV.row sF z21.cost,SV.sb z21.v.fst,SV.row z3 z21.v.snd.fst,SV.row z3 z21.v.snd.snd,SV.ow 3 z21.k3 1,SV.ow 4 z21.k4 1] 127 10 false).same z13∧(SObj.row sF.lst z21.coef 60 false).same z14∧(SObj.row sF z21.bound 58 false).same z15∧(SObj.row z6 z21.basic 3 false).same z16∧(SObj.row z6 z21.free 3 false).same z17∧True)∧(z20=false→(∃n m t,z21=encT n m t∧okT n m t∧(0:Int)≤z19∧z19<n)∧(z23=true→(SV.tup [SV.si .i64 z19,SV.bl false]).same z11∧(SObj.cells [SV.si .i64 z24.n,SV.si .i64 z24.m,SV.ow 1 z24.k0 1,SV.ow 2 z24.k1 3,SV.row sF z24.cost,SV.sb z24.v.fst,SV.row z3 z24.v.snd.fst,SV.row z3 z24.v.snd.snd,SV.ow 3 z24.k3 1,SV.ow 4 z24.k4 1] 127 10 false).same z13∧(SObj.row sF.lst z24.coef 60 false).same z14∧(SObj.row sF z24.bound 58 false).same z15∧(SObj.row z6 z24.basic 3 false).same z16∧(SObj.row z6 z24.free 3 false).same z17∧True)∧(z23=false→(∃n m t,z24=encT n m t∧okT n m t∧((0:Int)≤z22∧z22<m)∧((0:Int)≤z19∧z19<n)∧t.cf z22.toNat z19.toNat≠(0:Rat))∧0=0∧((z0.same z0∧True)∧(SObj.cells [SV.si .i64 z25.n,SV.si .i64 z25.m,SV.ow 1 z25.k0 1,SV.ow 2 z25.k1 3,SV.row sF z25.cost,SV.sb z25.v.fst,SV.row z3 z25.v.snd.fst,SV.row z3 z25.v.snd.snd,SV.ow 3 z25.k3 1,SV.ow 4 z25.k4 1] 127 10 false).same (SObj.cells [SV.si .i64 z26.n,SV.si .i64 z26.m,SV.ow 1 z26.k0 1,SV.ow 2 z26.k1 3,SV.row sF z26.cost,SV.sb z26.v.fst,SV.row z3 z26.v.snd.fst,SV.row z3 z26.v.snd.snd,SV.ow 3 z26.k3 1,SV.ow 4 z26.k4 1] 127 10 false)∧(SObj.row sF.lst z25.coef 60 false).same (SObj.row sF.lst z26.coef 60 false)∧(SObj.row sF z25.bound 58 false).same (SObj.row sF z26.bound 58 false)∧(SObj.row z6 z25.basic 3 false).same (SObj.row z6 z26.basic 3 false)∧(SObj.row z6 z25.free 3 false).same (SObj.row z6 z26.free 3 false)∧True)∧(okO z7 z8 z25.t∧lastT z7 z8 z25.t=z9∧endsT z7 z8 z10 z25.t=true)∧leftT z7 z8 z10 z25.t<leftT z7 z8 z10 x))) (by kernel_rfl) ?_
 simp only[tab_eta,encT_t,encT_n,encT_m]
 try simp only[vcs]
 obtain⟨⟨hn,hm⟩,hw,hz⟩:=id hok
 refine⟨⟨hd,lastN_ok hd⟩,?_⟩
 rintro x ⟨hx,hl,he⟩
 have hokx:=okO_ok hx hn hm
 have hs:stepT n.toNat m.toNat x=if entN x n.toNat<0 then none else if levN x (entN x n.toNat).toNat m.toNat<0 then none else some (pivT x (levN x (entN x n.toNat).toNat m.toNat).toNat (entN x n.toNat).toNat):=rfl
 have hwx:=hokx.2.1
 have fin:∀{y:Tb},y=lastT n.toNat m.toNat t→encT n m y=encT n m (lastT n.toNat m.toNat t):=by rintro _ rfl;rfl
 refine⟨⟨n,m,x,rfl,hokx⟩,fun h0=>?_,fun h0=>?_⟩
 ·rw[if_pos h0] at hs
  have e:=last_end hs
  rw[hl] at e
  rw[←e] at h0 ⊢
  rw[if_pos h0,decide_eq_true h0]
  exact⟨⟨rfl,rfl⟩,rfl,rfl,rfl,rfl,rfl⟩
 ·have h0':¬entN x n.toNat<0:=h0
  rw[if_neg h0'] at hs
  rcases @ent_ok x n.toNat with⟨e1,e2⟩|⟨c,e1,e2,e3,e4⟩
  ·omega
  ·refine⟨⟨n,m,x,rfl,hokx,by omega,by omega⟩,fun h1=>?_,fun h1=>?_⟩
   ·rw[if_pos h1] at hs
    have e:=last_end hs
    rw[hl] at e
    rw[e,if_neg h0',decide_eq_false h0']
    exact⟨⟨rfl,rfl⟩,rfl,rfl,rfl,rfl,rfl⟩
   ·have h1':¬levN x (entN x n.toNat).toNat m.toNat<0:=h1
    rw[if_neg h1'] at hs
    rcases @lev_ok x (entN x n.toNat).toNat m.toNat with⟨l1,l2⟩|⟨r,l1,l2,l3,l4⟩
    ·omega
    ·refine⟨⟨n,m,x,rfl,hokx,⟨by omega,by omega⟩,⟨by omega,by omega⟩,?_⟩,?_⟩
     ·rw[l1,Int.toNat_natCast];grind
     ·obtain⟨t0,M,G,g1,g2,g3⟩:=hx
      have hsr:=step_run g2 g3 hs
      have hends:=bland g2 g3
      refine⟨⟨⟨t0,M,G,g1,hsr.1,hsr.2⟩,?_,ends_step he hs⟩,left_step he hs⟩
      rw[last_step hends hs,hl]
def ptL (t:Tb) (n:Nat):Nat→List Rat
 |0=>List.replicate n 0
 |k+1=>if t.bv k<n then(ptL t n k).set (t.bv k).toNat (t.bd k) else ptL t n k
def prL (t:Tb) (n m:Nat):Nat→List Rat
 |0=>List.replicate m 0
 |k+1=>if(n:Int)≤t.fv k∧t.fv k<n+m then(prL t n m k).set (t.fv k - n).toNat (-(t.cs k)) else prL t n m k
theorem ptL_len {t:Tb} {n:Nat}:∀{k:Nat},(ptL t n k).length=n
 |0=>by simp[ptL]
 |k+1=>by
  have:=@ptL_len t n k
  unfold ptL
  split
  ·rw[List.length_set,this]
  ·exact this
theorem prL_len {t:Tb} {n m:Nat}:∀{k:Nat},(prL t n m k).length=m
 |0=>by simp[prL]
 |k+1=>by
  have:=@prL_len t n m k
  unfold prL
  split
  ·rw[List.length_set,this]
  ·exact this
def r403:OCtr:=tabCtr 68 Unit .nil (fun _ _ t _=>∀v∈t.basic,0≤v) (fun n m t _=> .row sF (fL (ptL t n.toNat m.toNat))) (fun _ _ t _=>t)
def Λ403 (n m:Int) (t:Tb):Nat→LoopAnn
 |3=> .inv Int (fun i=>⟨[(0,.ptr 0 0 10),(3,.ow 5 n.toNat 3),(14,.ow 3 t.basic.length 1),(15,.si .i64 t.basic.length),(16,.si .i64 i)],(encT n m t).sto++[.row sF (fL (ptL t n.toNat i.toNat)) 58 false]⟩)
   (fun s=>iS s 16) (fun i=>0≤i∧i≤m) (fun i=>(m - i).toNat) fun _ _=> .look
 |_=> .look
theorem h403:HoldsO Try.prog r403:=by
 refine conO (L:=[]) (W:=[r413]) r403 F403 (fun a=>Λ403 a.1.n a.1.m a.1.t) (by simpa using h413) (by simp) (by kernel_rfl) (fun _=>rfl) (by kernel_rfl) ?_
 rintro⟨x,u⟩ ⟨n,m,t,hx,hok,hd⟩
 simp only at hx hd
 subst hx
 refine vcOf (let z0:=(encT n m t).n;let z1:=SV.ptr 0 0 10;let z2:=z0.toNat;let z3:=SV.ow 5 z2 3;let z4:=SV.ow 3 (encT n m t).k3 1;let z5:=(encT n m t).t;let z6:=z5.basic.length;let z7:=SV.ow 3 z6 1;let z8:=SV.si .i64 (↑z6:Int);let z9:=(encT n m t).m;let z10:=SId.i .u32;let z11:=encT z0 z9 z5;let z12:=SObj.cells [SV.si .i64 z11.n,SV.si .i64 z11.m,SV.ow 1 z11.k0 1,SV.ow 2 z11.k1 3,SV.row sF z11.cost,SV.sb z11.v.fst,SV.row z10 z11.v.snd.fst,SV.row z10 z11.v.snd.snd,SV.ow 3 z11.k3 1,SV.ow 4 z11.k4 1] 127 10 false;let z13:=SObj.row sF.lst z11.coef 60 false;let z14:=SObj.row sF z11.bound 58 false;let z15:=SId.i .i64;let z16:=z11.basic;let z17:=SObj.row z15 z16 3 false;let z18:=SObj.row z15 z11.free 3 false;let z19:=z11.bound.length;((0:Int)≤z0∧z0≤(1000:Int))∧(((z1.same z1∧z3.same z3∧z4.same z7∧(SV.si .i64 (↑(encT n m t).k3:Int)).same z8∧(SV.il .i64 0).same (SV.si .i64 0)∧True)∧(SObj.cells [SV.si .i64 z0,SV.si .i64 z9,SV.ow 1 (encT n m t).k0 1,SV.ow 2 (encT n m t).k1 3,SV.row sF (encT n m t).cost,SV.sb (encT n m t).v.fst,SV.row z10 (encT n m t).v.snd.fst,SV.row z10 (encT n m t).v.snd.snd,z4,SV.ow 4 (encT n m t).k4 1] 127 10 false).same z12∧(SObj.row sF.lst (encT n m t).coef 60 false).same z13∧(SObj.row sF (encT n m t).bound 58 false).same z14∧(SObj.row z15 (encT n m t).basic 3 false).same z17∧(SObj.row z15 (encT n m t).free 3 false).same z18∧(SObj.row sF (fL (List.replicate z2 (0:Rat))) 58 false).same (SObj.row sF (fL (ptL z5 z2 0)) 58 false)∧True)∧(0:Int)≤(0:Int)∧(0:Int)≤z9)∧∀(x:Int),let z20:=decide (x<(↑z6:Int));let z21:=nthD z16 x.toNat (0:Int);let z22:=decide (z21<z11.n);let z23:=fL (ptL z5 z2 x.toNat);let z24:=x+(1:Int);let z25:=SV.si .i64 z24;let z26:=nthD z11.bound x.toNat sF.dflt;let z27:=SObj.row sF (fL (ptL z5 z2 z24.toNat)) 58 false;(0:Int)≤x∧x≤z9→(z20=true→z6=z16.length∧(0:Int)≤x∧x<(↑z16.length:Int)∧z6=z16.length∧x.toNat<z16.length∧(z22=true→z11.k1=z19∧(0:Int)≤x∧x<(↑z19:Int)∧z11.k1=z19∧x.toNat<z19∧z2=z23.length∧(0:Int)≤z21∧z21<(↑z23.length:Int)∧z2=z23.length∧z21.toNat<z23.length∧inR .i64 z24∧((z1.same z1∧z3.same z3∧z7.same z7∧z8.same z8∧z25.same z25∧True)∧z12.same z12∧z13.same z13∧z14.same z14∧z17.same z17∧z18.same z18∧(SObj.row sF (z23.set z21.toNat (z26.fst,z26.snd.fst,z26.snd.snd)) 58 false).same z27∧True)∧((0:Int)≤z24∧z24≤z9)∧(z9 - z24).toNat<(z9 - x).toNat)∧(z22=false→inR .i64 z24∧((z1.same z1∧z3.same z3∧z7.same z7∧z8.same z8∧z25.same z25∧True)∧z12.same z12∧z13.same z13∧z14.same z14∧z17.same z17∧z18.same z18∧(SObj.row sF z23 58 false).same z27∧True)∧((0:Int)≤z24∧z24≤z9)∧(z9 - z24).toNat<(z9 - x).toNat))∧(z20=false→z2=z23.length∧(SV.row sF z23).same (SV.row sF (fL (ptL z5 z2 z9.toNat)))∧z12.same z12∧z13.same z13∧z14.same z14∧z17.same z17∧z18.same z18∧True)) (by kernel_rfl) ?_
 simp only[encT_t]
 try simp only[encT]
 simp only[vcs]
 obtain⟨⟨⟨n0,n1⟩,m0,m1⟩,hw,hz⟩:=id hok
 have hbb:=hw.basic
 have hbl:=hw.bound
 have hfb:=@fL_len t.bound
 have hbv:∀k:Nat,nthD t.basic k 0=t.bv k:=fun k=>rfl
 have hrow:∀{x y:List Fra},x=y→(SObj.row sF x 58 false).same (SObj.row sF y 58 false):=by rintro _ _ rfl;rfl
 refine⟨⟨n0,n1⟩,⟨hrow rfl,by omega,by omega⟩,?_⟩
 rintro i ⟨i0,i1⟩
 have hpl:=@ptL_len t n.toNat i.toNat
 have hfp:=@fL_len (ptL t n.toNat i.toNat)
 refine⟨fun hi=>?_,fun hi=>⟨by omega,by rw[show i.toNat=m.toNat by omega]⟩⟩
 have hv:=hd _ (bv_mem hw (show i.toNat<m.toNat by omega))
 have hB:nthD (fL t.bound) i.toNat sF.dflt=frE (t.bd i.toNat):=fL_nth (by omega)
 have hs:ptL t n.toNat (i+1).toNat=if t.bv i.toNat<n.toNat then(ptL t n.toNat i.toNat).set (t.bv i.toNat).toNat (t.bd i.toNat) else ptL t n.toNat i.toNat:=by
  rw[show(i+1).toNat=i.toNat+1 by omega]
  rfl
 simp only[hbv,hB,fra_eta,hs]
 refine⟨i0,hi,by omega,fun hlt=>⟨by omega,i0,by omega,by omega,by omega,by omega,hv,by omega,by omega,by omega,by omega,hrow ?_,by omega,by omega⟩,fun hlt=>⟨by omega,hrow ?_,by omega,by omega⟩⟩
 ·rw[fL_set,if_pos (by omega)]
 ·rw[if_neg (by omega)]
def r405:OCtr:=tabCtr 70 Unit .nil (fun _ _ t _=>True) (fun n m t _=> .row sF (fL (prL t n.toNat m.toNat n.toNat))) (fun _ _ t _=>t)
def Λ405 (n m:Int) (t:Tb):Nat→LoopAnn
 |3=> .inv Int (fun i=>⟨[(0,.ptr 0 0 10),(3,.ow 5 m.toNat 3),(14,.ow 4 t.free.length 1),(15,.si .i64 t.free.length),(16,.si .i64 i)],(encT n m t).sto++[.row sF (fL (prL t n.toNat m.toNat i.toNat)) 58 false]⟩)
   (fun s=>iS s 16) (fun i=>0≤i∧i≤n) (fun i=>(n - i).toNat) fun _ _=> .look
 |_=> .look
theorem h405:HoldsO Try.prog r405:=by
 refine conO (L:=[r130]) (W:=[r413]) r405 F405 (fun a=>Λ405 a.1.n a.1.m a.1.t) (by simpa using h413) (by simpa using h130) (by kernel_rfl) (fun _=>rfl) (by kernel_rfl) ?_
 rintro⟨x,u⟩ ⟨n,m,t,hx,hok,hd⟩
 simp only at hx hd
 subst hx
 refine vcOf (let z0:=(encT n m t).m;let z1:=SV.ptr 0 0 10;let z2:=z0.toNat;let z3:=SV.ow 5 z2 3;let z4:=SV.ow 4 (encT n m t).k4 1;let z5:=(encT n m t).t;let z6:=z5.free.length;let z7:=SV.ow 4 z6 1;let z8:=SV.si .i64 (↑z6:Int);let z9:=(encT n m t).n;let z10:=SId.i .u32;let z11:=encT z9 z0 z5;let z12:=SObj.cells [SV.si .i64 z11.n,SV.si .i64 z11.m,SV.ow 1 z11.k0 1,SV.ow 2 z11.k1 3,SV.row sF z11.cost,SV.sb z11.v.fst,SV.row z10 z11.v.snd.fst,SV.row z10 z11.v.snd.snd,SV.ow 3 z11.k3 1,SV.ow 4 z11.k4 1] 127 10 false;let z13:=SObj.row sF.lst z11.coef 60 false;let z14:=SObj.row sF z11.bound 58 false;let z15:=SId.i .i64;let z16:=SObj.row z15 z11.basic 3 false;let z17:=z11.free;let z18:=SObj.row z15 z17 3 false;let z19:=z9.toNat;((0:Int)≤z0∧z0≤(1000:Int))∧(((z1.same z1∧z3.same z3∧z4.same z7∧(SV.si .i64 (↑(encT n m t).k4:Int)).same z8∧(SV.il .i64 0).same (SV.si .i64 0)∧True)∧(SObj.cells [SV.si .i64 z9,SV.si .i64 z0,SV.ow 1 (encT n m t).k0 1,SV.ow 2 (encT n m t).k1 3,SV.row sF (encT n m t).cost,SV.sb (encT n m t).v.fst,SV.row z10 (encT n m t).v.snd.fst,SV.row z10 (encT n m t).v.snd.snd,SV.ow 3 (encT n m t).k3 1,z4] 127 10 false).same z12∧(SObj.row sF.lst (encT n m t).coef 60 false).same z13∧(SObj.row sF (encT n m t).bound 58 false).same z14∧(SObj.row z15 (encT n m t).basic 3 false).same z16∧(SObj.row z15 (encT n m t).free 3 false).same z18∧(SObj.row sF (fL (List.replicate z2 (0:Rat))) 58 false).same (SObj.row sF (fL (prL z5 z19 z2 0)) 58 false)∧True)∧(0:Int)≤(0:Int)∧(0:Int)≤z9)∧∀(x:Int),let z20:=decide (x<(↑z6:Int));let z21:=nthD z17 x.toNat (0:Int);let z22:=decide (z11.n≤z21);let z23:=decide (z21<z11.n+z11.m);let z24:=z21 - z11.n;let z25:=nthD z11.cost x.toNat sF.dflt;let z26:=(z25.fst,z25.snd.fst,z25.snd.snd);let z27:=fL (prL z5 z19 z2 x.toNat);let z28:=x+(1:Int);let z29:=SV.si .i64 z28;let z30:=(frE (-valF z26)).snd;let z31:=SObj.row sF (fL (prL z5 z19 z2 z28.toNat)) 58 false;(0:Int)≤x∧x≤z9→(z20=true→z6=z17.length∧(0:Int)≤x∧x<(↑z17.length:Int)∧z6=z17.length∧x.toNat<z17.length∧(z22=true→inR .i64 (z11.n+z11.m)∧(z23=true→inR .i64 z24∧(0:Int)≤x∧x<(↑z11.cost.length:Int)∧x.toNat<z11.cost.length∧isF z26∧z2=z27.length∧(0:Int)≤z24∧z24<(↑z27.length:Int)∧z2=z27.length∧z24.toNat<z27.length∧inR .i64 z28∧((z1.same z1∧z3.same z3∧z7.same z7∧z8.same z8∧z29.same z29∧True)∧z12.same z12∧z13.same z13∧z14.same z14∧z16.same z16∧z18.same z18∧(SObj.row sF (z27.set z24.toNat ((frE (-valF z26)).fst,z30.fst,z30.snd)) 58 false).same z31∧True)∧((0:Int)≤z28∧z28≤z9)∧(z9 - z28).toNat<(z9 - x).toNat)∧(z23=false→inR .i64 z28∧((z1.same z1∧z3.same z3∧z7.same z7∧z8.same z8∧z29.same z29∧True)∧z12.same z12∧z13.same z13∧z14.same z14∧z16.same z16∧z18.same z18∧(SObj.row sF z27 58 false).same z31∧True)∧((0:Int)≤z28∧z28≤z9)∧(z9 - z28).toNat<(z9 - x).toNat))∧(z22=false→inR .i64 z28∧((z1.same z1∧z3.same z3∧z7.same z7∧z8.same z8∧z29.same z29∧True)∧z12.same z12∧z13.same z13∧z14.same z14∧z16.same z16∧z18.same z18∧(SObj.row sF z27 58 false).same z31∧True)∧((0:Int)≤z28∧z28≤z9)∧(z9 - z28).toNat<(z9 - x).toNat))∧(z20=false→z2=z27.length∧(SV.row sF z27).same (SV.row sF (fL (prL z5 z19 z2 z19)))∧z12.same z12∧z13.same z13∧z14.same z14∧z16.same z16∧z18.same z18∧True)) (by kernel_rfl) ?_
 simp only[encT_t]
 try simp only[encT]
 simp only[vcs]
 obtain⟨⟨⟨n0,n1⟩,m0,m1⟩,hw,hz⟩:=id hok
 have hfl:=hw.free
 have hcl:=hw.cost
 have hfc:=@fL_len t.cost
 have hfv:∀k:Nat,nthD t.free k 0=t.fv k:=fun k=>rfl
 have hrow:∀{x y:List Fra},x=y→(SObj.row sF x 58 false).same (SObj.row sF y 58 false):=by rintro _ _ rfl;rfl
 refine⟨⟨m0,m1⟩,⟨hrow rfl,by omega,by omega⟩,?_⟩
 rintro i ⟨i0,i1⟩
 have hpl:=@prL_len t n.toNat m.toNat i.toNat
 have hfp:=@fL_len (prL t n.toNat m.toNat i.toNat)
 refine⟨fun hi=>?_,fun hi=>⟨by omega,by rw[show i.toNat=n.toNat by omega]⟩⟩
 have hC:nthD (fL t.cost) i.toNat sF.dflt=frE (t.cs i.toNat):=fL_nth (by omega)
 have hs:prL t n.toNat m.toNat (i+1).toNat=if(n.toNat:Int)≤t.fv i.toNat∧t.fv i.toNat<n.toNat+m.toNat then(prL t n.toNat m.toNat i.toNat).set (t.fv i.toNat - n.toNat).toNat (-(t.cs i.toNat)) else prL t n.toNat m.toNat i.toNat:=by
  rw[show(i+1).toNat=i.toNat+1 by omega]
  rfl
 simp only[hfv,hC,fra_eta,hs,valF_frE]
 refine⟨i0,hi,by omega,fun h1=>⟨by omega,fun h2=>⟨by omega,i0,by omega,by omega,isF_of (hok.cs (by omega)) (by omega),by omega,by omega,by omega,by omega,by omega,by omega,hrow ?_,by omega,by omega⟩,fun h2=>⟨by omega,hrow ?_,by omega,by omega⟩⟩,fun h1=>⟨by omega,hrow ?_,by omega,by omega⟩⟩
 ·rw[fL_set,if_pos (by omega),show(n.toNat:Int)=n by omega]
 ·rw[if_neg (by omega)]
 ·rw[if_neg (by omega)]
@[reducible] def sR:SId:=.pair (.lst sF) sF
abbrev Prg:=List Fra×List (List Fra×Fra)
def codQ:Cod Prg where
 put a:=.agg [.row sF a.1,.row sR a.2]
 dec
  | .agg [r,v]=>match decRow sF r,decRow sR v with
   |some c,some v=>some (c,v)
   |_,_=>none
  |_=>none
 ok v a h:=by
  split at h
  ·split at h
   ·rename_i h1 h2
    simp only[Option.some.injEq] at h;subst h
    simp only[SV.g,gL,decRow_ok h1,decRow_ok h2]
   ·cases h
  ·cases h
 inj a b h:=by
  obtain⟨c,v⟩:=a
  obtain⟨c',v'⟩:=b
  simp only[SV.g,gL,AV.agg.injEq,List.cons.injEq,and_true,AV.sl.injEq] at h
  have m1:=flatA_inj sF h.1.1 h.1.2
  have m2:=flatA_inj sR h.2.1 h.2.2
  rw[m1,m2]
def digS (x:Fra):Prop:=(Dig x.2.1∧Dig x.2.2)∧x.2.1.length≤1000000∧x.2.2.length≤1000000
def r406:SCtr:=⟨78,List Fra,.one (codR sF),fun l=>(show List Fra from l).length≤1000∧∀x∈(show List Fra from l),digS x,fun l=> .sb ((show List Fra from l).all okF)⟩
def Λ406 (l:List Fra):Nat→LoopAnn
 |2=> .inv Int (fun i=>⟨[(5,.row sF l),(6,.si .i64 l.length),(7,.si .i64 i)],[]⟩)
   (fun s=>iS s 7) (fun i=>(0≤i∧i≤l.length)∧(l.take i.toNat).all okF=true) (fun i=>(l.length - i).toNat) fun _ _=> .look
 |_=> .look
theorem h406:Holds Try.prog r406:=by
 refine con (L:=[r407]) r406 F406 Λ406 (OwnOK.none _) (by simpa using h407) (by kernel_rfl) (by kernel_rfl) (fun _=>rfl) ?_
 rintro(l:List Fra) ⟨(hl:l.length≤1000),(hx:∀x∈l,digS x)⟩
 refine vcOf (let z0:=(↑l.length:Int);let z1:=SV.si .i64 z0;((((SV.row sF l).same (SV.row sF l)∧(SV.si .i64 (↑l.length:Int)).same z1∧(SV.il .i64 0).same (SV.si .i64 0)∧True)∧True)∧((0:Int)≤(0:Int)∧(0:Int)≤z0)∧true=true)∧∀(x:Int),let z2:=nthD l x.toNat sF.dflt;let z3:=!okF (z2.fst,z2.snd.fst,z2.snd.snd);let z4:=x+(1:Int);let z5:=SV.si .i64 z4;((0:Int)≤x∧x≤z0)∧(List.take x.toNat l).all okF=true→(decide (x<z0)=true→(0:Int)≤x∧x<(↑l.length:Int)∧x.toNat<l.length∧((Dig z2.snd.fst∧Dig z2.snd.snd)∧List.length z2.snd.fst≤1000000∧List.length z2.snd.snd≤1000000)∧(z3=true→(SV.bl false).same (SV.sb (l.all okF)))∧(z3=false→inR .i64 z4∧(((SV.row sF l).same (SV.row sF l)∧z1.same z1∧z5.same z5∧True)∧True)∧(((0:Int)≤z4∧z4≤z0)∧(List.take z4.toNat l).all okF=true)∧(z0 - z4).toNat<(z0 - x).toNat))∧(decide (x<z0)=false→(SV.bl true).same (SV.sb (l.all okF)))) (by kernel_rfl) ?_
 simp only[vcs]
 refine⟨⟨by omega,by omega⟩,?_⟩
 rintro i ⟨⟨i0,i1⟩,hall⟩
 refine⟨fun hi=>?_,fun hi=>?_⟩
 ·have hm:=nthD_mem (d:=sF.dflt) (show i.toNat<l.length by omega)
  have et:=take_nth (d:=sF.dflt) i0 hi
  have h1:=hx _ hm
  have h2:okF ((nthD l i.toNat sF.dflt).1,(nthD l i.toNat sF.dflt).2.1,(nthD l i.toNat sF.dflt).2.2)=okF (nthD l i.toNat sF.dflt):=rfl
  rw[h2]
  refine⟨i0,hi,by omega,⟨h1.1,h1.2.1,h1.2.2⟩,fun hf=>?_,fun ht=>⟨by omega,⟨⟨by omega,by omega⟩,?_⟩,by omega⟩⟩
  ·symm
   rw[Bool.eq_false_iff]
   intro ha
   rw[List.all_eq_true.1 ha _ hm] at hf
   cases hf
  ·rw[et,List.all_append,hall]
   simp[ht]
 ·rw[show i.toNat=l.length by omega,List.take_length] at hall
  exact hall.symm
def r398:SCtr:=⟨63,Prg,.one codQ,fun a=>(a.1.length≤160∧a.2.length≤40)∧(∀x∈a.1,digS x∧okF x=true)∧∀r∈a.2,r.1.length=a.1.length∧(∀x∈r.1,digS x∧okF x=true)∧digS r.2∧okF r.2=true,fun _=> .si .i64 0⟩
def Λ398 (a:Prg):Nat→LoopAnn
 |6=> .inv Int (fun i=>⟨[(1,.ptr 0 0 2),(20,.row sR a.2),(21,.si .i64 a.2.length),(22,.si .i64 i)],[.cells [.row sF a.1,.row sR a.2] 88 2 false]⟩)
   (fun s=>iS s 22) (fun i=>0≤i∧i≤a.2.length) (fun i=>(a.2.length - i).toNat) fun _ _=> .look
 |_=> .look
theorem h398:Holds Try.prog r398:=by
 refine con (L:=[r406,r407]) r398 F398 Λ398 (OwnOK.none _) (by simpa using⟨h406,h407⟩) (by kernel_rfl) (by kernel_rfl) (fun _=>rfl) ?_
 rintro⟨g,rs⟩ ⟨⟨hl1,hl2⟩,hg,hr⟩
 simp only at hl1 hl2 hg hr
 refine vcOf (let z0:=decide ((160:Int)<(↑g.length:Int));let z1:=SV.si .i64 0;let z2:=(↑rs.length:Int);let z3:=decide ((40:Int)<z2);let z4:=SV.ptr 0 0 2;let z5:=SV.row sR rs;let z6:=(↑rs.length:Int);let z7:=SV.si .i64 z6;let z8:=SObj.cells [SV.row sF g,z5] 88 2 false;(z0=true→(SV.il .i64 3).same z1)∧(z0=false→(z3=true→(SV.il .i64 3).same z1)∧(z3=false→(g.length≤1000∧∀(x:Fra),x∈g→digS x)∧((!g.all okF)=true→(SV.il .i64 2).same z1)∧((!g.all okF)=false→(((z4.same z4∧z5.same z5∧(SV.si .i64 z2).same z7∧(SV.il .i64 0).same z1∧True)∧z8.same z8∧True)∧(0:Int)≤(0:Int)∧(0:Int)≤z6)∧∀(x:Int),let z9:=nthD rs x.toNat sR.dflt;let z10:=decide ((↑(List.length z9.fst):Int)≠(↑g.length:Int));let z11:=!List.all z9.fst okF;let z12:=z9.snd.snd.fst;let z13:=z9.snd.snd.snd;let z14:=!okF (z9.snd.fst,z12,z13);let z15:=x+(1:Int);let z16:=SV.si .i64 z15;(0:Int)≤x∧x≤z6→(decide (x<z6)=true→(0:Int)≤x∧x<z2∧x.toNat<rs.length∧(z10=true→(SV.il .i64 2).same z1)∧(z10=false→(List.length z9.fst≤1000∧∀(x:Fra),x∈z9.fst→digS x)∧(z11=true→(SV.il .i64 2).same z1)∧(z11=false→((Dig z12∧Dig z13)∧List.length z12≤1000000∧List.length z13≤1000000)∧(z14=true→(SV.il .i64 2).same z1)∧(z14=false→inR .i64 z15∧((z4.same z4∧z5.same z5∧z7.same z7∧z16.same z16∧True)∧z8.same z8∧True)∧((0:Int)≤z15∧z15≤z6)∧(z6 - z15).toNat<(z6 - x).toNat))))∧(decide (x<z6)=false→(SV.il .i64 0).same z1))))) (by kernel_rfl) ?_
 simp only[vcs]
 have hall:∀{l:List Fra},(∀x∈l,digS x∧okF x=true)→l.all okF=true:=fun h=>List.all_eq_true.2 fun x hx=>(h x hx).2
 refine⟨fun h=>by omega,fun _=>⟨fun h=>by omega,fun _=>⟨⟨by omega,fun x hx=>(hg x hx).1⟩,fun h=>(by rw[hall hg] at h;cases h),fun _=>⟨⟨by omega,by omega⟩,?_⟩⟩⟩⟩
 rintro i ⟨i0,i1⟩
 refine⟨fun hi=>?_,fun _=>trivial⟩
 have hm:=hr _ (nthD_mem (d:=sR.dflt) (show i.toNat<rs.length by omega))
 have h2:okF ((nthD rs i.toNat sR.dflt).2.1,(nthD rs i.toNat sR.dflt).2.2.1,(nthD rs i.toNat sR.dflt).2.2.2)=okF (nthD rs i.toNat sR.dflt).2:=rfl
 rw[h2]
 refine⟨i0,hi,by omega,fun h=>absurd (by rw[hm.1]) h,fun _=>⟨⟨by have:=hm.1;omega,fun x hx=>(hm.2.1 x hx).1⟩,fun h=>?_,fun _=>⟨⟨hm.2.2.1.1,hm.2.2.1.2.1,hm.2.2.1.2.2⟩,fun h=>?_,fun _=>⟨by omega,⟨by omega,by omega⟩,by omega⟩⟩⟩⟩
 ·have:=hall hm.2.1
  rw[show List.all (nthD rs i.toNat sR.dflt).1 okF=true from this] at h
  cases h
 ·rw[hm.2.2.2] at h
  cases h
def tab0 (a:Prg):TabF:=⟨a.1.length,a.2.length,a.2.length,a.2.length,a.2.length,a.1.length,a.2.map (·.1),a.2.map (·.2),List.replicate a.1.length (frE 0),frE 0,(uptoI a.2.length).map fun i=>a.1.length+i,uptoI a.1.length⟩
def r399:OCtr where
 f:=64
 α:=Prg
 put a:=[codQ.put a]
 st _:=[]
 dec v o:=match v,o with
  |[v],[]=>codQ.dec v
  |_,_=>none
 ok v o a h:=by
  split at h
  ·exact⟨by simp only[gL,codQ.ok _ _ h],rfl⟩
  ·cases h
 inj a b h _:=codQ.inj a b (by simpa[gL] using h)
 dom a:=a.1.length≤1000∧a.2.length≤1000∧∀r∈a.2,r.1.length≤1000
 res a:=.ptr 0 0 10
 out a:=(tab0 a).sto
def st399 (a:Prg) (k0 k1 k2 k3 k4:Nat) (co:List (List Fra)) (bo ct:List Fra) (ba fr:List Int):SStore:=
 [.cells [.row sF a.1,.row sR a.2] 88 2 false,.cells [.si .i64 a.1.length,.si .i64 a.2.length,.ow 2 k0 1,.ow 3 k1 3,.ow 4 k2 3,.sb (frE 0).1,.row (.i .u32) (frE 0).2.1,.row (.i .u32) (frE 0).2.2,.ow 5 k3 1,.ow 6 k4 1] 127 10 false,
  .row (.lst sF) co 60 false,.row sF bo 58 false,.row sF ct 58 true,.row (.i .i64) ba 3 false,.row (.i .i64) fr 3 false]
def Λ399 (a:Prg):Nat→LoopAnn
 |3=> .inv Int (fun j=>⟨[(1,.ptr 0 0 2),(3,.ptr 1 0 10),(18,.si .i64 a.1.length),(19,.si .i64 j)],st399 a 0 0 j.toNat 0 j.toNat [] [] (List.replicate j.toNat (frE 0)) [] (uptoI j.toNat)⟩)
   (fun s=>iS s 19) (fun j=>0≤j∧j≤a.1.length) (fun j=>(a.1.length - j).toNat) fun _ _=> .look
 |9=> .inv Int (fun i=>⟨[(3,.ptr 1 0 10),(44,.row sR a.2),(45,.si .i64 a.2.length),(46,.si .i64 i)],st399 a i.toNat i.toNat a.1.length i.toNat a.1.length ((a.2.take i.toNat).map (·.1)) ((a.2.take i.toNat).map (·.2)) (List.replicate a.1.length (frE 0)) ((uptoI i.toNat).map fun i=>a.1.length+i) (uptoI a.1.length)⟩)
   (fun s=>iS s 46) (fun i=>0≤i∧i≤a.2.length) (fun i=>(a.2.length - i).toNat) fun _ _=> .look
 |_=> .look
theorem h399:HoldsO Try.prog r399:=by
 refine conN (L:=[r94]) (W:=[]) r399 F399 (fun _=>none) Λ399 (by simp) (by simpa using h94) (by kernel_rfl) (fun _=>rfl) (fun _=>rfl) (by kernel_rfl) ?_
 rintro⟨g,rs⟩ ⟨hg,hr,hrr⟩
 simp only at hg hr hrr
 refine vcOf (let z0:=SV.ptr 0 0 2;let z1:=SV.ptr 1 0 10;let z2:=SV.si .i64 (↑g.length:Int);let z3:=(↑g.length:Int);let z4:=SV.si .i64 z3;let z5:=SV.row sR rs;let z6:=SObj.cells [SV.row sF g,z5] 88 2 false;let z7:=SV.si .i64 (↑rs.length:Int);let z8:=SV.ow 2 0 1;let z9:=SV.ow 3 0 3;let z10:=SV.ow 4 0 3;let z11:=frE (IntCast.intCast (0:Int));let z12:=SId.i .u32;let z13:=SV.ow 5 0 1;let z14:=[z13,SV.ow 6 0 1];let z15:=(↑rs.length:Int);let z16:=SV.si .i64 z15;let z17:=frE (0:Rat);let z18:=SV.sb z17.fst;let z19:=SV.row z12 z17.snd.fst;let z20:=SV.row z12 z17.snd.snd;let z21:=SId.b.pair (z12.lst.pair z12.lst);let z22:=SObj.row sF.lst [] 60 false;let z23:=SObj.row sF [] 58 false;let z24:=SId.i .i64;let z25:=SObj.row z24 [] 3 false;let z26:=SV.ow 4 g.length 3;let z27:=[SV.ow 6 g.length 1];let z28:=List.replicate g.length z17;let z29:=SObj.row sF z28 58 true;let z30:=SObj.row z24 (uptoI g.length) 3 false;let z31:=SV.ptr 0 0 10;let z32:=tab0 (g,rs);((-9223372036854775808:Int)≤(0:Int)∧(0:Int)≤(9223372036854775807:Int))∧(((z0.same z0∧z1.same z1∧z2.same z4∧(SV.il .i64 0).same (SV.si .i64 0)∧True)∧z6.same z6∧(SObj.cells (z2::z7::z8::z9::z10::SV.sb z11.fst::SV.row z12 z11.snd.fst::SV.row z12 z11.snd.snd::z14) 127 10 false).same (SObj.cells (z4::z16::z8::z9::z10::z18::z19::z20::z14) 127 10 false)∧(SObj.row z21.lst [] 60 false).same z22∧(SObj.row z21 [] 58 false).same z23∧(SObj.row z21 [] 58 true).same (SObj.row sF [] 58 true)∧z25.same z25∧z25.same (SObj.row z24 (uptoI 0) 3 false)∧True)∧(0:Int)≤(0:Int)∧(0:Int)≤z3)∧∀(x:Int),let z33:=uptoI x.toNat;let z34:=z33.length+1;let z35:=List.replicate x.toNat z17;let z36:=z35.length+1;let z37:=x+(1:Int);let z38:=SV.si .i64 z37;let z39:=z35++[(z11.fst,z11.snd.fst,z11.snd.snd)];let z40:=z37.toNat;(0:Int)≤x∧x≤z3→(decide (x<z3)=true→1=1∧x.toNat=z33.length∧z34*8≤140737488355328∧z34≤1000000000000∧((-9223372036854775808:Int)≤(0:Int)∧(0:Int)≤(9223372036854775807:Int))∧1=1∧x.toNat=z35.length∧z36*56≤140737488355328∧z36≤1000000000000∧inR .i64 z37∧((z0.same z0∧z1.same z1∧z4.same z4∧z38.same z38∧True)∧z6.same z6∧(SObj.cells [z4,z16,z8,z9,SV.ow 4 z39.length 3,z18,z19,z20,z13,SV.ow 6 (z33++[x]).length 1] 127 10 false).same (SObj.cells [z4,z16,z8,z9,SV.ow 4 z40 3,z18,z19,z20,z13,SV.ow 6 z40 1] 127 10 false)∧z22.same z22∧z23.same z23∧(SObj.row z21 z39 58 true).same (SObj.row sF (List.replicate z40 z17) 58 true)∧z25.same z25∧(SObj.row z24 (z33++[x]) 3 false).same (SObj.row z24 (uptoI z40) 3 false)∧True)∧((0:Int)≤z37∧z37≤z3)∧(z3 - z37).toNat<(z3 - x).toNat)∧(decide (x<z3)=false→(((z1.same z1∧z5.same z5∧z7.same z16∧(SV.il .i64 0).same (SV.si .i64 0)∧True)∧z6.same z6∧(SObj.cells [z4,z16,z8,z9,SV.ow 4 x.toNat 3,z18,z19,z20,z13,SV.ow 6 x.toNat 1] 127 10 false).same (SObj.cells (z4::z16::z8::z9::z26::z18::z19::z20::z13::z27) 127 10 false)∧z22.same z22∧z23.same z23∧(SObj.row sF z35 58 true).same z29∧z25.same z25∧(SObj.row z24 z33 3 false).same z30∧True)∧(0:Int)≤(0:Int)∧(0:Int)≤z15)∧∀(x:Int),let z41:=nthD rs x.toNat sR.dflt;let z42:=List.length z41.fst;let z43:=List.take x.toNat rs;let z44:=List.map (fun x ↦x.fst) z43;let z45:=z44.length+1;let z46:=List.map (fun x ↦x.snd) z43;let z47:=z46.length+1;let z48:=List.map (fun i ↦(↑(g,rs).fst.length:Int)+i) (uptoI x.toNat);let z49:=z48.length+1;let z50:=x+(1:Int);let z51:=SV.si .i64 z50;let z52:=z46++[(z41.snd.fst,z41.snd.snd.fst,z41.snd.snd.snd)];let z53:=z50.toNat;(0:Int)≤x∧x≤z15→(decide (x<z15)=true→(0:Int)≤x∧x<(↑rs.length:Int)∧x.toNat<rs.length∧0=0∧(0+z42)*56≤140737488355328∧0+z42≤1000000000000∧x.toNat=z44.length∧z45*24≤140737488355328∧z45≤1000000000000∧z42=z42∧z42=z42∧z42=z42∧1=1∧x.toNat=z46.length∧z47*56≤140737488355328∧z47≤1000000000000∧inR .i64 (z3+x)∧1=1∧x.toNat=z48.length∧z49*8≤140737488355328∧z49≤1000000000000∧inR .i64 z50∧((z1.same z1∧z5.same z5∧z16.same z16∧z51.same z51∧True)∧z6.same z6∧(SObj.cells (z4::z16::SV.ow 2 z45 1::SV.ow 3 z52.length 3::z26::z18::z19::z20::SV.ow 5 (z48++[z3+x]).length 1::z27) 127 10 false).same (SObj.cells (z4::z16::SV.ow 2 z53 1::SV.ow 3 z53 3::z26::z18::z19::z20::SV.ow 5 z53 1::z27) 127 10 false)∧(SObj.row sF.lst (z44++[z41.fst]) 60 false).same (SObj.row sF.lst (List.map (fun x ↦x.fst) (List.take z53 rs)) 60 false)∧(SObj.row z21 z52 58 false).same (SObj.row sF (List.map (fun x ↦x.snd) (List.take z53 rs)) 58 false)∧z29.same z29∧(SObj.row z24 (z48++[z3+x]) 3 false).same (SObj.row z24 (List.map (fun i ↦(↑(g,rs).fst.length:Int)+i) (uptoI z53)) 3 false)∧z30.same z30∧True)∧((0:Int)≤z50∧z50≤z15)∧(z15 - z50).toNat<(z15 - x).toNat)∧(decide (x<z15)=false→g.length=z28.length∧z31.same z31∧(SObj.cells [z4,z16,SV.ow 1 x.toNat 1,SV.ow 2 x.toNat 3,SV.row sF z28,z18,z19,z20,SV.ow 3 x.toNat 1,SV.ow 4 g.length 1] 127 10 false).same (SObj.cells [SV.si .i64 z32.n,SV.si .i64 z32.m,SV.ow 1 z32.k0 1,SV.ow 2 z32.k1 3,SV.row sF z32.cost,SV.sb z32.v.fst,SV.row z12 z32.v.snd.fst,SV.row z12 z32.v.snd.snd,SV.ow 3 z32.k3 1,SV.ow 4 z32.k4 1] 127 10 false)∧(SObj.row sF.lst z44 60 false).same (SObj.row sF.lst z32.coef 60 false)∧(SObj.row sF z46 58 false).same (SObj.row sF z32.bound 58 false)∧(SObj.row z24 z48 3 false).same (SObj.row z24 z32.basic 3 false)∧z30.same (SObj.row z24 z32.free 3 false)∧True))) (by kernel_rfl) ?_
 simp only[vcs]
 have h0:(IntCast.intCast 0:Rat)=0:=rfl
 simp only[h0,fra_eta]
 have hcell:∀{a b a' b' c d e a2 b2 c2 d2 e2:Nat},a=a2→b=b2→c=c2→d=d2→e=e2→(SObj.cells [.si .i64 a',.si .i64 b',.ow 2 a 1,.ow 3 b 3,.ow 4 c 3,.sb (frE 0).1,.row (.i .u32) (frE 0).2.1,.row (.i .u32) (frE 0).2.2,.ow 5 d 1,.ow 6 e 1] 127 10 false).same
   (SObj.cells [.si .i64 a',.si .i64 b',.ow 2 a2 1,.ow 3 b2 3,.ow 4 c2 3,.sb (frE 0).1,.row (.i .u32) (frE 0).2.1,.row (.i .u32) (frE 0).2.2,.ow 5 d2 1,.ow 6 e2 1] 127 10 false):=by
  rintro _ _ _ _ _ _ _ _ _ _ _ _ rfl rfl rfl rfl rfl
  rfl
 have hrF:∀{x y:List Fra},x=y→(SObj.row sF x 58 false).same (SObj.row sF y 58 false):=by rintro _ _ rfl;rfl
 have hrT:∀{x y:List Fra},x=y→(SObj.row sF x 58 true).same (SObj.row sF y 58 true):=by rintro _ _ rfl;rfl
 have hrM:∀{x y:List (List Fra)},x=y→(SObj.row (.lst sF) x 60 false).same (SObj.row (.lst sF) y 60 false):=by rintro _ _ rfl;rfl
 have hrI:∀{x y:List Int},x=y→(SObj.row (.i .i64) x 3 false).same (SObj.row (.i .i64) y 3 false):=by rintro _ _ rfl;rfl
 have hcast:∀k:Nat,((k:Nat):Int).toNat=k:=fun k=>Int.toNat_natCast k
 refine⟨by omega,⟨⟨rfl,hrI rfl⟩,by omega,by omega⟩,?_⟩
 rintro j ⟨j0,j1⟩
 have l1:=@uptoI_len j.toNat
 have l2:(List.replicate j.toNat (frE 0)).length=j.toNat:=List.length_replicate
 refine⟨fun hj=>?_,fun hj=>?_⟩
 ·have e1:uptoI j.toNat++[j]=uptoI (j+1).toNat:=by
   rw[show(j+1).toNat=j.toNat+1 by omega,uptoI_succ,show((j.toNat:Nat):Int)=j by omega]
  have e2:List.replicate j.toNat (frE 0)++[frE 0]=List.replicate (j+1).toNat (frE 0):=by
   rw[show(j+1).toNat=j.toNat+1 by omega,List.replicate_succ']
  rw[e1,e2,uptoI_len,List.length_replicate]
  rw[uptoI_len,List.length_replicate]
  exact⟨rfl,by omega,by omega,by omega,rfl,by omega,by omega,by omega,⟨hcell rfl rfl rfl rfl rfl,hrT rfl,hrI rfl⟩,by omega,by omega⟩
 ·rw[show j.toNat=g.length by omega]
  refine⟨⟨⟨hcell rfl rfl rfl rfl rfl,hrT rfl,hrI rfl⟩,by omega,by omega⟩,?_⟩
  rintro i ⟨i0,i1⟩
  have l3:(List.map (fun x:List Fra×Fra=>x.1) (List.take i.toNat rs)).length=i.toNat:=by rw[List.length_map,List.length_take];omega
  have l4:(List.map (fun x:List Fra×Fra=>x.2) (List.take i.toNat rs)).length=i.toNat:=by rw[List.length_map,List.length_take];omega
  have l5:(List.map (fun i:Int=>(g.length:Int)+i) (uptoI i.toNat)).length=i.toNat:=by rw[List.length_map,uptoI_len]
  refine⟨fun hi=>?_,fun hi=>?_⟩
  ·have hm:=hrr _ (nthD_mem (d:=sR.dflt) (show i.toNat<rs.length by omega))
   have et:=take_nth (d:=sR.dflt) i0 hi
   have e1:List.map (fun x:List Fra×Fra=>x.1) (List.take i.toNat rs)++[(nthD rs i.toNat sR.dflt).1]=List.map (fun x:List Fra×Fra=>x.1) (List.take (i+1).toNat rs):=by rw[et,List.map_append];rfl
   have e2:List.map (fun x:List Fra×Fra=>x.2) (List.take i.toNat rs)++[(nthD rs i.toNat sR.dflt).2]=List.map (fun x:List Fra×Fra=>x.2) (List.take (i+1).toNat rs):=by rw[et,List.map_append];rfl
   have e3:List.map (fun i:Int=>(g.length:Int)+i) (uptoI i.toNat)++[(g.length:Int)+i]=List.map (fun i:Int=>(g.length:Int)+i) (uptoI (i+1).toNat):=by
    rw[show(i+1).toNat=i.toNat+1 by omega,uptoI_succ,List.map_append,show((i.toNat:Nat):Int)=i by omega];rfl
   have l6:(List.map (fun x:List Fra×Fra=>x.2) (List.take (i+1).toNat rs)).length=(i+1).toNat:=by rw[List.length_map,List.length_take];omega
   have l7:(List.map (fun i:Int=>(g.length:Int)+i) (uptoI (i+1).toNat)).length=(i+1).toNat:=by rw[List.length_map,uptoI_len]
   refine⟨i0,hi,by omega,by omega,by omega,l3.symm,by omega,by omega,l4.symm,by omega,by omega,by omega,l5.symm,by omega,by omega,by omega,⟨hcell ?_ ?_ rfl ?_ rfl,hrM e1,hrF e2,hrI e3⟩,by omega,by omega⟩
   ·omega
   ·exact(congrArg List.length e2).trans l6
   ·exact(congrArg List.length e3).trans l7
  ·have e:i.toNat=rs.length:=by omega
   rw[e,List.take_length]
   exact⟨List.length_replicate.symm,rfl,rfl,rfl,rfl,rfl⟩
def r400:OCtr:=tabCtr 65 Unit .nil (fun _ m t _=>feasT m.toNat t) (fun _ _ _ _=> .tup [.sc (.slice none 0 0),.sb true]) (fun _ _ t _=>t)
def Λ400 (n m:Int) (t:Tb):Nat→LoopAnn
 |3=> .inv Int (fun i=>⟨[(0,.ptr 0 0 10),(4,.si .i64 (-1)),(12,.ow 2 t.bound.length 3),(13,.si .i64 t.bound.length),(14,.si .i64 i)],(encT n m t).sto⟩)
   (fun s=>iS s 14) (fun i=>0≤i∧i≤m) (fun i=>(m - i).toNat) fun _ _=> .look
 |_=> .look
theorem h400:HoldsO Try.prog r400:=by
 refine conO (L:=[r99]) (W:=[]) r400 F400 (fun a=>Λ400 a.1.n a.1.m a.1.t) (by simp) (by simpa using h99) (by kernel_rfl) (fun _=>rfl) (by kernel_rfl) ?_
 rintro⟨x,u⟩ ⟨n,m,t,hx,hok,hd⟩
 simp only at hx hd
 subst hx
 refine vcOf (let z0:=SV.ptr 0 0 10;let z1:=SV.si .i64 (-1:Int);let z2:=SV.ow 2 (encT n m t).k1 3;let z3:=(encT n m t).t.bound.length;let z4:=SV.ow 2 z3 3;let z5:=SV.si .i64 (↑z3:Int);let z6:=(encT n m t).m;let z7:=SId.i .u32;let z8:=encT (encT n m t).n z6 (encT n m t).t;let z9:=SObj.cells [SV.si .i64 z8.n,SV.si .i64 z8.m,SV.ow 1 z8.k0 1,SV.ow 2 z8.k1 3,SV.row sF z8.cost,SV.sb z8.v.fst,SV.row z7 z8.v.snd.fst,SV.row z7 z8.v.snd.snd,SV.ow 3 z8.k3 1,SV.ow 4 z8.k4 1] 127 10 false;let z10:=SObj.row sF.lst z8.coef 60 false;let z11:=SObj.row sF z8.bound 58 false;let z12:=SId.i .i64;let z13:=SObj.row z12 z8.basic 3 false;let z14:=SObj.row z12 z8.free 3 false;let z15:=z8.bound.length;let z16:=SV.sc (Value.slice none 0 0);(((z0.same z0∧(SV.il .i64 (-1:Int)).same z1∧z2.same z4∧(SV.si .i64 (↑(encT n m t).k1:Int)).same z5∧(SV.il .i64 0).same (SV.si .i64 0)∧True)∧(SObj.cells [SV.si .i64 (encT n m t).n,SV.si .i64 z6,SV.ow 1 (encT n m t).k0 1,z2,SV.row sF (encT n m t).cost,SV.sb (encT n m t).v.fst,SV.row z7 (encT n m t).v.snd.fst,SV.row z7 (encT n m t).v.snd.snd,SV.ow 3 (encT n m t).k3 1,SV.ow 4 (encT n m t).k4 1] 127 10 false).same z9∧(SObj.row sF.lst (encT n m t).coef 60 false).same z10∧(SObj.row sF (encT n m t).bound 58 false).same z11∧(SObj.row z12 (encT n m t).basic 3 false).same z13∧(SObj.row z12 (encT n m t).free 3 false).same z14∧True)∧(0:Int)≤(0:Int)∧(0:Int)≤z6)∧∀(x:Int),let z17:=decide (x<(↑z3:Int));let z18:=nthD z8.bound x.toNat sF.dflt;let z19:=(z18.fst,z18.snd.fst,z18.snd.snd);let z20:=decide (sgnQ (valF z19)<(0:Int));let z21:=x+(1:Int);let z22:=SV.si .i64 z21;(0:Int)≤x∧x≤z6→(z17=true→z3=z15∧(0:Int)≤x∧x<(↑z15:Int)∧z3=z15∧x.toNat<z15∧isF z19∧(z20=true→(true=true→inR .i64 z21∧((z0.same z0∧(SV.si .i64 x).same z1∧z4.same z4∧z5.same z5∧z22.same z22∧True)∧z9.same z9∧z10.same z10∧z11.same z11∧z13.same z13∧z14.same z14∧True)∧((0:Int)≤z21∧z21≤z6)∧(z6 - z21).toNat<(z6 - x).toNat)∧(true=false→z8.k1=z15∧(0:Int)≤(-1:Int)∧(-1:Int)<(↑z15:Int)∧z8.k1=z15∧0<z15∧False))∧(z20=false→inR .i64 z21∧((z0.same z0∧z1.same z1∧z4.same z4∧z5.same z5∧z22.same z22∧True)∧z9.same z9∧z10.same z10∧z11.same z11∧z13.same z13∧z14.same z14∧True)∧((0:Int)≤z21∧z21≤z6)∧(z6 - z21).toNat<(z6 - x).toNat))∧(z17=false→(true=true→(SV.tup [z16,SV.bl true]).same (SV.tup [z16,SV.sb true])∧z9.same z9∧z10.same z10∧z11.same z11∧z13.same z13∧z14.same z14∧True)∧(true=false→False))) (by kernel_rfl) ?_
 simp only[encT_t]
 try simp only[encT]
 simp only[vcs]
 obtain⟨⟨⟨n0,n1⟩,m0,m1⟩,hw,hz⟩:=id hok
 have hbl:=hw.bound
 have hfb:=@fL_len t.bound
 refine⟨⟨by omega,by omega⟩,?_⟩
 rintro i ⟨i0,i1⟩
 refine⟨fun hi=>?_,fun hi=>⟨fun _=>trivial,fun h=>by cases h⟩⟩
 have hB:nthD (fL t.bound) i.toNat sF.dflt=frE (t.bd i.toNat):=fL_nth (by omega)
 have hpos:=hd i.toNat (by omega)
 have hneg:¬sgnQ (t.bd i.toNat)<0:=fun h=>by have:=sgnQ_neg.1 h;grind
 simp only[hB,fra_eta,valF_frE]
 exact⟨by omega,i0,by omega,by omega,by omega,isF_of (hok.bd (by omega)) (by omega),fun h=>absurd h hneg,fun _=>⟨by omega,by omega,by omega⟩⟩
def r401:OCtr:=tabCtr 66 (List Fra) (.one (codR sF)) (fun n m t a=>∃g:List Rat,a=fL g∧g.length=n.toNat∧t.free=uptoI n.toNat∧∀v∈t.basic,n≤v) (fun _ _ _ _=> .tup []) (fun _ _ t a=>{t with cost:=vL a,value:=0})
def Λ401 (n m:Int) (t:Tb) (a:List Fra):Nat→LoopAnn
 |3=> .inv Int (fun j=>⟨[(0,.ptr 0 0 10),(1,.row sF a),(4,.ow 5 n.toNat 3),(24,.ow 4 t.free.length 1),(25,.si .i64 t.free.length),(26,.si .i64 j)],(encT n m {t with value:=0}).sto++[.row sF (rowU a j.toNat (false,([],[]))) 58 true]⟩)
   (fun s=>iS s 26) (fun i=>0≤i∧i≤n) (fun i=>(n - i).toNat) fun _ _=> .look
 |10=> .inv Int (fun i=>⟨[(0,.ptr 0 0 10),(1,.row sF a),(4,.ow 5 n.toNat 3),(52,.ow 3 t.basic.length 1),(53,.si .i64 t.basic.length),(54,.si .i64 i)],(encT n m {t with value:=0}).sto++[.row sF a 58 true]⟩)
   (fun s=>iS s 54) (fun i=>0≤i∧i≤m) (fun i=>(m - i).toNat) fun _ _=> .look
 |_=> .look
theorem h401:HoldsO Try.prog r401:=by
 refine conO (L:=[r94]) (W:=[]) r401 F401 (fun a=>Λ401 a.1.n a.1.m a.1.t a.2) (by simp) (by simpa using h94) (by kernel_rfl) (fun _=>rfl) (by kernel_rfl) ?_
 rintro⟨x,a⟩ ⟨n,m,t,hx,hok,g,ha,hgl,hfr,hbs⟩
 simp only at hx ha
 subst hx ha
 refine vcOf (let z0:=(↑(encT n m t).k4:Int);let z1:=SV.ptr 0 0 10;let z2:=SV.row sF (fL g);let z3:=(encT n m t).n;let z4:=SV.ow 5 z3.toNat 3;let z5:=SV.ow 4 (encT n m t).k4 1;let z6:=(encT n m t).t;let z7:=z6.free.length;let z8:=SV.ow 4 z7 1;let z9:=SV.si .i64 (↑z7:Int);let z10:=(encT n m t).m;let z11:=frE (IntCast.intCast (0:Int));let z12:=SId.i .u32;let z13:=encT z3 z10 (Tb.mk z6.coef z6.bound z6.cost (0:Rat) z6.basic z6.free);let z14:=SV.si .i64 z13.n;let z15:=SV.si .i64 z13.m;let z16:=SV.ow 1 z13.k0 1;let z17:=SV.ow 2 z13.k1 3;let z18:=SV.ow 3 z13.k3 1;let z19:=[SV.sb z13.v.fst,SV.row z12 z13.v.snd.fst,SV.row z12 z13.v.snd.snd,z18,SV.ow 4 z13.k4 1];let z20:=SObj.cells (z14::z15::z16::z17::SV.row sF z13.cost::z19) 127 10 false;let z21:=SObj.row sF.lst z13.coef 60 false;let z22:=SObj.row sF z13.bound 58 false;let z23:=SId.i .i64;let z24:=z13.basic;let z25:=SObj.row z23 z24 3 false;let z26:=SObj.row z23 z13.free 3 false;let z27:=(false,[],[]);let z28:=z13.free.length;let z29:=(fL g).length;let z30:=z6.basic.length;let z31:=SV.ow 3 z30 1;let z32:=SV.si .i64 (↑z30:Int);let z33:=SObj.row sF (fL g) 58 true;let z34:=encT z3 z10 (Tb.mk z6.coef z6.bound (vL (fL g)) (0:Rat) z6.basic z6.free);((-9223372036854775808:Int)≤(0:Int)∧(0:Int)≤(9223372036854775807:Int))∧(0:Int)≤z0∧z0≤z0∧z0*(56:Int)≤(140737488355328:Int)∧z0≤(1000000000000:Int)∧(((z1.same z1∧z2.same z2∧(SV.ow 5 z0.toNat 3).same z4∧z5.same z8∧(SV.si .i64 z0).same z9∧(SV.il .i64 0).same (SV.si .i64 0)∧True)∧(SObj.cells [SV.si .i64 z3,SV.si .i64 z10,SV.ow 1 (encT n m t).k0 1,SV.ow 2 (encT n m t).k1 3,SV.row sF (encT n m t).cost,SV.sb z11.fst,SV.row z12 z11.snd.fst,SV.row z12 z11.snd.snd,SV.ow 3 (encT n m t).k3 1,z5] 127 10 false).same z20∧(SObj.row sF.lst (encT n m t).coef 60 false).same z21∧(SObj.row sF (encT n m t).bound 58 false).same z22∧(SObj.row z23 (encT n m t).basic 3 false).same z25∧(SObj.row z23 (encT n m t).free 3 false).same z26∧(SObj.row (SId.b.pair (z12.lst.pair z12.lst)) (List.replicate z0.toNat z27) 58 true).same (SObj.row sF (rowU (fL g) 0 z27) 58 true)∧True)∧(0:Int)≤(0:Int)∧(0:Int)≤z3)∧∀(x:Int),let z35:=decide (x<(↑z7:Int));let z36:=rowU (fL g) x.toNat z27;let z37:=nthD z13.free x.toNat (0:Int);let z38:=decide (z37<z13.n);let z39:=z36.set x.toNat (z11.fst,z11.snd.fst,z11.snd.snd);let z40:=x+(1:Int);let z41:=SV.si .i64 z40;let z42:=nthD (fL g) z37.toNat sF.dflt;let z43:=SObj.row sF (rowU (fL g) z40.toNat z27) 58 true;(0:Int)≤x∧x≤z3→(z35=true→z7=z28∧(0:Int)≤x∧x<(↑z28:Int)∧z7=z28∧x.toNat<z28∧((-9223372036854775808:Int)≤(0:Int)∧(0:Int)≤(9223372036854775807:Int))∧z3.toNat=z36.length∧(0:Int)≤x∧x<(↑z36.length:Int)∧z3.toNat=z36.length∧x.toNat<z36.length∧(z38=true→(0:Int)≤z37∧z37<(↑z29:Int)∧z37.toNat<z29∧z3.toNat=z39.length∧(0:Int)≤x∧x<(↑z39.length:Int)∧z3.toNat=z39.length∧x.toNat<z39.length∧inR .i64 z40∧((z1.same z1∧z2.same z2∧z4.same z4∧z8.same z8∧z9.same z9∧z41.same z41∧True)∧z20.same z20∧z21.same z21∧z22.same z22∧z25.same z25∧z26.same z26∧(SObj.row sF (z39.set x.toNat (z42.fst,z42.snd.fst,z42.snd.snd)) 58 true).same z43∧True)∧((0:Int)≤z40∧z40≤z3)∧(z3 - z40).toNat<(z3 - x).toNat)∧(z38=false→inR .i64 z40∧((z1.same z1∧z2.same z2∧z4.same z4∧z8.same z8∧z9.same z9∧z41.same z41∧True)∧z20.same z20∧z21.same z21∧z22.same z22∧z25.same z25∧z26.same z26∧(SObj.row sF z39 58 true).same z43∧True)∧((0:Int)≤z40∧z40≤z3)∧(z3 - z40).toNat<(z3 - x).toNat))∧(z35=false→(((z1.same z1∧z2.same z2∧z4.same z4∧z18.same z31∧(SV.si .i64 (↑z13.k3:Int)).same z32∧(SV.il .i64 0).same (SV.si .i64 0)∧True)∧z20.same z20∧z21.same z21∧z22.same z22∧z25.same z25∧z26.same z26∧(SObj.row sF z36 58 true).same z33∧True)∧(0:Int)≤(0:Int)∧(0:Int)≤z10)∧∀(x:Int),let z44:=decide (x<(↑z30:Int));let z45:=nthD z24 x.toNat (0:Int);let z46:=decide (z13.n≤z45);let z47:=x+(1:Int);let z48:=SV.si .i64 z47;(0:Int)≤x∧x≤z10→(z44=true→z30=z24.length∧(0:Int)≤x∧x<(↑z24.length:Int)∧z30=z24.length∧x.toNat<z24.length∧(z46=true→inR .i64 z47∧((z1.same z1∧z2.same z2∧z4.same z4∧z31.same z31∧z32.same z32∧z48.same z48∧True)∧z20.same z20∧z21.same z21∧z22.same z22∧z25.same z25∧z26.same z26∧z33.same z33∧True)∧((0:Int)≤z47∧z47≤z10)∧(z10 - z47).toNat<(z10 - x).toNat)∧(z46=false→(0:Int)≤z45∧z45<(↑z29:Int)∧z45.toNat<z29∧False))∧(z44=false→z3.toNat=z29∧(SV.tup []).same (SV.tup [])∧(SObj.cells (z14::z15::z16::z17::z2::z19) 127 10 false).same (SObj.cells [SV.si .i64 z34.n,SV.si .i64 z34.m,SV.ow 1 z34.k0 1,SV.ow 2 z34.k1 3,SV.row sF z34.cost,SV.sb z34.v.fst,SV.row z12 z34.v.snd.fst,SV.row z12 z34.v.snd.snd,SV.ow 3 z34.k3 1,SV.ow 4 z34.k4 1] 127 10 false)∧z21.same (SObj.row sF.lst z34.coef 60 false)∧z22.same (SObj.row sF z34.bound 58 false)∧z25.same (SObj.row z23 z34.basic 3 false)∧z26.same (SObj.row z23 z34.free 3 false)∧True))) (by kernel_rfl) ?_
 simp only[encT_t]
 try simp only[encT]
 simp only[vcs]
 obtain⟨⟨⟨n0,n1⟩,m0,m1⟩,hw,hz⟩:=id hok
 have hbb:=hw.basic
 have hfl:=hw.free
 have hfg:=@fL_len g
 have h0:(IntCast.intCast 0:Rat)=0:=rfl
 have hrow:∀{x y:List Fra},x=y→(SObj.row sF x 58 true).same (SObj.row sF y 58 true):=by rintro _ _ rfl;rfl
 simp only[h0,fra_eta]
 refine⟨by omega,by omega,by omega,by omega,by omega,⟨⟨?_,?_,?_⟩,by omega,by omega⟩,?_⟩
 ·rw[hfl];rfl
 ·rfl
 ·exact hrow (by rw[rowU_zero,hfg,hgl,hfl];rfl)
 rintro j ⟨j0,j1⟩
 have hru:=@rowU_len (fL g) j.toNat (false,([],[])) (by omega)
 refine⟨fun hj=>?_,fun hj=>?_⟩
 ·have hv:nthD t.free j.toNat 0=j:=by rw[hfr,nth_upto (by omega)];omega
  rw[hv]
  have hset:((rowU (fL g) j.toNat (false,([],[]))).set j.toNat (frE 0)).set j.toNat (nthD (fL g) j.toNat sF.dflt)=rowU (fL g) (j+1).toNat (false,([],[])):=by
   have e:=rowU_set (d:=fL g) (j:=j.toNat) (z:=(false,([],[]))) (x:=nthD (fL g) j.toNat sF.dflt) (by omega) rfl
   rw[List.set_set,show(j+1).toNat=j.toNat+1 by omega]
   exact e
  rw[List.length_set]
  exact⟨j0,by omega,by omega,by omega,by omega,j0,by omega,by omega,by omega,fun _=>⟨j0,by omega,by omega,by omega,j0,by omega,by omega,by omega,by omega,hrow hset,by omega,by omega⟩,fun h=>(h (by omega)).elim⟩
 ·have e:j.toNat=(fL g).length:=by omega
  rw[e,rowU_all]
  refine⟨⟨hrow rfl,by omega,by omega⟩,?_⟩
  rintro i ⟨i0,i1⟩
  refine⟨fun hi=>⟨i0,hi,by omega,fun _=>⟨by omega,by omega,by omega⟩,fun h=>absurd (hbs _ (nthD_mem (by omega))) h⟩,fun hi=>⟨by omega,?_⟩⟩
  rw[vL_fL]
  rfl
abbrev Lp:=List Rat×List (List Rat×Rat)
def encP (a:Lp):Prg:=(fL a.1,a.2.map fun r=>(fL r.1,frE r.2))
def iniT (a:Lp):Tb:=⟨a.2.map (·.1),a.2.map (·.2),a.1,0,(uptoI a.2.length).map fun i=>a.1.length+i,uptoI a.1.length⟩
def zerT (a:Lp):Tb:={iniT a with cost:=List.replicate a.1.length 0}
theorem tab0_enc {a:Lp}:tab0 (encP a)=encT a.1.length a.2.length (zerT a):=by
 unfold tab0 encP encT zerT iniT
 simp only[fL_len,List.length_map,List.map_map,uptoI_len]
 congr 1
 ·unfold fM
  rw[List.map_map]
  rfl
 ·unfold fL
  rw[List.map_map]
  rfl
 ·unfold fL
  rw[List.map_replicate]
structure lpOk (a:Lp):Prop where
 n:a.1.length≤160
 m:a.2.length≤40
 small:∃M G,Small a.1.length a.2.length M G (iniT a)
 feas:feasT a.2.length (iniT a)
 bnd:∃B,∀x z,(iniT a).holds a.1.length a.2.length x z→(∀v∈(iniT a).basic++(iniT a).free,0≤x v)→z≤B
noncomputable def lpT (a:Lp):Tb:=lastT a.1.length a.2.length (iniT a)
theorem lp_okO {a:Lp} (h:lpOk a):okO a.1.length a.2.length (iniT a):=by
 obtain⟨M,G,hs⟩:=h.small
 exact⟨iniT a,M,G,hs,Run.refl hs.wf hs.nd,h.feas⟩
theorem lp_run {a:Lp} (h:lpOk a):Run a.1.length a.2.length (iniT a) (lpT a)∧feasT a.2.length (lpT a)∧entN (lpT a) a.1.length<0:=by
 obtain⟨M,G,hs⟩:=h.small
 obtain⟨B,hB⟩:=h.bnd
 have hr:=Run.refl hs.wf hs.nd
 have:=last_run hr h.feas
 exact⟨this.1,this.2.1,last_opt hr h.feas hB⟩
noncomputable def r395:SCtr:=⟨45,Prg,.one codQ,fun x=>∃a:Lp,x=encP a∧lpOk a,fun x=>
 let a:Lp:=(vL x.1,x.2.map fun r=>(vL r.1,valF r.2))
 .tup [.agg [.si .i64 1,.sb (frE (lpT a).value).1,.row (.i .u32) (frE (lpT a).value).2.1,.row (.i .u32) (frE (lpT a).value).2.2,.row sF (fL (ptL (lpT a) a.1.length a.2.length)),.row sF (fL (prL (lpT a) a.1.length a.2.length a.1.length)),.row sF []],.si .i64 0]⟩
theorem enc_dec {a:Lp}:((vL (encP a).1,(encP a).2.map fun r=>(vL r.1,valF r.2)):Lp)=a:=by
 obtain⟨g,rs⟩:=a
 unfold encP
 simp only[vL_fL,List.map_map]
 congr 1
 conv=>rhs;rw[←List.map_id rs]
 refine List.map_congr_left fun r _=>?_
 show(vL (fL r.1),valF (frE r.2))=r
 rw[vL_fL,valF_frE]
theorem encP_eta {a:Lp}:((encP a).1,(encP a).2)=encP a:=rfl
theorem encP_1 {a:Lp}:vL (encP a).1=a.1:=vL_fL _
theorem encP_2 {a:Lp}:(encP a).2.map (fun r=>(vL r.1,valF r.2))=a.2:=congrArg Prod.snd (@enc_dec a)
theorem zer_ini {a:Lp}:({coef:=(zerT a).coef,bound:=(zerT a).bound,cost:=a.1,value:=0,basic:=(zerT a).basic,free:=(zerT a).free}:Tb)=iniT a:=rfl
theorem encP_l1 {a:Lp}:(encP a).1.length=a.1.length:=fL_len
theorem encP_l2 {a:Lp}:(encP a).2.length=a.2.length:=List.length_map _
theorem digS_of {q:Rat} (h:Sz 1000000 q):digS (frE q)∧okF (frE q)=true:=by
 obtain⟨e1,⟨u1,_,v1⟩,⟨u2,_,v2⟩⟩:=frE_ok q
 obtain⟨m1,m2⟩:=frE_len h
 refine⟨⟨⟨u1,u2⟩,m1,m2⟩,?_⟩
 unfold okF
 rw[valF_frE]
 exact decide_eq_true rfl
theorem reach_F {o:Store} {d:Nat} {acc:List Nat} {l:List Fra}:reachF o d (List.map (fun x:Fra=>encA SId.b x.1++encA ((SId.i .u32).lst.pair (SId.i .u32).lst) x.2) l).flatten acc=acc:=reachF_plain fun a ha=>flatA_plain (s:=sF) (l:=l) ha
theorem reach_M {o:Store} {d:Nat} {acc:List Nat} {l:List (List Fra)}:reachF o d (List.map (fun x:List Fra=>[AV.sl (List.length x) (List.flatMap (encA sF) x)]) l).flatten acc=acc:=reachF_plain fun a ha=>flatA_plain (s:=sF.lst) (l:=l) ha
theorem reach_I {o:Store} {d:Nat} {acc:List Nat} {l:List Int}:reachF o d (List.map (fun x:Int=>List.map AV.sc (encV (SId.i .i64) x)) l).flatten acc=acc:=reachF_plain fun a ha=>flatA_plain (s:=SId.i .i64) (l:=l) ha
theorem h395:Holds Try.prog r395:=by
 refine conRo (L:=[r398]) (W:=ownT [r399,r400,r401,r402,r403,r405]) r395 F395 (fun f=>Nat.beq f r403.f||Nat.beq f r405.f) (fun _ _=> .look) (ownT_ok (by simpa using⟨h399,h400,h401,h402,h403,h405⟩)) (by simpa using h398) (by kernel_rfl) (by kernel_rfl) (fun _=>rfl) ?_
 rintro x ⟨a,hx,hok⟩
 subst hx
 refine vcOf (let z0:=(encP a).fst;let z1:=(encP a).snd;let z2:=SV.il .i64 0;let z3:=SId.i .i64;let z4:=SV.row z3 [];let z5:=[SV.bl false,z4,z4,z4,z4,z4];let z6:=[SV.si .i64 0];let z7:=List.map (fun r ↦(vL r.fst,valF r.snd)) z1;let z8:=lpT (vL z0,z7);let z9:=SId.i .u32;let z10:=(vL z0).length;let z11:=SV.tup (SV.agg [SV.si .i64 1,SV.sb (frE z8.value).fst,SV.row z9 (frE z8.value).snd.fst,SV.row z9 (frE z8.value).snd.snd,SV.row sF (fL (ptL z8 z10 z7.length)),SV.row sF (fL (prL z8 z10 z7.length z10)),SV.row sF []]::z6);let z12:=tab0 (z0,z1);let z13:=encT z12.n z12.m z12.t;let z14:=encT z13.n z13.m (Tb.mk z13.t.coef z13.t.bound (vL z0) (0:Rat) z13.t.basic z13.t.free);let z15:=lastT z14.n.toNat z14.m.toNat z14.t;let z16:=!decide (entN z15 z14.n.toNat<(0:Int));let z17:=encT z14.n z14.m z15;let z18:=SObj.cells [SV.row sF z0,SV.row sR z1] 88 2 false;let z19:=Value.slice none 0 0;let z20:=SV.sc z19;let z21:=SObj.cells [z2,SV.bl false,z20,z20,z20,z20,z20] 92 7 false;let z22:=z17.v.snd.fst;let z23:=z17.v.snd.snd;let z24:=encT z17.n z17.m z17.t;let z25:=z24.v.snd.fst;let z26:=z24.v.snd.snd;let z27:=SObj.cells [SV.si .i64 z24.n,SV.si .i64 z24.m,SV.ow 3 z24.k0 1,SV.ow 4 z24.k1 3,SV.row sF z24.cost,SV.sb z24.v.fst,SV.row z9 z25,SV.row z9 z26,SV.ow 5 z24.k3 1,SV.ow 6 z24.k4 1] 127 10 false;let z28:=SObj.row sF.lst z24.coef 60 false;let z29:=SObj.row sF z24.bound 58 false;let z30:=SObj.row z3 z24.basic 3 false;let z31:=SObj.row z3 z24.free 3 false;let z32:=encT z24.n z24.m z24.t;let z33:=AObj.cells [AV.sl z0.length (List.map (fun x ↦encA SId.b x.fst++encA (z9.lst.pair z9.lst) x.snd) z0).flatten,AV.sl z1.length (List.map (fun x ↦encA sF.lst x.fst++encA sF x.snd) z1).flatten] 88 2 false;let z34:=AV.sc z19;let z35:=AObj.cells [AV.sc (Value.int .i64 (0:Int)),AV.sc (Value.bool false),z34,z34,z34,z34,z34] 92 7 false;let z36:=(List.map (fun x ↦[AV.sl (List.length x) (List.flatMap (encA sF) x)]) z17.coef).flatten;let z37:=(List.map (fun x ↦encA SId.b x.fst++encA (z9.lst.pair z9.lst) x.snd) z17.bound).flatten;let z38:=(List.map (fun x ↦List.map AV.sc (encV z3 x)) z17.basic).flatten;let z39:=(List.map (fun x ↦List.map AV.sc (encV z3 x)) z17.free).flatten;let z40:=[z33,z35,AObj.cells [AV.sc (Value.int .i64 z17.n),AV.sc (Value.int .i64 z17.m),AV.os 3 0 z17.k0 (z17.k0*1),AV.os 4 0 z17.k1 (z17.k1*3),AV.sl z17.cost.length (List.map (fun x ↦encA SId.b x.fst++encA (z9.lst.pair z9.lst) x.snd) z17.cost).flatten,AV.sc (Value.bool z17.v.fst),AV.sl z22.length (List.map (fun x ↦List.map AV.sc (encV z9 x)) z22).flatten,AV.sl z23.length (List.map (fun x ↦List.map AV.sc (encV z9 x)) z23).flatten,AV.os 5 0 z17.k3 (z17.k3*1),AV.os 6 0 z17.k4 (z17.k4*1)] 127 10 false,AObj.cells z36 60 1 false,AObj.cells z37 58 3 false,AObj.cells z38 3 1 false,AObj.cells z39 3 1 false];let z41:=[2,3];let z42:=reachF z40 (nat_lit 396) z36 z41;let z43:=if List.elem 4 z42=true then z42 else reachF z40 (nat_lit 395) z37 (z42++[4]);let z44:=if List.elem 5 z43=true then z43 else reachF z40 (nat_lit 390) z38 (z43++[5]);let z45:=(List.map (fun x ↦[AV.sl (List.length x) (List.flatMap (encA sF) x)]) z24.coef).flatten;let z46:=(List.map (fun x ↦encA SId.b x.fst++encA (z9.lst.pair z9.lst) x.snd) z24.bound).flatten;let z47:=(List.map (fun x ↦List.map AV.sc (encV z3 x)) z24.basic).flatten;let z48:=(List.map (fun x ↦List.map AV.sc (encV z3 x)) z24.free).flatten;let z49:=[z33,z35,AObj.cells [AV.sc (Value.int .i64 z24.n),AV.sc (Value.int .i64 z24.m),AV.os 3 0 z24.k0 (z24.k0*1),AV.os 4 0 z24.k1 (z24.k1*3),AV.sl z24.cost.length (List.map (fun x ↦encA SId.b x.fst++encA (z9.lst.pair z9.lst) x.snd) z24.cost).flatten,AV.sc (Value.bool z24.v.fst),AV.sl z25.length (List.map (fun x ↦List.map AV.sc (encV z9 x)) z25).flatten,AV.sl z26.length (List.map (fun x ↦List.map AV.sc (encV z9 x)) z26).flatten,AV.os 5 0 z24.k3 (z24.k3*1),AV.os 6 0 z24.k4 (z24.k4*1)] 127 10 false,AObj.cells z45 60 1 false,AObj.cells z46 58 3 false,AObj.cells z47 3 1 false,AObj.cells z48 3 1 false];let z50:=reachF z49 (nat_lit 396) z45 z41;let z51:=if List.elem 4 z50=true then z50 else reachF z49 (nat_lit 395) z46 (z50++[4]);let z52:=if List.elem 5 z51=true then z51 else reachF z49 (nat_lit 390) z47 (z51++[5]);((z0.length≤160∧z1.length≤40)∧(∀(x:Fra),x∈z0→digS x∧okF x=true)∧∀(r:List Fra×Fra),r∈z1→r.fst.length=z0.length∧(∀(x:Fra),x∈r.fst→digS x∧okF x=true)∧digS r.snd∧okF r.snd=true)∧(false=true→(SV.tup (SV.agg (z2::z5)::z6)).same z11)∧(false=false→(z0.length≤1000∧z1.length≤1000∧∀(r:List Fra×Fra),r∈z1→r.fst.length≤1000)∧(∃n m t,z12=encT n m t∧okT n m t∧feasT m.toNat t)∧(false=true→(SV.tup [SV.agg (SV.il .i64 2::z5),z2]).same z11)∧(false=false→(∃n m t,z13=encT n m t∧okT n m t∧∃g,z0=fL g∧g.length=n.toNat∧t.free=uptoI n.toNat∧∀(v:Int),v∈t.basic→n≤v)∧(∃n m t,z14=encT n m t∧okT n m t∧okO n.toNat m.toNat t)∧(z16=true→(∃n m t,z17=encT n m t∧okT n m t∧∀(v:Int),v∈t.basic→(0:Int)≤v)∧(z18.same z18∧z21.same z21∧(SObj.cells [SV.si .i64 z17.n,SV.si .i64 z17.m,SV.ow 3 z17.k0 1,SV.ow 4 z17.k1 3,SV.row sF z17.cost,SV.sb z17.v.fst,SV.row z9 z22,SV.row z9 z23,SV.ow 5 z17.k3 1,SV.ow 6 z17.k4 1] 127 10 false).same z27∧(SObj.row sF.lst z17.coef 60 false).same z28∧(SObj.row sF z17.bound 58 false).same z29∧(SObj.row z3 z17.basic 3 false).same z30∧(SObj.row z3 z17.free 3 false).same z31∧True)∧False)∧(z16=false→(∃n m t,z17=encT n m t∧okT n m t∧∀(v:Int),v∈t.basic→(0:Int)≤v)∧(z18.same z18∧z21.same z21∧(SObj.cells [SV.si .i64 z17.n,SV.si .i64 z17.m,SV.ow 3 z17.k0 1,SV.ow 4 z17.k1 3,SV.row sF z17.cost,SV.sb z17.v.fst,SV.row z9 z22,SV.row z9 z23,SV.ow 5 z17.k3 1,SV.ow 6 z17.k4 1] 127 10 false).same z27∧(SObj.row sF.lst z17.coef 60 false).same z28∧(SObj.row sF z17.bound 58 false).same z29∧(SObj.row z3 z17.basic 3 false).same z30∧(SObj.row z3 z17.free 3 false).same z31∧True)∧(∃n m t,z24=encT n m t∧okT n m t∧True)∧(z18.same z18∧z21.same z21∧z27.same (SObj.cells [SV.si .i64 z32.n,SV.si .i64 z32.m,SV.ow 3 z32.k0 1,SV.ow 4 z32.k1 3,SV.row sF z32.cost,SV.sb z32.v.fst,SV.row z9 z32.v.snd.fst,SV.row z9 z32.v.snd.snd,SV.ow 5 z32.k3 1,SV.ow 6 z32.k4 1] 127 10 false)∧z28.same (SObj.row sF.lst z32.coef 60 false)∧z29.same (SObj.row sF z32.bound 58 false)∧z30.same (SObj.row z3 z32.basic 3 false)∧z31.same (SObj.row z3 z32.free 3 false)∧True)∧if(((if List.elem 6 z44=true then z44 else reachF z40 (nat_lit 389) z39 (z44++[6])).all fun i ↦decide (i<7))&&(((if List.elem 6 z52=true then z52 else reachF z49 (nat_lit 389) z48 (z52++[6])).all fun i ↦decide (i<7))&&true))=true then(SV.tup [SV.agg [SV.il .i64 1,SV.sb z17.v.fst,SV.row z9 z22,SV.row z9 z23,SV.row sF (fL (ptL z17.t z17.n.toNat z17.m.toNat)),SV.row sF (fL (prL z24.t z24.n.toNat z24.m.toNat z24.n.toNat)),z4],z2]).same z11 else False)))) (by kernel_rfl) ?_
 simp only[encP_eta,tab0_enc,encT_t,encT_n,encT_m,encP_1,encP_2,zer_ini,encP_l1,encP_l2,Int.toNat_natCast]
 try simp only[vcs]
 obtain⟨M,G,hs⟩:=hok.small
 obtain⟨r1,r2,r3⟩:=lp_run hok
 have hw:=hs.wf
 have hz:=hs.szT (Run.refl hs.wf hs.nd)
 have hn:=hok.n
 have hm:=hok.m
 have hO:=lp_okO hok
 have k1:okT a.1.length a.2.length (iniT a):=⟨⟨by omega,by omega⟩,by simpa using hw,hz⟩
 have k0:okT a.1.length a.2.length (zerT a):=by
  refine⟨⟨by omega,by omega⟩,⟨hw.coef,hw.row,hw.bound,by simp[zerT],hw.basic,hw.free⟩,hz.1,hz.2.1,fun q hq=>?_,hz.2.2.2⟩
  rw[(List.mem_replicate.1 hq).2]
  exact hz.2.2.2
 have k2:okT a.1.length a.2.length (lpT a):=small_okT hs (by simpa using r1) (by omega) (by omega)
 have hl:lastT a.1.length a.2.length (iniT a)=lpT a:=rfl
 have hpair:((a.1,a.2):Lp)=a:=rfl
 simp only[hl,hpair,reach_F,reach_M,reach_I]
 have mem2:∀i,i<a.2.length→nthD a.2 i ([],0)∈a.2:=fun i hi=>nthD_mem hi
 have hrow:∀r∈a.2,r.1.length=a.1.length∧(∀q∈r.1,Sz 1000000 q)∧Sz 1000000 r.2:=fun r hr=>by
  obtain⟨i,hi,rfl⟩:=List.getElem_of_mem hr
  have h1:=hw.row i hi
  have e:nthD (iniT a).coef i []=a.2[i].1:=by
   show nthD (a.2.map (·.1)) i []=_
   rw[nthD_eq (by rw[List.length_map];exact hi),List.getElem_map]
  rw[e] at h1
  refine⟨h1,hz.1 _ (List.mem_map.2 ⟨a.2[i],hr,rfl⟩),hz.2.1 _ (List.mem_map.2 ⟨a.2[i],hr,rfl⟩)⟩
 have hg:∀q∈a.1,Sz 1000000 q:=hz.2.2.1
 have hF:∀{l:List Rat},(∀q∈l,Sz 1000000 q)→∀x∈fL l,digS x∧okF x=true:=fun h x hx=>by
  obtain⟨q,hq,rfl⟩:=List.mem_map.1 hx
  exact digS_of (h q hq)
 have hdg:(∀x∈(encP a).1,digS x∧okF x=true)∧∀r∈(encP a).2,r.1.length=a.1.length∧(∀x∈r.1,digS x∧okF x=true)∧digS r.2∧okF r.2=true:=by
  refine⟨hF hg,fun r hr=>?_⟩
  obtain⟨r0,hr0,rfl⟩:=List.mem_map.1 hr
  obtain⟨h1,h2,h3⟩:=hrow r0 hr0
  exact⟨by rw[←h1];exact fL_len,hF h2,digS_of h3⟩
 have hb0:∀v∈(lpT a).basic,0≤v:=fun v hv=>by
  have:=r1.perm.mem_iff.1 (List.mem_append_left _ hv)
  simp only[iniT,List.mem_append,List.mem_map,uptoI_mem] at this
  rcases this with⟨i,hi,rfl⟩|h
  ·omega
  ·exact h.1
 have hbn:∀v∈(zerT a).basic,(a.1.length:Int)≤v:=fun v hv=>by
  simp only[zerT,iniT,List.mem_map,uptoI_mem] at hv
  obtain⟨i,hi,rfl⟩:=hv
  omega
 refine⟨⟨⟨hn,hm⟩,hdg.1,hdg.2⟩,fun h=>(by cases h),fun _=>⟨⟨by omega,by omega,fun r hr=>by have:=(hdg.2 r hr).1;omega⟩,⟨_,_,_,rfl,k0,by rw[Int.toNat_natCast];exact hok.feas⟩,fun h=>(by cases h),fun _=>⟨⟨_,_,_,rfl,k0,a.1,rfl,by simp,rfl,hbn⟩,⟨_,_,_,rfl,k1,by simpa using hO⟩,fun h=>absurd r3 h,fun _=>⟨⟨_,_,_,rfl,k2,hb0⟩,⟨_,_,_,rfl,k2⟩,?_⟩⟩⟩⟩
 rw[if_pos (by decide)]
 rfl
theorem dc_succ {f:List Int} {d:Int} {i:Int} (h0:0≤i) (h1:i<f.length):dcI (f.take (i+1).toNat) d=dcI (f.take i.toNat) d++if nthD f i.toNat 0=d then[i] else[]:=by
 have hl1:(f.take (i+1).toNat).length=i.toNat+1:=by rw[List.length_take];omega
 have hl0:(f.take i.toNat).length=i.toNat:=by rw[List.length_take];omega
 unfold dcI
 rw[hl1,hl0,uptoI_succ,List.filter_append]
 have e:∀{k:Nat} {m:Nat},k<m→m≤f.length→nthD (f.take m) k 0=nthD f k 0:=fun {k m} h1 h2=>by
  rw[nthD_eq (by rw[List.length_take];omega),nthD_eq (by omega),List.getElem_take]
 congr 1
 ·refine List.filter_congr fun x hx=>?_
  have:=uptoI_mem.1 hx
  rw[e (show x.toNat<(i+1).toNat by omega) (by omega),e (show x.toNat<i.toNat by omega) (by omega)]
 ·simp only[List.filter_cons,List.filter_nil]
  rw[show((i.toNat:Nat):Int)=i by omega,e (show i.toNat<(i+1).toNat by omega) (by omega)]
  by_cases h:nthD f i.toNat 0=d
  ·rw[if_pos (decide_eq_true h),if_pos h]
  ·rw[if_neg (by simpa using h),if_neg h]
theorem dc_all {f:List Int} {d:Int} {i:Int} (h:i=f.length):dcI (f.take i.toNat) d=dcI f d:=by
 rw[h,Int.toNat_natCast,List.take_length]
def rngB (f:List Int):Bool:=f.all fun x=>decide (-1≤x)&&decide (x≤1)
def fixE (p:Prob) (f:List Int):Int:=if checkE p≠0 then checkE p else if f.length≠p.offers.length then 3 else if rngB f=true then 0 else 4
def r393:SCtr:=⟨43,Prob×List Int,.cons codP (.one (codR (.i .i64))),fun a=>a.2.length≤1000000000000,fun a=> .si .i64 (fixE a.1 a.2)⟩
def Λ393 (p:Prob) (f:List Int):Nat→LoopAnn
 |7=> .inv Int (fun i=>⟨[(19,.row (.i .i64) f),(20,.si .i64 f.length),(21,.si .i64 i)],[.cells p.ss 27 20 false]⟩)
   (fun s=>iS s 21) (fun i=>(0≤i∧i≤f.length)∧rngB (f.take i.toNat)=true) (fun i=>(f.length - i).toNat) fun _ _=> .look
 |_=> .look
theorem h393:Holds Try.prog r393:=by
 refine con (L:=[r79]) r393 F393 (fun a=>Λ393 a.1 a.2) (OwnOK.none _) (by simpa using h79) (by kernel_rfl) (by kernel_rfl) (fun _=>rfl) ?_
 rintro⟨p,f⟩ (hl:f.length≤1000000000000)
 refine vcOf (let z0:=decide (checkE p≠(0:Int));let z1:=SV.si .i64 (fixE p f);let z2:=(↑f.length:Int);let z3:=decide (z2≠(↑p.offers.length:Int));let z4:=SV.row (SId.i .i64) f;let z5:=(↑f.length:Int);let z6:=SV.si .i64 z5;let z7:=SV.il .i64 0;let z8:=SObj.cells (Prob.ss p) 27 20 false;True∧(z0=true→(SV.si .i64 (checkE p)).same z1)∧(z0=false→(z3=true→(SV.il .i64 3).same z1)∧(z3=false→(((z4.same z4∧(SV.si .i64 z2).same z6∧z7.same (SV.si .i64 0)∧True)∧z8.same z8∧True)∧((0:Int)≤(0:Int)∧(0:Int)≤z5)∧rngB []=true)∧∀(x:Int),let z9:=nthD f x.toNat (0:Int);let z10:=decide (z9<(-1:Int));let z11:=decide ((1:Int)<z9);let z12:=x+(1:Int);let z13:=SV.si .i64 z12;((0:Int)≤x∧x≤z5)∧rngB (List.take x.toNat f)=true→(decide (x<z5)=true→(0:Int)≤x∧x<z2∧x.toNat<f.length∧(z10=true→(SV.il .i64 4).same z1)∧(z10=false→(z11=true→(SV.il .i64 4).same z1)∧(z11=false→inR .i64 z12∧((z4.same z4∧z6.same z6∧z13.same z13∧True)∧z8.same z8∧True)∧(((0:Int)≤z12∧z12≤z5)∧rngB (List.take z12.toNat f)=true)∧(z5 - z12).toNat<(z5 - x).toNat)))∧(decide (x<z5)=false→z7.same z1)))) (by kernel_rfl) ?_
 simp only[vcs]
 refine⟨fun h=>by simp[fixE,h],fun h=>?_⟩
 have hc:checkE p=0:=Classical.not_not.1 h
 refine⟨fun h1=>by
  have h2:f.length≠p.offers.length:=fun h=>h1 (by rw[h])
  simp[fixE,hc,h2],fun h1=>⟨⟨⟨by omega,by omega⟩,rfl⟩,?_⟩⟩
 have hlen:f.length=p.offers.length:=by omega
 rintro i ⟨⟨i0,i1⟩,hall⟩
 refine⟨fun hi=>?_,fun hi=>?_⟩
 ·have hm:=nthD_mem (d:=0) (show i.toNat<f.length by omega)
  have et:=take_nth (d:=0) i0 hi
  have bad:¬(-1≤nthD f i.toNat 0∧nthD f i.toNat 0≤1)→(4:Int)=fixE p f:=fun hn=>by
   have:rngB f=false:=by
    rw[Bool.eq_false_iff]
    intro h2
    have:=List.all_eq_true.1 h2 _ hm
    simp only[Bool.and_eq_true,decide_eq_true_eq] at this
    exact hn this
   simp[fixE,hc,hlen,this]
  have good: -1≤nthD f i.toNat 0∧nthD f i.toNat 0≤1→rngB (f.take (i+1).toNat)=true:=fun hn=>by
   unfold rngB at hall ⊢
   rw[et,List.all_append,hall]
   simp[hn]
  refine⟨i0,hi,by omega,fun h2=>bad (by omega),fun h2=>⟨fun h3=>bad (by omega),fun h3=>⟨by omega,⟨⟨by omega,by omega⟩,good (by omega)⟩,by omega⟩⟩⟩
 ·rw[show i.toNat=f.length by omega,List.take_length] at hall
  simp[fixE,hc,hlen,hall]
def accS (p:Prob) (f:List Int):Int:=sumV ((dcI f 1).map (oI p))
theorem acc_bd {p:Prob} (hc:checkE p=0) {f:List Int} {k:Nat} (hl:f.length=p.offers.length):0≤accS p (f.take k)∧accS p (f.take k)≤160000000:=by
 have hg:=good_of hc
 have h1:=@dcI_len (f.take k) 1
 have h2:(f.take k).length≤f.length:=by rw[List.length_take];omega
 have h3:=@sum_val_bd p hg ((dcI (f.take k) 1).map (oI p)) fun x hx=>by
  obtain⟨i,hi,rfl⟩:=List.mem_map.1 hx
  have:=(dcI_mem.1 hi).1
  exact nthD_mem (by omega)
 have h4:=hg.2.1
 rw[List.length_map] at h3
 unfold accS
 omega
theorem acc_succ {p:Prob} {f:List Int} {i:Int} (h0:0≤i) (h1:i<f.length):accS p (f.take (i+1).toNat)=accS p (f.take i.toNat)+if nthD f i.toNat 0=1 then(oI p i).value else 0:=by
 unfold accS
 rw[dc_succ h0 h1,List.map_append,sumV_append]
 congr 1
 split
 ·simp[sumV]
 ·rfl
def r396:SCtr:=⟨47,Prob×List Int,.cons codP (.one (codR (.i .i64))),fun a=>checkE a.1=0∧a.2.length=a.1.offers.length,fun a=>frS (IntCast.intCast (accS a.1 a.2))⟩
def Λ396 (p:Prob) (f:List Int):Nat→LoopAnn
 |3=> .inv Int (fun i=>⟨[(2,.ptr 0 0 20),(4,.ptr 1 0 3),(5,.si .i64 (accS p (f.take i.toNat))),(8,.row (.i .i64) f),(9,.si .i64 f.length),(10,.si .i64 i)],[.cells p.ss 27 20 false,.cells [.bl false,.sc (.slice none 0 0),.sc (.slice none 0 0)] 58 3 false]⟩)
   (fun s=>iS s 10) (fun i=>0≤i∧i≤f.length) (fun i=>(f.length - i).toNat) fun _ _=> .look
 |_=> .look
theorem h396:Holds Try.prog r396:=by
 refine con (L:=[r94]) r396 F396 (fun a=>Λ396 a.1 a.2) (OwnOK.none _) (by simpa using h94) (by kernel_rfl) (by kernel_rfl) (fun _=>rfl) ?_
 rintro⟨p,f⟩ ⟨hc,hl⟩
 simp only at hc hl
 refine vcOf (let z0:=SV.ptr 0 0 20;let z1:=SV.ptr 1 0 3;let z2:=SV.il .i64 0;let z3:=SV.row (SId.i .i64) f;let z4:=(↑f.length:Int);let z5:=SV.si .i64 z4;let z6:=SObj.cells (Prob.ss p) 27 20 false;let z7:=SV.sc (Value.slice none 0 0);let z8:=SObj.cells [SV.bl false,z7,z7] 58 3 false;let z9:=SId.i .u32;let z10:=frE (IntCast.intCast (accS p f));(((z0.same z0∧z1.same z1∧z2.same (SV.si .i64 (accS p []))∧z3.same z3∧(SV.si .i64 (↑f.length:Int)).same z5∧z2.same (SV.si .i64 0)∧True)∧z6.same z6∧z8.same z8∧True)∧(0:Int)≤(0:Int)∧(0:Int)≤z4)∧∀(x:Int),let z11:=decide (nthD f x.toNat (0:Int)=(1:Int));let z12:=accS p (List.take x.toNat f);let z13:=z12+(nthD p.offers x.toNat SId.off.dflt).value;let z14:=x+(1:Int);let z15:=SV.si .i64 (accS p (List.take z14.toNat f));let z16:=SV.si .i64 z14;let z17:=frE (IntCast.intCast z12);(0:Int)≤x∧x≤z4→(decide (x<z4)=true→(0:Int)≤x∧x<(↑f.length:Int)∧x.toNat<f.length∧(z11=true→(0:Int)≤x∧x<(↑p.offers.length:Int)∧x.toNat<p.offers.length∧inR .i64 z13∧inR .i64 z14∧((z0.same z0∧z1.same z1∧(SV.si .i64 z13).same z15∧z3.same z3∧z5.same z5∧z16.same z16∧True)∧z6.same z6∧z8.same z8∧True)∧((0:Int)≤z14∧z14≤z4)∧(z4 - z14).toNat<(z4 - x).toNat)∧(z11=false→inR .i64 z14∧((z0.same z0∧z1.same z1∧(SV.si .i64 z12).same z15∧z3.same z3∧z5.same z5∧z16.same z16∧True)∧z6.same z6∧z8.same z8∧True)∧((0:Int)≤z14∧z14≤z4)∧(z4 - z14).toNat<(z4 - x).toNat))∧(decide (x<z4)=false→((-9223372036854775808:Int)≤z12∧z12≤(9223372036854775807:Int))∧(SV.agg [SV.sb z17.fst,SV.row z9 z17.snd.fst,SV.row z9 z17.snd.snd]).same (SV.agg [SV.sb z10.fst,SV.row z9 z10.snd.fst,SV.row z9 z10.snd.snd]))) (by kernel_rfl) ?_
 simp only[vcs]
 have h160:=(good_of hc).2.1
 refine⟨⟨by simp[accS,dcI,uptoI,sumV],by omega,by omega⟩,?_⟩
 rintro i ⟨i0,i1⟩
 have hb:=@acc_bd p hc f i.toNat hl
 refine⟨fun hi=>?_,fun hi=>?_⟩
 ·have hs:=@acc_succ p f i i0 hi
  have ho:=off_good hc (i:=i) ⟨i0,by omega⟩
  have hv:(nthD p.offers i.toNat SId.off.dflt).value=(oI p i).value:=rfl
  rw[hv]
  refine⟨i0,hi,by omega,fun h1=>?_,fun h1=>?_⟩
  ·rw[if_pos h1] at hs
   exact⟨i0,by omega,by omega,by omega,by omega,by omega,by omega,by omega⟩
  ·rw[if_neg h1] at hs
   exact⟨by omega,by omega,by omega,by omega⟩
 ·rw[show f.take i.toNat=f by rw[show i.toNat=f.length by omega,List.take_length]] at hb ⊢
  exact⟨by omega,rfl⟩
def relP (p:Prob) (f:List Int):Lp:=((relT p f).cost,(uptoI (mF p)).map fun r=>((dcI f 0).map fun i=>((coefS p r (oI p i):Int):Rat),((boundS p r - sumS p ((dcI f 1).map (oI p)) r:Int):Rat)))
theorem rel_ini {p:Prob} {f:List Int}:iniT (relP p f)=relT p f:=by
 unfold iniT relP relT
 simp only[List.map_map,uptoI_len,List.length_map]
 congr 1
 ·unfold uptoI
  rw[List.map_map]
  rfl
 ·unfold uptoI
  rw[List.map_map]
  rfl
 ·unfold uptoI
  rw[List.map_map]
  refine List.map_congr_left fun i _=>?_
  simp
def goalR (p:Prob) (f:List Int) (j:Nat):List Fra:=fL (((dcI f 0).take j).map fun i=>(((oI p i).value:Int):Rat))
def coefQ (p:Prob) (f:List Int) (r:Int) (j:Nat):List Fra:=fL (((dcI f 0).take j).map fun i=>((coefS p r (oI p i):Int):Rat))
def rowsQ (p:Prob) (f:List Int) (k:Nat):List (List Fra×Fra):=(uptoI k).map fun r=>(coefQ p f r (dcI f 0).length,frE ((boundS p r - sumS p ((dcI f 1).map (oI p)) r:Int):Rat))
theorem goalR_all {p:Prob} {f:List Int}:goalR p f (dcI f 0).length=(encP (relP p f)).1:=by
 unfold goalR
 rw[List.take_length]
 rfl
theorem rowsQ_all {p:Prob} {f:List Int}:rowsQ p f (mF p)=(encP (relP p f)).2:=by
 unfold rowsQ encP relP
 simp only[List.map_map]
 refine List.map_congr_left fun r _=>?_
 unfold coefQ
 rw[List.take_length]
 rfl
theorem goalR_len {p:Prob} {f:List Int} {j:Nat} (h:j≤(dcI f 0).length):(goalR p f j).length=j:=by
 unfold goalR
 rw[fL_len,List.length_map,List.length_take]
 omega
theorem coefQ_len {p:Prob} {f:List Int} {r:Int} {j:Nat} (h:j≤(dcI f 0).length):(coefQ p f r j).length=j:=by
 unfold coefQ
 rw[fL_len,List.length_map,List.length_take]
 omega
theorem rowsQ_len {p:Prob} {f:List Int} {k:Nat}:(rowsQ p f k).length=k:=by
 unfold rowsQ
 rw[List.length_map,uptoI_len]
theorem fL_app {l m:List Rat}:fL (l++m)=fL l++fL m:=List.map_append
theorem goalR_succ {p:Prob} {f:List Int} {j:Int} (h0:0≤j) (h:j<(dcI f 0).length):goalR p f (j+1).toNat=goalR p f j.toNat++[frE (((oI p (nthD (dcI f 0) j.toNat 0)).value:Int):Rat)]:=by
 unfold goalR
 rw[take_nth (d:=0) h0 h,List.map_append,fL_app]
 rfl
theorem coefQ_succ {p:Prob} {f:List Int} {r j:Int} (h0:0≤j) (h:j<(dcI f 0).length):coefQ p f r (j+1).toNat=coefQ p f r j.toNat++[frE ((coefS p r (oI p (nthD (dcI f 0) j.toNat 0)):Int):Rat)]:=by
 unfold coefQ
 rw[take_nth (d:=0) h0 h,List.map_append,fL_app]
 rfl
theorem rowsQ_succ {p:Prob} {f:List Int} {r:Int} (h0:0≤r):rowsQ p f (r+1).toNat=rowsQ p f r.toNat++[(coefQ p f r (dcI f 0).length,frE ((boundS p r - sumS p ((dcI f 1).map (oI p)) r:Int):Rat))]:=by
 unfold rowsQ
 rw[show(r+1).toNat=r.toNat+1 by omega,uptoI_succ,List.map_append,show((r.toNat:Nat):Int)=r by omega]
 rfl
def fitB (p:Prob) (f:List Int):Bool:=fitsB p ((dcI f 1).map (oI p))
def relG (p:Prob) (f:List Int):List Fra×(List (List Fra×Fra)×List Int):=if fitB p f=true then((encP (relP p f)).1,((encP (relP p f)).2,dcI f 0)) else([],([],[]))
def r394:SCtr:=⟨44,Prob×List Int,.cons codP (.one (codR (.i .i64))),fun a=>(checkE a.1=0∧a.2.length=a.1.offers.length)∧rngB a.2=true,fun a=> .tup [.agg [.row sF (relG a.1 a.2).1,.row sR (relG a.1 a.2).2.1],.row (.i .i64) (relG a.1 a.2).2.2,.si .i64 (if fitB a.1 a.2=true then 0 else 14)]⟩
def st394 (p:Prob) (l:List Int) (m:List Off):SStore:=[.cells p.ss 27 20 false,.cells [.sc (.slice none 0 0),.sc (.slice none 0 0)] 88 2 false,.row (.i .i64) l 3 true,.row .off m 48 true]
def su394 (p:Prob) (l:List Int) (m:List Off) (k0 k1:Nat) (rs:List (List Fra×Fra)) (g:List Fra):SStore:=st394 p l m++[.cells p.ss 71 20 false,.cells [.ow 7 k0 3,.ow 6 k1 4] 88 2 false,.row sR rs 115 false,.row sF g 58 false]
def Λ394 (p:Prob) (f:List Int):Nat→LoopAnn
 |9=> .inv Int (fun i=>⟨[(2,.ptr 0 0 20),(4,.ptr 1 0 2),(8,.ow 2 (dcI (f.take i.toNat) 0).length 1),(9,.ow 3 (dcI (f.take i.toNat) 1).length 8),(36,.row (.i .i64) f),(37,.si .i64 f.length),(38,.si .i64 i)],st394 p (dcI (f.take i.toNat) 0) ((dcI (f.take i.toNat) 1).map (oI p))⟩)
   (fun s=>iS s 38) (fun i=>0≤i∧i≤f.length) (fun i=>(f.length - i).toNat) fun _ _=> .look
 |24=> .inv Int (fun j=>⟨[(2,.ptr 0 0 20),(4,.ptr 1 0 2),(8,.ow 2 (dcI f 0).length 1),(9,.ow 3 (dcI f 1).length 8),(12,.ptr 4 0 20),(13,.ptr 5 0 2),(71,.ow 2 (dcI f 0).length 1),(72,.si .i64 (dcI f 0).length),(73,.si .i64 j)],su394 p (dcI f 0) ((dcI f 1).map (oI p)) j.toNat 0 [] (goalR p f j.toNat)⟩)
   (fun s=>iS s 73) (fun j=>0≤j∧j≤(dcI f 0).length) (fun j=>((dcI f 0).length - j).toNat) fun _ _=> .look
 |29=> .inv Int (fun r=>⟨[(2,.ptr 0 0 20),(4,.ptr 1 0 2),(8,.ow 2 (dcI f 0).length 1),(9,.ow 3 (dcI f 1).length 8),(12,.ptr 4 0 20),(13,.ptr 5 0 2),(91,.si .i64 (nrows p)),(92,.si .i64 r)],su394 p (dcI f 0) ((dcI f 1).map (oI p)) (dcI f 0).length r.toNat (rowsQ p f r.toNat) (goalR p f (dcI f 0).length)⟩)
   (fun s=>iS s 92) (fun r=>0≤r∧r≤nrows p) (fun r=>(nrows p - r).toNat) fun r k=>match k with
   |33=> .inv Int (fun j=>⟨[(2,.ptr 0 0 20),(4,.ptr 1 0 2),(8,.ow 2 (dcI f 0).length 1),(9,.ow 3 (dcI f 1).length 8),(12,.ptr 4 0 20),(13,.ptr 5 0 2),(16,.si .i64 r),(17,.si .i64 (boundS p r - sumS p (((dcI f 1).map (oI p)).take j.toNat) r)),(91,.si .i64 (nrows p)),(92,.si .i64 r),(98,.ow 3 (dcI f 1).length 8),(99,.si .i64 (dcI f 1).length),(100,.si .i64 j)],su394 p (dcI f 0) ((dcI f 1).map (oI p)) (dcI f 0).length r.toNat (rowsQ p f r.toNat) (goalR p f (dcI f 0).length)⟩)
     (fun s=>iS s 100) (fun j=>0≤j∧j≤(dcI f 1).length) (fun j=>((dcI f 1).length - j).toNat) fun _ _=> .look
   |39=> .inv Int (fun j=>⟨[(2,.ptr 0 0 20),(4,.ptr 1 0 2),(8,.ow 2 (dcI f 0).length 1),(9,.ow 3 (dcI f 1).length 8),(12,.ptr 4 0 20),(13,.ptr 5 0 2),(16,.si .i64 r),(20,.ptr 8 0 4),(91,.si .i64 (nrows p)),(92,.si .i64 r),(114,.ow 2 (dcI f 0).length 1),(115,.si .i64 (dcI f 0).length),(116,.si .i64 j)],su394 p (dcI f 0) ((dcI f 1).map (oI p)) (dcI f 0).length r.toNat (rowsQ p f r.toNat) (goalR p f (dcI f 0).length)++[.cells [.ow 9 j.toNat 3,.sb (frE ((boundS p r - sumS p ((dcI f 1).map (oI p)) r:Int):Rat)).1,.row (.i .u32) (frE ((boundS p r - sumS p ((dcI f 1).map (oI p)) r:Int):Rat)).2.1,.row (.i .u32) (frE ((boundS p r - sumS p ((dcI f 1).map (oI p)) r:Int):Rat)).2.2] 115 4 false,.row sF (coefQ p f r j.toNat) 58 false]⟩)
     (fun s=>iS s 116) (fun j=>0≤j∧j≤(dcI f 0).length) (fun j=>((dcI f 0).length - j).toNat) fun _ _=> .look
   |_=> .look
 |_=> .look
theorem h394:Holds Try.prog r394:=by
 refine con (L:=[r79,r94,r134,r156,r157,r158]) r394 F394 (fun a=>Λ394 a.1 a.2) (OwnOK.none _) (by simpa using⟨h79,h94,h134,h156,h157,h158⟩) (by kernel_rfl) (by kernel_rfl) (fun _=>rfl) ?_
 rintro⟨p,f⟩ ⟨⟨hc,hl⟩,hr⟩
 simp only at hc hl hr
 refine vcOf (let z0:=decide (checkE p≠(0:Int));let z1:=SId.i .i64;let z2:=SV.row z1 [];let z3:=SV.agg [z2,z2];let z4:=SV.tup [SV.agg [SV.row sF (relG p f).fst,SV.row sR (relG p f).snd.fst],SV.row z1 (relG p f).snd.snd,SV.si .i64 (if fitB p f=true then(0:Int) else(14:Int))];let z5:=(↑f.length:Int);let z6:=p.offers.length;let z7:=decide (z5≠(↑z6:Int));let z8:=SV.ptr 0 0 20;let z9:=SV.ptr 1 0 2;let z10:=(↑f.length:Int);let z11:=SV.si .i64 z10;let z12:=SV.il .i64 0;let z13:=[SV.si .i64 p.supply.a0,SV.si .i64 p.supply.a1,SV.si .i64 p.supply.a2,SV.si .i64 p.supply.a3,SV.si .i64 p.supply.a4,SV.si .i64 p.supply.a5,SV.si .i64 p.opn.a0,SV.si .i64 p.opn.a1,SV.si .i64 p.opn.a2,SV.si .i64 p.opn.a3,SV.si .i64 p.opn.a4,SV.si .i64 p.opn.a5,SV.si .i64 p.cls.a0,SV.si .i64 p.cls.a1,SV.si .i64 p.cls.a2,SV.si .i64 p.cls.a3,SV.si .i64 p.cls.a4,SV.si .i64 p.cls.a5,SV.row z1 p.classes,SV.row SId.off p.offers];let z14:=SObj.cells z13 27 20 false;let z15:=SV.sc (Value.slice none 0 0);let z16:=SObj.cells [z15,z15] 88 2 false;let z17:=SObj.row SId.off [] 48 true;let z18:=SId.off.dflt;let z19:=(↑p.classes.length:Int);let z20:=dcI f (0:Int);let z21:=z20.length;let z22:=SV.ow 2 z21 1;let z23:=(dcI f (1:Int)).length;let z24:=SV.ow 3 z23 8;let z25:=SV.ptr 4 0 20;let z26:=SV.ptr 5 0 2;let z27:=(↑z21:Int);let z28:=SV.si .i64 z27;let z29:=SObj.row z1 z20 3 true;let z30:=List.map (oI p) (dcI f (1:Int));let z31:=SObj.row SId.off z30 48 true;let z32:=SObj.cells z13 71 20 false;let z33:=[SV.ow 6 0 4];let z34:=SObj.cells (SV.ow 7 0 3::z33) 88 2 false;let z35:=SId.i .u32;let z36:=SId.b.pair (z35.lst.pair z35.lst);let z37:=SObj.row sR [] 115 false;let z38:=SObj.row z36 [] 58 false;let z39:=SV.si .i64 (nrows p);let z40:=SV.ow 7 z21 3;let z41:=goalR p f z21;let z42:=SObj.row sF z41 58 false;let z43:=(↑z23:Int);let z44:=SV.si .i64 z43;let z45:=SV.ptr 8 0 4;let z46:=SV.ow 9 0 3;True∧(z0=true→(SV.tup [z3,z2,SV.si .i64 (checkE p)]).same z4)∧(z0=false→(z7=true→(SV.tup [z3,z2,SV.il .i64 3]).same z4)∧(z7=false→(((z8.same z8∧z9.same z9∧(SV.ow 2 0 1).same (SV.ow 2 (dcI [] (0:Int)).length 1)∧(SV.ow 3 0 8).same (SV.ow 3 (dcI [] (1:Int)).length 8)∧(SV.row z1 f).same (SV.row z1 f)∧(SV.si .i64 z5).same z11∧z12.same (SV.si .i64 0)∧True)∧z14.same z14∧z16.same z16∧(SObj.row z1 [] 3 true).same (SObj.row z1 (dcI [] (0:Int)) 3 true)∧z17.same z17∧True)∧(0:Int)≤(0:Int)∧(0:Int)≤z10)∧∀(x:Int),let z47:=nthD f x.toNat (0:Int);let z48:=decide (z47=(-1:Int));let z49:=x+(1:Int);let z50:=dcI (List.take x.toNat f) (0:Int);let z51:=SV.ow 2 z50.length 1;let z52:=List.take z49.toNat f;let z53:=SV.ow 2 (dcI z52 (0:Int)).length 1;let z54:=dcI (List.take x.toNat f) (1:Int);let z55:=SV.ow 3 z54.length 8;let z56:=SV.ow 3 (dcI z52 (1:Int)).length 8;let z57:=SV.si .i64 z49;let z58:=SObj.row z1 z50 3 true;let z59:=SObj.row z1 (dcI z52 (0:Int)) 3 true;let z60:=List.map (oI p) z54;let z61:=SObj.row SId.off z60 48 true;let z62:=SObj.row SId.off (List.map (oI p) (dcI z52 (1:Int))) 48 true;let z63:=decide (z47=(0:Int));let z64:=z50.length+1;let z65:=decide (z47=(1:Int));let z66:=z60.length+1;let z67:=z60++[nthD p.offers x.toNat z18];(0:Int)≤x∧x≤z10→(decide (x<z10)=true→(0:Int)≤x∧x<z5∧x.toNat<f.length∧(z48=true→inR .i64 z49∧((z8.same z8∧z9.same z9∧z51.same z53∧z55.same z56∧(SV.row z1 f).same (SV.row z1 f)∧z11.same z11∧z57.same z57∧True)∧z14.same z14∧z16.same z16∧z58.same z59∧z61.same z62∧True)∧((0:Int)≤z49∧z49≤z10)∧(z10 - z49).toNat<(z10 - x).toNat)∧(z48=false→(z63=true→z50.length=z50.length∧z64*8≤140737488355328∧z64≤1000000000000∧inR .i64 z49∧((z8.same z8∧z9.same z9∧(SV.ow 2 (z50++[x]).length 1).same z53∧z55.same z56∧(SV.row z1 f).same (SV.row z1 f)∧z11.same z11∧z57.same z57∧True)∧z14.same z14∧z16.same z16∧(SObj.row z1 (z50++[x]) 3 true).same z59∧z61.same z62∧True)∧((0:Int)≤z49∧z49≤z10)∧(z10 - z49).toNat<(z10 - x).toNat)∧(z63=false→(z65=true→(0:Int)≤x∧x<(↑z6:Int)∧x.toNat<z6∧z54.length=z60.length∧z66*64≤140737488355328∧z66≤1000000000000∧inR .i64 z49∧((z8.same z8∧z9.same z9∧z51.same z53∧(SV.ow 3 z67.length 8).same z56∧(SV.row z1 f).same (SV.row z1 f)∧z11.same z11∧z57.same z57∧True)∧z14.same z14∧z16.same z16∧z58.same z59∧(SObj.row SId.off z67 48 true).same z62∧True)∧((0:Int)≤z49∧z49≤z10)∧(z10 - z49).toNat<(z10 - x).toNat)∧(z65=false→(SV.tup [z3,z2,SV.il .i64 4]).same z4))))∧(decide (x<z10)=false→z54.length=z60.length∧(p.classes.length≤8∧z60.length≤1000∧∀(x:Off),x∈z60→(0:Int)≤x.bidder∧x.bidder<z19∧x.want.ok=true)∧((!fitsB p z60)=true→(SV.tup [z3,z2,SV.il .i64 14]).same z4)∧((!fitsB p z60)=false→(((z8.same z8∧z9.same z9∧z51.same z22∧z55.same z24∧z25.same z25∧z26.same z26∧z51.same z22∧(SV.si .i64 (↑z50.length:Int)).same z28∧z12.same (SV.si .i64 0)∧True)∧z14.same z14∧z16.same z16∧z58.same z29∧z61.same z31∧z32.same z32∧z34.same z34∧(SObj.row (z36.lst.pair z36) [] 115 false).same z37∧z38.same (SObj.row sF (goalR p f 0) 58 false)∧True)∧(0:Int)≤(0:Int)∧(0:Int)≤z27)∧∀(x:Int),let z68:=nthD z20 x.toNat (0:Int);let z69:=(nthD p.offers z68.toNat z18).value;let z70:=goalR p f x.toNat;let z71:=z70.length+1;let z72:=x+(1:Int);let z73:=SV.si .i64 z72;let z74:=frE (IntCast.intCast z69);let z75:=z70++[(z74.fst,z74.snd.fst,z74.snd.snd)];(0:Int)≤x∧x≤z27→(decide (x<z27)=true→z21=z20.length∧(0:Int)≤x∧x<(↑z20.length:Int)∧z21=z20.length∧x.toNat<z20.length∧(0:Int)≤z68∧z68<(↑z6:Int)∧z68.toNat<z6∧((-9223372036854775808:Int)≤z69∧z69≤(9223372036854775807:Int))∧1=1∧x.toNat=z70.length∧z71*56≤140737488355328∧z71≤1000000000000∧inR .i64 z72∧((z8.same z8∧z9.same z9∧z22.same z22∧z24.same z24∧z25.same z25∧z26.same z26∧z22.same z22∧z28.same z28∧z73.same z73∧True)∧z14.same z14∧z16.same z16∧z29.same z29∧z31.same z31∧z32.same z32∧(SObj.cells (SV.ow 7 z75.length 3::z33) 88 2 false).same (SObj.cells (SV.ow 7 z72.toNat 3::z33) 88 2 false)∧z37.same z37∧(SObj.row z36 z75 58 false).same (SObj.row sF (goalR p f z72.toNat) 58 false)∧True)∧((0:Int)≤z72∧z72≤z27)∧(z27 - z72).toNat<(z27 - x).toNat)∧(decide (x<z27)=false→p.classes.length≤8∧(((z8.same z8∧z9.same z9∧z22.same z22∧z24.same z24∧z25.same z25∧z26.same z26∧z39.same z39∧z12.same (SV.si .i64 0)∧True)∧z14.same z14∧z16.same z16∧z29.same z29∧z31.same z31∧z32.same z32∧(SObj.cells (SV.ow 7 x.toNat 3::z33) 88 2 false).same (SObj.cells (z40::z33) 88 2 false)∧z37.same (SObj.row sR (rowsQ p f 0) 115 false)∧(SObj.row sF z70 58 false).same z42∧True)∧(0:Int)≤(0:Int)∧(0:Int)≤nrows p)∧∀(x:Int),let z76:=decide (x<nrows p);let z77:=SObj.cells [z40,SV.ow 6 x.toNat 4] 88 2 false;let z78:=rowsQ p f x.toNat;let z79:=SObj.row sR z78 115 false;let z80:=frE (IntCast.intCast (boundS p x - sumS p z30 x));let z81:=[SV.sb z80.fst,SV.row z35 z80.snd.fst,SV.row z35 z80.snd.snd];let z82:=z78.length+1;let z83:=x+(1:Int);let z84:=SV.si .i64 z83;(0:Int)≤x∧x≤nrows p→(z76=true→(p.classes.length≤8∧(0:Int)≤x∧x<nrows p)∧(((z8.same z8∧z9.same z9∧z22.same z22∧z24.same z24∧z25.same z25∧z26.same z26∧(SV.si .i64 x).same (SV.si .i64 x)∧(SV.si .i64 (boundS p x)).same (SV.si .i64 (boundS p x - sumS p [] x))∧z39.same z39∧(SV.si .i64 x).same (SV.si .i64 x)∧z24.same z24∧z44.same z44∧z12.same (SV.si .i64 0)∧True)∧z14.same z14∧z16.same z16∧z29.same z29∧z31.same z31∧z32.same z32∧z77.same z77∧z79.same z79∧z42.same z42∧True)∧(0:Int)≤(0:Int)∧(0:Int)≤z43)∧∀(x_1:Int),let z85:=nthD z30 x_1.toNat z18;let z86:=boundS p x - sumS p (List.take x_1.toNat z30) x;let z87:=z86 - coefS p x z85;let z88:=x_1+(1:Int);let z89:=SV.si .i64 x;let z90:=SV.si .i64 z88;let z91:=frE (IntCast.intCast z86);(0:Int)≤x_1∧x_1≤z43→(decide (x_1<z43)=true→z23=z30.length∧(0:Int)≤x_1∧x_1<(↑z30.length:Int)∧z23=z30.length∧x_1.toNat<z30.length∧(p.classes.length≤8∧(0:Int)≤x∧x<nrows p∧(0:Int)≤z85.bidder∧z85.bidder<z19)∧inR .i64 z87∧inR .i64 z88∧((z8.same z8∧z9.same z9∧z22.same z22∧z24.same z24∧z25.same z25∧z26.same z26∧z89.same z89∧(SV.si .i64 z87).same (SV.si .i64 (boundS p x - sumS p (List.take z88.toNat z30) x))∧z39.same z39∧z89.same z89∧z24.same z24∧z44.same z44∧z90.same z90∧True)∧z14.same z14∧z16.same z16∧z29.same z29∧z31.same z31∧z32.same z32∧z77.same z77∧z79.same z79∧z42.same z42∧True)∧((0:Int)≤z88∧z88≤z43)∧(z43 - z88).toNat<(z43 - x_1).toNat)∧(decide (x_1<z43)=false→((-9223372036854775808:Int)≤z86∧z86≤(9223372036854775807:Int))∧(((z8.same z8∧z9.same z9∧z22.same z22∧z24.same z24∧z25.same z25∧z26.same z26∧z89.same z89∧z45.same z45∧z39.same z39∧z89.same z89∧z22.same z22∧z28.same z28∧z12.same (SV.si .i64 0)∧True)∧z14.same z14∧z16.same z16∧z29.same z29∧z31.same z31∧z32.same z32∧z77.same z77∧z79.same z79∧z42.same z42∧(SObj.cells [z46,SV.sb z91.fst,SV.row z35 z91.snd.fst,SV.row z35 z91.snd.snd] 115 4 false).same (SObj.cells (z46::z81) 115 4 false)∧z38.same (SObj.row sF (coefQ p f x 0) 58 false)∧True)∧(0:Int)≤(0:Int)∧(0:Int)≤z27)∧∀(x_2:Int),let z92:=nthD z20 x_2.toNat (0:Int);let z93:=nthD p.offers z92.toNat z18;let z94:=coefS p x z93;let z95:=coefQ p f x x_2.toNat;let z96:=z95.length+1;let z97:=x_2+(1:Int);let z98:=SV.si .i64 z97;let z99:=frE (IntCast.intCast z94);let z100:=z95++[(z99.fst,z99.snd.fst,z99.snd.snd)];let z101:=z78++[(z95,z80.fst,z80.snd.fst,z80.snd.snd)];(0:Int)≤x_2∧x_2≤z27→(decide (x_2<z27)=true→z21=z20.length∧(0:Int)≤x_2∧x_2<(↑z20.length:Int)∧z21=z20.length∧x_2.toNat<z20.length∧(0:Int)≤z92∧z92<(↑z6:Int)∧z92.toNat<z6∧(p.classes.length≤8∧(0:Int)≤x∧x<nrows p∧(0:Int)≤z93.bidder∧z93.bidder<z19)∧((-9223372036854775808:Int)≤z94∧z94≤(9223372036854775807:Int))∧1=1∧x_2.toNat=z95.length∧z96*56≤140737488355328∧z96≤1000000000000∧inR .i64 z97∧((z8.same z8∧z9.same z9∧z22.same z22∧z24.same z24∧z25.same z25∧z26.same z26∧z89.same z89∧z45.same z45∧z39.same z39∧z89.same z89∧z22.same z22∧z28.same z28∧z98.same z98∧True)∧z14.same z14∧z16.same z16∧z29.same z29∧z31.same z31∧z32.same z32∧z77.same z77∧z79.same z79∧z42.same z42∧(SObj.cells (SV.ow 9 z100.length 3::z81) 115 4 false).same (SObj.cells (SV.ow 9 z97.toNat 3::z81) 115 4 false)∧(SObj.row z36 z100 58 false).same (SObj.row sF (coefQ p f x z97.toNat) 58 false)∧True)∧((0:Int)≤z97∧z97≤z27)∧(z27 - z97).toNat<(z27 - x_2).toNat)∧(decide (x_2<z27)=false→x_2.toNat=z95.length∧1=1∧x.toNat=z78.length∧z82*80≤140737488355328∧z82≤1000000000000∧inR .i64 z83∧((z8.same z8∧z9.same z9∧z22.same z22∧z24.same z24∧z25.same z25∧z26.same z26∧z39.same z39∧z84.same z84∧True)∧z14.same z14∧z16.same z16∧z29.same z29∧z31.same z31∧z32.same z32∧(SObj.cells [z40,SV.ow 6 z101.length 4] 88 2 false).same (SObj.cells [z40,SV.ow 6 z83.toNat 4] 88 2 false)∧(SObj.row (z36.lst.pair z36) z101 115 false).same (SObj.row sR (rowsQ p f z83.toNat) 115 false)∧z42.same z42∧True)∧((0:Int)≤z83∧z83≤nrows p)∧(nrows p - z83).toNat<(nrows p - x).toNat)))∧(z76=false→z21=z41.length∧x.toNat=z78.length∧z21=z20.length∧(SV.tup [SV.agg [SV.row sF z41,SV.row sR z78],SV.row z1 z20,z12]).same z4))))))) (by kernel_rfl) ?_
 simp only[vcs]
 obtain⟨g1,g2,g3,g4,g5⟩:=good_of hc
 have hoi:∀k:Nat,∀o:Int,o=k→(nthD p.offers k SId.off.dflt)=oI p o:=fun k o h=>by subst h;rfl
 have hw2:∀{a b:Nat},a=b→(SV.ow 2 a 1).same (SV.ow 2 b 1):=by rintro _ _ rfl;rfl
 have hw3:∀{a b:Nat},a=b→(SV.ow 3 a 8).same (SV.ow 3 b 8):=by rintro _ _ rfl;rfl
 have hrI:∀{x y:List Int},x=y→(SObj.row (.i .i64) x 3 true).same (SObj.row (.i .i64) y 3 true):=by rintro _ _ rfl;rfl
 have hrO:∀{x y:List Off},x=y→(SObj.row .off x 48 true).same (SObj.row .off y 48 true):=by rintro _ _ rfl;rfl
 refine⟨fun h=>absurd hc h,fun _=>⟨fun h=>absurd (by rw[hl]) h,fun _=>⟨⟨⟨⟨hw2 rfl,hw3 rfl⟩,hrI rfl⟩,by omega,by omega⟩,?_⟩⟩⟩
 rintro i ⟨i0,i1⟩
 have htl:(f.take i.toNat).length≤160:=by rw[List.length_take];omega
 have hd0:=@dcI_len (f.take i.toNat) 0
 have hd1:=@dcI_len (f.take i.toNat) 1
 have hm1:(List.map (oI p) (dcI (f.take i.toNat) 1)).length=(dcI (f.take i.toNat) 1).length:=List.length_map _
 refine⟨fun hi=>?_,fun hi=>?_⟩
 ·have hs0:=@dc_succ f 0 i i0 hi
  have hs1:=@dc_succ f 1 i i0 hi
  have hrng: -1≤nthD f i.toNat 0∧nthD f i.toNat 0≤1:=by
   have:=List.all_eq_true.1 hr _ (nthD_mem (d:=0) (show i.toNat<f.length by omega))
   simpa using this
  refine⟨i0,hi,by omega,fun h1=>?_,fun h1=>⟨fun h2=>?_,fun h2=>⟨fun h3=>?_,fun h3=>by omega⟩⟩⟩
  ·rw[if_neg (by omega),List.append_nil] at hs0 hs1
   rw[hs0,hs1]
   exact⟨by omega,⟨⟨hw2 rfl,hw3 rfl⟩,hrI rfl,hrO rfl⟩,by omega,by omega⟩
  ·rw[if_pos (by omega)] at hs0
   rw[if_neg (by omega),List.append_nil] at hs1
   rw[hs0,hs1]
   exact⟨by omega,by omega,by omega,⟨⟨hw2 rfl,hw3 rfl⟩,hrI rfl,hrO rfl⟩,by omega,by omega⟩
  ·rw[if_neg (by omega),List.append_nil] at hs0
   rw[if_pos (by omega)] at hs1
   rw[hs0,hs1,hoi i.toNat i (by omega),hm1]
   have e:List.map (oI p) (dcI (f.take i.toNat) 1)++[oI p i]=List.map (oI p) (dcI (f.take i.toNat) 1++[i]):=by rw[List.map_append];rfl
   rw[e,List.length_map]
   exact⟨i0,by omega,by omega,rfl,by omega,by omega,by omega,⟨⟨hw2 rfl,hw3 rfl⟩,hrI rfl,hrO rfl⟩,by omega,by omega⟩
 ·have htk:f.take i.toNat=f:=by rw[show i.toNat=f.length by omega,List.take_length]
  rw[htk] at hd0 hd1 hm1 ⊢
  have hdl:∀d,(dcI f d).length≤160:=fun d=>by have:=@dcI_len f d;omega
  refine⟨hm1.symm,⟨g1,by omega,fun x hx=>?_⟩,fun hb=>?_,fun hb=>?_⟩
  ·obtain⟨k,hk,rfl⟩:=List.mem_map.1 hx
   have h1:=(dcI_mem.1 hk).1
   have:=off_good hc (i:=k) (by omega)
   exact⟨this.1,this.2.1,this.2.2.1⟩
  ·have hb2:fitB p f=false:=hb
   unfold relG
   simp only[hb2]
   exact⟨rfl,rfl,rfl⟩
  ·have hb2:fitB p f=true:=hb
   unfold relG
   simp only[hb2,if_true]
   have hfx:fixOk p f:=⟨hc,hl,hb⟩
   have hrS:∀{x y:List Fra},x=y→(SObj.row sF x 58 false).same (SObj.row sF y 58 false):=by rintro _ _ rfl;rfl
   have hrR:∀{x y:List (List Fra×Fra)},x=y→(SObj.row sR x 115 false).same (SObj.row sR y 115 false):=by rintro _ _ rfl;rfl
   have hc5:∀{a b c d:Nat},a=b→c=d→(SObj.cells [.ow 7 a 3,.ow 6 c 4] 88 2 false).same (SObj.cells [.ow 7 b 3,.ow 6 d 4] 88 2 false):=by rintro _ _ _ _ rfl rfl;rfl
   have hc8:∀{a b:Nat} {q q':Rat},a=b→q=q'→(SObj.cells [.ow 9 a 3,.sb (frE q).1,.row (.i .u32) (frE q).2.1,.row (.i .u32) (frE q).2.2] 115 4 false).same (SObj.cells [.ow 9 b 3,.sb (frE q').1,.row (.i .u32) (frE q').2.1,.row (.i .u32) (frE q').2.2] 115 4 false):=by rintro _ _ _ _ rfl rfl;rfl
   have hn0:=hdl 0
   have hn1:=hdl 1
   have hfree:∀j:Int,0≤j→j<(dcI f 0).length→(0≤nthD (dcI f 0) j.toNat 0∧nthD (dcI f 0) j.toNat 0<p.offers.length):=fun j h0 h1=>by
    have:=(dcI_mem.1 (nthD_mem (d:=0) (show j.toNat<(dcI f 0).length by omega))).1
    omega
   refine⟨⟨⟨⟨hw2 rfl,hw3 rfl,hw2 rfl,trivial⟩,hrI rfl,hrO rfl,hrS rfl⟩,by omega,by omega⟩,?_⟩
   rintro j ⟨j0,j1⟩
   have hgl:=@goalR_len p f j.toNat (by omega)
   refine⟨fun hj=>?_,fun hj=>?_⟩
   ·have hk:=hfree j j0 hj
    have ho:=off_good hc hk
    have hs:=@goalR_succ p f j j0 hj
    have hgl2:=@goalR_len p f (j+1).toNat (by omega)
    rw[hoi _ (nthD (dcI f 0) j.toNat 0) (by omega)]
    simp only[fra_eta]
    have e:goalR p f j.toNat++[frE (IntCast.intCast (oI p (nthD (dcI f 0) j.toNat 0)).value)]=goalR p f (j+1).toNat:=hs.symm
    rw[e]
    exact⟨j0,hj,by omega,hk.1,hk.2,by omega,by omega,by omega,by omega,by omega,by omega,⟨hc5 hgl2 rfl,hrS rfl⟩,by omega,by omega⟩
   ·rw[show j.toNat=(dcI f 0).length by omega]
    have hnr:nrows p=p.classes.length+12:=rfl
    refine⟨g1,⟨⟨hc5 rfl rfl,hrR rfl,hrS rfl⟩,by omega,by omega⟩,?_⟩
    rintro r ⟨r0,r1⟩
    have hrl:=@rowsQ_len p f r.toNat
    refine⟨fun hr2=>⟨⟨g1,r0,hr2⟩,⟨by simp[sumS],by omega,by omega⟩,?_⟩,fun hr2=>?_⟩
    ·rintro k ⟨k0,k1⟩
     have hok:∀x∈(List.map (oI p) (dcI f 1)).take k.toNat,x.want.ok=true:=fun x hx=>(in_good hfx x (List.mem_of_mem_take hx)).2.2.1
     have hsb:=@sum_bd p r ((List.map (oI p) (dcI f 1)).take k.toNat) hok
     have htl2:((List.map (oI p) (dcI f 1)).take k.toNat).length≤160:=by rw[List.length_take];omega
     have hbb:=@bound_bd p hc r
     refine⟨fun hk=>?_,fun hk=>?_⟩
     ·have hx:=in_good hfx _ (nthD_mem (d:=SId.off.dflt) (show k.toNat<(List.map (oI p) (dcI f 1)).length by omega))
      have hst:=@sum_take p r (List.map (oI p) (dcI f 1)) k SId.off.dflt k0 (by omega)
      have hcb:=@coef_bd p r _ hx.2.2.1
      exact⟨by omega,k0,by omega,by omega,by omega,⟨g1,r0,hr2,hx.1,hx.2.1⟩,by omega,by omega,by omega,by omega,by omega⟩
     ·have e:(List.map (oI p) (dcI f 1)).take k.toNat=List.map (oI p) (dcI f 1):=List.take_of_length_le (by omega)
      rw[e] at hsb htl2 ⊢
      refine⟨by omega,⟨⟨hc8 rfl rfl,hrS rfl⟩,by omega,by omega⟩,?_⟩
      rintro l ⟨l0,l1⟩
      have hcl:=@coefQ_len p f r l.toNat (by omega)
      refine⟨fun hl2=>?_,fun hl2=>?_⟩
      ·have hk:=hfree l l0 hl2
       have ho:=off_good hc hk
       have hs:=@coefQ_succ p f r l l0 hl2
       have hcl2:=@coefQ_len p f r (l+1).toNat (by omega)
       have hcb:=@coef_bd p r _ ho.2.2.1
       rw[hoi _ (nthD (dcI f 0) l.toNat 0) (by omega)]
       simp only[fra_eta]
       have e:coefQ p f r l.toNat++[frE (IntCast.intCast (coefS p r (oI p (nthD (dcI f 0) l.toNat 0))))]=coefQ p f r (l+1).toNat:=hs.symm
       rw[e]
       exact⟨l0,hl2,by omega,hk.1,hk.2,by omega,⟨g1,r0,hr2,ho.1,ho.2.1⟩,by omega,by omega,by omega,by omega,by omega,⟨hc8 hcl2 rfl,hrS rfl⟩,by omega,by omega⟩
      ·rw[show l.toNat=(dcI f 0).length by omega] at hcl ⊢
       have hs:=@rowsQ_succ p f r r0
       have hrl2:=@rowsQ_len p f (r+1).toNat
       simp only[fra_eta]
       have e:rowsQ p f r.toNat++[(coefQ p f r (dcI f 0).length,frE (IntCast.intCast (boundS p r - sumS p (List.map (oI p) (dcI f 1)) r)))]=rowsQ p f (r+1).toNat:=hs.symm
       rw[e]
       exact⟨hcl.symm,hrl.symm,by omega,by omega,by omega,⟨hc5 rfl hrl2,hrR rfl⟩,by omega,by omega⟩
    ·have e:r.toNat=mF p:=by
      show r.toNat=p.classes.length+12
      omega
     rw[e] at hrl ⊢
     rw[goalR_all,rowsQ_all]
     refine⟨?_,hrl.symm.trans (by rw[rowsQ_all]),rfl,trivial,trivial⟩
     rw[←goalR_all]
     exact(goalR_len (Nat.le_refl _)).symm
end Go.Vi
