/-
  Contracts: separate's law on losers.
  Conditions: none.
-/
import Derived.Test.YtddpfdamlefbgaaSZ06
import Derived.Test.YtddpfdamlefbgaaSZ07
import Derived.Test.YtddpfdamlefbgaaSZ08
import Derived.Test.YtddpfdamlefbgaaSZ09
import Derived.Test.YtddpfdamlefbgaaSZ10
set_option maxRecDepth 100000
set_option maxHeartbeats 4000000
set_option linter.all false
namespace Go.Vi
open Go.Proofs.Ytddpfdamlefbgaa.Ir
open Go.Proofs
def bidO (p:Prob) (i:Int):Int:=(nthD p.offers i.toNat SId.off.dflt).bidder
def wonM (p:Prob) (c:List Int):Nat→Int
 |0=>0
 |n+1=>binK.orI .i64 (wonM p c n) (1*2^(bidO p (nthD c n 0)).toNat)
def losL (l:List Fra) (W:Int) (x:Fra) (n:Nat):List Fra:=(List.range l.length).map fun j=>if j<n∧hasI W j=false then x else nthD l j sF.dflt
def orbChk:Bool:=[1,2,3,4].all fun n=>(List.range (2^n)).all fun w=>(List.range n).all fun b=>decide (0≤binK.orI .i64 w (1*2^b))&&decide (binK.orI .i64 w (1*2^b)<2^n)&&(List.range n).all fun j=>hasI (binK.orI .i64 w (1*2^b)) j==(decide (j=b)||hasI w j)
theorem orb_chk:orbChk=true:=by kernel_rfl
theorem orb_ok {n b:Nat} {w:Int} (hn:n≤4) (hb:b<n) (w0:0≤w) (w1:w<2^n):(0≤binK.orI .i64 w (1*2^b)∧binK.orI .i64 w (1*2^b)<2^n)∧∀j:Nat,j<n→hasI (binK.orI .i64 w (1*2^b)) j=(decide (j=b)||hasI w j):=by
 have hh:=orb_chk
 simp only[orbChk,List.all_eq_true,List.mem_range] at hh
 have h2:=hh n (by have:n=1∨n=2∨n=3∨n=4:=by omega
                   rcases this with h|h|h|h<;>rw[h]<;>simp) w.toNat (by
  have:((2^n:Nat):Int)=2^n:=by simp
  omega) b hb
 rw[show((w.toNat:Nat):Int)=w from by omega] at h2
 simp only[Bool.and_eq_true,decide_eq_true_eq,List.all_eq_true,List.mem_range,beq_iff_eq] at h2
 exact⟨⟨h2.1.1,h2.1.2⟩,fun j hj=>h2.2 j hj⟩
def posChk:Bool:=[0,1,2,3,4].all fun n=>(allB n).all fun bs=>(List.range 16).all fun m=>(List.range n).all fun j=>!hasI (payB bs m) j||nthD bs j false
theorem pos_chk:posChk=true:=by kernel_rfl
theorem pU_pos {V:List Int} {m:Int} {j:Nat} (h:V.length≤4) (m0:0≤m) (m1:m<16) (hj:j<V.length) (hb:hasI (pU V m) j=true):0<nthD V j 0:=by
 have hh:=pos_chk
 simp only[posChk,List.all_eq_true,List.mem_range] at hh
 have hl:(posL V).length=V.length:=by simp[posL]
 have h2:=hh V.length (by have:V.length=0∨V.length=1∨V.length=2∨V.length=3∨V.length=4:=by omega
                          rcases this with h|h|h|h|h<;>rw[h]<;>simp) (posL V) (by rw[←hl];exact allB_mem _) m.toNat (by omega) j hj
 rw[show((m.toNat:Nat):Int)=m from by omega] at h2
 rw[pay_pos] at hb
 rw[hb,pos_nthZ] at h2
 simpa using h2
theorem bid_ok {p:Prob} {c:List Int} (hf:feasE p c=0) {i:Nat} (hi:i<c.length):(0≤nthD c i 0∧nthD c i 0<p.offers.length)∧0≤bidO p (nthD c i 0)∧bidO p (nthD c i 0)<p.classes.length:=by
 obtain⟨_,_,hg,_,hm⟩:=feas_ok hf
 have h:=hm _ (nthD_mem (d:=(0:Int)) hi)
 have hx:=hg.2.2.2.2 _ (nthD_mem (d:=SId.off.dflt) (show(nthD c i 0).toNat<p.offers.length by omega))
 exact⟨h,hx.1,hx.2.1⟩
theorem won_bdZ {p:Prob} {c:List Int} (hf:feasE p c=0) (h4:p.classes.length≤4):∀{i:Nat},i≤c.length→0≤wonM p c i∧wonM p c i<2^p.classes.length
 |0,_=>by
  have:=pow_4 h4
  simp only[wonM]
  omega
 |i+1,h=>by
  have ih:=@won_bdZ p c hf h4 i (by omega)
  obtain⟨_,b0,b1⟩:=bid_ok hf (show i<c.length by omega)
  exact(orb_ok h4 (show(bidO p (nthD c i 0)).toNat<p.classes.length by omega) ih.1 ih.2).1
theorem won_hasZ {p:Prob} {c:List Int} (hf:feasE p c=0) (h4:p.classes.length≤4):∀{i:Nat},i≤c.length→∀j:Nat,j<p.classes.length→0<nthD (valsS p (c.take i)) j 0→hasI (wonM p c i) j=true
 |0,_,j,hj,hv=>by
  have:nthD (valsS p (c.take 0)) j 0=0:=by simp[valsS,nthD,hj]
  omega
 |i+1,h,j,hj,hv=>by
  have ih:=@won_bdZ p c hf h4 i (by omega)
  obtain⟨_,b0,b1⟩:=bid_ok hf (show i<c.length by omega)
  have hb:=(orb_ok h4 (show(bidO p (nthD c i 0)).toNat<p.classes.length by omega) ih.1 ih.2).2 j hj
  show hasI (binK.orI .i64 (wonM p c i) (1*2^(bidO p (nthD c i 0)).toNat)) j=true
  rw[hb]
  rw[vals_succ (by omega)] at hv
  by_cases he:j=(bidO p (nthD c i 0)).toNat
  ·simp[he]
  ·have hv2:0<nthD (valsS p (c.take i)) j 0:=by
    have hs:nthD (setV p (valsS p (c.take i)) (nthD c i 0)) j 0=nthD (valsS p (c.take i)) j 0:=by
     show(((valsS p (c.take i)).set (bidO p (nthD c i 0)).toNat _)[j]?).getD 0=_
     rw[List.getElem?_set_ne (fun h=>he h.symm)]
     rfl
    rw[hs] at hv
    exact hv
   rw[won_hasZ hf h4 (by omega) j hj hv2]
   simp
theorem los_len {l:List Fra} {W:Int} {x:Fra} {n:Nat}:(losL l W x n).length=l.length:=by simp[losL]
theorem los_nth {l:List Fra} {W:Int} {x:Fra} {n j:Nat} (hj:j<l.length):nthD (losL l W x n) j sF.dflt=if j<n∧hasI W j=false then x else nthD l j sF.dflt:=by
 rw[nthD_eq (by rw[los_len];exact hj)]
 simp[losL]
theorem los_zero {l:List Fra} {W:Int} {x:Fra}:losL l W x 0=l:=by
 refine List.ext_getElem (by simp[losL]) fun j h1 h2=>?_
 simp[losL,nthD,h2]
theorem los_succ {l:List Fra} {W:Int} {x:Fra} {n:Nat} (hn:n<l.length):losL l W x (n+1)=if hasI W n=false then(losL l W x n).set n x else losL l W x n:=by
 split
 ·rename_i h
  refine List.ext_getElem (by simp[losL]) fun j h1 h2=>?_
  rw[List.getElem_set]
  split
  ·rename_i he;subst he
   simp[losL,h]
  ·rename_i he
   simp only[losL,List.getElem_map,List.getElem_range]
   by_cases hc:j<n∧hasI W j=false
   ·rw[if_pos hc,if_pos ⟨by omega,hc.2⟩]
   ·rw[if_neg hc,if_neg (fun h3=>hc ⟨by omega,h3.2⟩)]
 ·rename_i h
  refine List.ext_getElem (by simp[losL]) fun j h1 h2=>?_
  simp only[losL,List.getElem_map,List.getElem_range]
  by_cases hc:j<n∧hasI W j=false
  ·rw[if_pos hc,if_pos ⟨by omega,hc.2⟩]
  ·rw[if_neg hc,if_neg (fun h3=>by
    by_cases hjn:j=n
    ·subst hjn;exact h h3.2
    ·exact hc ⟨by omega,h3.2⟩)]
theorem paid_los {l:List Fra} {P W:Int} {x:Fra} (h:∀j:Nat,j<l.length→hasI P j=true→hasI W j=true):∀{n:Nat},n≤l.length→paidQ (losL l W x l.length) P n=paidQ l P n
 |0,_=>rfl
 |n+1,hn=>by
  have ih:=@paid_los l P W x h n (by omega)
  rw[paidQ_succ,paidQ_succ,ih]
  by_cases hb:hasI P n=true
  ·rw[if_pos hb,if_pos hb,los_nth (by omega),if_neg (by rw[h n (by omega) hb];simp)]
  ·rw[if_neg hb,if_neg hb]
theorem gn_los {p:Prob} {V:List Int} {l:List Fra} {W:Int} {x:Fra} (hl:l.length=V.length) (h4:V.length≤4) (hW:∀j:Nat,j<V.length→0<nthD V j 0→hasI W j=true) {m:Int} (m0:0≤m) (m1:m<16):
  gnQ p V (losL l W x l.length) m=gnQ p V l m:=by
 show(lU V m (worthS p m):Rat) - paidQ (losL l W x l.length) (pU V m) (losL l W x l.length).length=(lU V m (worthS p m):Rat) - paidQ l (pU V m) l.length
 rw[los_len,paid_los (fun j hj hb=>hW j (by omega) (pU_pos h4 m0 m1 (by omega) hb)) (Nat.le_refl _)]
theorem bst_los {p:Prob} {V:List Int} {l:List Fra} {W:Int} {x:Fra} (hl:l.length=V.length) (h4:V.length≤4) (hW:∀j:Nat,j<V.length→0<nthD V j 0→hasI W j=true):∀m:Nat,m≤16→bstM p V (losL l W x l.length) m=bstM p V l m
 |0,_=>rfl
 |m+1,h=>by
  rw[bstM_succ,bstM_succ,bst_los hl h4 hW m (by omega),gn_los hl h4 hW (by omega) (by omega)]
abbrev A509:=Prob×Alloc×List Fra×Fra
def r509v (D:A509→Prop):SCtr:=⟨4,A509,.cons codP (.cons codA (.cons (codR sF) (.one (codE sF)))),fun a=>(rowD a.2.2.1∧Dig a.2.2.2.2.1∧Dig a.2.2.2.2.2)∧D a,fun _=> .sb true⟩
def O509 (a:A509):SStore:=let f:=finN a.1 a.2.1.chosen
 [.cells a.1.ss 27 20 false,.cells [.row (.i .i64) a.2.1.chosen,.si .i64 a.2.1.value] 29 2 false,fCells a.2.2.2,.cells (a.1.ss++[.row (.i .i64) f.vals,.si .i64 f.wins,.mp 4,.mp 5]) 75 24 false,
  .map (.i .i64) (.i .i64) false (worM a.1 (nOf f) f.wor) ([0],false) true,.map (.i .i64) .b false (senM a.1 f.vals a.2.2.1 (nOf f) f.seen) ([0],false) true,.cells (encS sStp (stpO a.1 f.vals a.2.2.1 (bstM a.1 f.vals a.2.2.1 (nOf f)))) 47 7 false]
def Λ509 (a:A509):Nat→LoopAnn
 |11=> .inv Int (fun i=>⟨[(2,.row sF a.2.2.1),(4,.ptr 0 0 20),(5,.ptr 1 0 2),(7,.ptr 2 0 3),(9,.ptr 3 0 24),(11,.ptr 6 0 7),(12,.sb (bstM a.1 (finN a.1 a.2.1.chosen).vals a.2.2.1 (nOf (finN a.1 a.2.1.chosen))).1),(14,.si .i64 (wonM a.1 a.2.1.chosen i.toNat)),(15,.si .i64 i)],O509 a⟩)
   (fun s=>iS s 15) (fun i=>0≤i∧i≤a.2.1.chosen.length) (fun i=>(a.2.1.chosen.length - i).toNat) fun _ _=> .look
 |16=> .inv Int (fun i=>⟨[(7,.ptr 2 0 3),(9,.ptr 3 0 24),(11,.ptr 6 0 7),(12,.sb (bstM a.1 (finN a.1 a.2.1.chosen).vals a.2.2.1 (nOf (finN a.1 a.2.1.chosen))).1),(14,.si .i64 (wonM a.1 a.2.1.chosen a.2.1.chosen.length)),(16,.ow 7 a.2.2.1.length 3),(17,.si .i64 i)],
   O509 a++[.row sF (losL a.2.2.1 (wonM a.1 a.2.1.chosen a.2.1.chosen.length) a.2.2.2 i.toNat) 45 true,.dead]⟩)
   (fun s=>iS s 17) (fun i=>0≤i∧i≤a.2.2.1.length) (fun i=>(a.2.2.1.length - i).toNat) fun _ _=> .look
 |_=> .look
theorem h509a:Holds Try.prog (r509v fun a=>newE a.1 a.2.1≠0):=by
 refine conE (L:=[r511,r512,r46,r93]) (W:=ownT [r513e]) (r509v _) (fG 4) lk (ownT_ok (by simpa using h513e)) (by simpa using⟨h511,h512,h46,h93⟩) ?_
 rintro⟨p,⟨c,v⟩,l,x⟩ ⟨⟨hl,hx1,hx2⟩,hE⟩
 refine vcOf (let z1:=(x.fst,x.snd.fst,x.snd.snd);let z2:=decide ((12:Int)<(↑c.length:Int));let z3:=decide (newE p (Alloc.mk c v)≠(0:Int));let z0:=fun(u:Bool) ↦(!litB p (8:Int) [l,[z1]])=u;True∧(z0 true→True∧(SV.sb true).same (SV.sb true))∧(z0 false→(z2=true→True∧(SV.sb true).same (SV.sb true))∧(z2=false→((Dig x.snd.fst∧Dig x.snd.snd)∧List.length x.snd.fst≤10000000∧List.length x.snd.snd≤10000000)∧((!okF z1)=true→True∧(SV.sb true).same (SV.sb true))∧((!okF z1)=false→(newE p (Alloc.mk c v)≠(0:Int)∧c.length≤1000)∧(z3=true→((z3==true)=true→True∧(SV.sb true).same (SV.sb true))∧((z3==true)=false→(SV.bl false).same (SV.sb true)))∧(z3=false→((z3==true)=true→True∧(SV.sb true).same (SV.sb true))∧((z3==true)=false→(SV.bl false).same (SV.sb true))))))) (by kernel_rfl) ?_
 simp only[vcs]
 have hE:newE p ⟨c,v⟩≠0:=hE
 have hx1:Dig x.2.1:=hx1
 have hx2:Dig x.2.2:=hx2
 have hd:(decide (newE p ⟨c,v⟩≠0)==true)=true:=by simp[hE]
 refine⟨fun _=>trivial,fun hb=>⟨fun _=>trivial,fun hc=>⟨⟨⟨hx1,hx2⟩,?_⟩,fun _=>trivial,fun _=>⟨⟨hE,by omega⟩,fun _=>⟨fun _=>trivial,fun h=>by rw[hd] at h;cases h⟩,fun h=>absurd hE h⟩⟩⟩⟩
 obtain⟨_,_,_,h4⟩:=lit_ok hb
 have h5:=(h4 [x] (by simp)).2 x (by simp)
 exact⟨by omega,by omega⟩
theorem h509b:Holds Try.prog (r509v fun a=>newE a.1 a.2.1=0∧fndE (finN a.1 a.2.1.chosen) a.2.2.1≠0):=by
 refine conE (L:=[r511,r512,r46,r93]) (W:=ownT [r513,r514e]) (r509v _) (fG 4) lk (ownT_ok (by simpa using⟨h513,h514e⟩)) (by simpa using⟨h511,h512,h46,h93⟩) ?_
 rintro⟨p,⟨c,v⟩,l,x⟩ ⟨⟨hl,hx1,hx2⟩,hE,hF⟩
 refine vcOf (let z1:=(x.fst,x.snd.fst,x.snd.snd);let z2:=decide ((12:Int)<(↑c.length:Int));let z3:=decide ((↑l.length:Int)≠(↑p.classes.length:Int));let z4:=decide (fndE (finN p c) l≠(0:Int));let z5:=SV.il .i64 0;let z6:=SId.i .i64;let z7:=SId.i .u32;let z8:=(finN p c).p;let z9:=z8.supply;let z10:=([0],false);let z0:=fun(u:Bool) ↦(!litB p (8:Int) [l,[z1]])=u;True∧(z0 true→True∧(SV.sb true).same (SV.sb true))∧(z0 false→(z2=true→True∧(SV.sb true).same (SV.sb true))∧(z2=false→((Dig x.snd.fst∧Dig x.snd.snd)∧List.length x.snd.fst≤10000000∧List.length x.snd.snd≤10000000)∧((!okF z1)=true→True∧(SV.sb true).same (SV.sb true))∧((!okF z1)=false→((feasE p c=(0:Int)∧v=valueS p c)∧p.classes.length≤4∧c.length≤1000)∧(false=true→(true=true→True∧(SV.sb true).same (SV.sb true))∧(true=false→(SV.bl false).same (SV.sb true)))∧(false=false→(z3=true→(true=true→True∧(SV.sb true).same (SV.sb true))∧(true=false→(SV.bl false).same (SV.sb true)))∧(z3=false→(rawP l∧fndE (finN p c) l≠(0:Int))∧(z4=true→True∧(SV.sb true).same (SV.sb true))∧(z4=false→Look (SSt.mk [(2,SV.row sF l),(4,SV.ptr 0 0 20),(5,SV.ptr 1 0 2),(7,SV.ptr 2 0 3),(9,SV.ptr 3 0 24),(11,SV.ptr 6 0 7),(12,SV.sb false),(14,z5),(15,z5)] [SObj.cells [SV.si .i64 p.supply.a0,SV.si .i64 p.supply.a1,SV.si .i64 p.supply.a2,SV.si .i64 p.supply.a3,SV.si .i64 p.supply.a4,SV.si .i64 p.supply.a5,SV.si .i64 p.opn.a0,SV.si .i64 p.opn.a1,SV.si .i64 p.opn.a2,SV.si .i64 p.opn.a3,SV.si .i64 p.opn.a4,SV.si .i64 p.opn.a5,SV.si .i64 p.cls.a0,SV.si .i64 p.cls.a1,SV.si .i64 p.cls.a2,SV.si .i64 p.cls.a3,SV.si .i64 p.cls.a4,SV.si .i64 p.cls.a5,SV.row z6 p.classes,SV.row SId.off p.offers] 27 20 false,SObj.cells [SV.row z6 c,SV.si .i64 v] 29 2 false,SObj.cells [SV.sb x.fst,SV.row z7 x.snd.fst,SV.row z7 x.snd.snd] 45 3 false,SObj.cells [SV.si .i64 z9.a0,SV.si .i64 z9.a1,SV.si .i64 z9.a2,SV.si .i64 z9.a3,SV.si .i64 z9.a4,SV.si .i64 z9.a5,SV.si .i64 z8.opn.a0,SV.si .i64 z8.opn.a1,SV.si .i64 z8.opn.a2,SV.si .i64 z8.opn.a3,SV.si .i64 z8.opn.a4,SV.si .i64 z8.opn.a5,SV.si .i64 z8.cls.a0,SV.si .i64 z8.cls.a1,SV.si .i64 z8.cls.a2,SV.si .i64 z8.cls.a3,SV.si .i64 z8.cls.a4,SV.si .i64 z8.cls.a5,SV.row z6 z8.classes,SV.row SId.off z8.offers,SV.row z6 (finN p c).vals,SV.si .i64 (finN p c).wins,SV.mp 4,SV.mp 5] 75 24 false,SObj.map z6 z6 false (finN p c).wor z10 true,SObj.map z6 SId.b false (finN p c).seen z10 true,SObj.cells [SV.si .i64 stpZ.fst.payers,SV.si .i64 stpZ.fst.least,SV.si .i64 stpZ.snd.fst.payers,SV.si .i64 stpZ.snd.fst.least,SV.sb stpZ.snd.snd.fst,SV.row z7 stpZ.snd.snd.snd.fst,SV.row z7 stpZ.snd.snd.snd.snd] 47 7 false])))))))) (by kernel_rfl) ?_
 simp only[vcs]
 have hE:newE p ⟨c,v⟩=0:=hE
 have hF:fndE (finN p c) l≠0:=hF
 have hl:rowD l:=hl
 have hx1:Dig x.2.1:=hx1
 have hx2:Dig x.2.2:=hx2
 have hz:=newE_zero hE
 refine⟨fun _=>trivial,fun hb=>⟨fun _=>trivial,fun hc=>?_⟩⟩
 obtain⟨_,h4,_,h5⟩:=lit_ok hb
 have h6:=(h5 [x] (by simp)).2 x (by simp)
 have h7:=h5 l (by simp)
 exact⟨⟨⟨hx1,hx2⟩,by omega,by omega⟩,fun _=>trivial,fun _=>⟨⟨hz,h4,by omega⟩,fun h=>(by cases h),fun _=>⟨fun _=>⟨fun _=>trivial,fun h=>(by cases h)⟩,fun _=>⟨⟨raw_lit hl h7.1 h7.2,hF⟩,fun _=>trivial,fun h=>absurd hF h⟩⟩⟩⟩
theorem h509c:Holds Try.prog (r509v fun a=>newE a.1 a.2.1=0∧fndE (finN a.1 a.2.1.chosen) a.2.2.1=0):=by
 refine conE (L:=[r511,r512,r46,r93]) (W:=ownT [r513,r514]) (r509v _) (fG 4) Λ509 (ownT_ok (by simpa using⟨h513,h514⟩)) (by simpa using⟨h511,h512,h46,h93⟩) ?_
 rintro⟨p,⟨c,v⟩,l,x⟩ ⟨⟨hl,hx1,hx2⟩,hE,hF⟩
 refine vcOf (let z1:=(x.fst,x.snd.fst,x.snd.snd);let z2:=(↑c.length:Int);let z3:=decide ((12:Int)<z2);let z4:=decide ((↑l.length:Int)≠(↑p.classes.length:Int));let z5:=SV.ptr 0 0 20;let z6:=SV.ptr 1 0 2;let z7:=SV.ptr 2 0 3;let z8:=SV.ptr 3 0 24;let z9:=SV.ptr 6 0 7;let z10:=(finN p c).p;let z11:=(finN p c).vals;let z12:=nOf (finN p c);let z13:=(bstM p z11 l z12).fst;let z14:=SV.il .i64 0;let z15:=SV.si .i64 p.supply.a0;let z16:=SV.si .i64 p.supply.a1;let z17:=SV.si .i64 p.supply.a2;let z18:=SV.si .i64 p.supply.a3;let z19:=SV.si .i64 p.supply.a4;let z20:=SV.si .i64 p.supply.a5;let z21:=SV.si .i64 p.opn.a0;let z22:=SV.si .i64 p.opn.a1;let z23:=SV.si .i64 p.opn.a2;let z24:=SV.si .i64 p.opn.a3;let z25:=SV.si .i64 p.opn.a4;let z26:=SV.si .i64 p.opn.a5;let z27:=SV.si .i64 p.cls.a0;let z28:=SV.si .i64 p.cls.a1;let z29:=SV.si .i64 p.cls.a2;let z30:=SV.si .i64 p.cls.a3;let z31:=SV.si .i64 p.cls.a4;let z32:=SV.si .i64 p.cls.a5;let z33:=SId.i .i64;let z34:=SV.row z33 p.classes;let z35:=SV.row SId.off p.offers;let z36:=SObj.cells [z15,z16,z17,z18,z19,z20,z21,z22,z23,z24,z25,z26,z27,z28,z29,z30,z31,z32,z34,z35] 27 20 false;let z37:=SObj.cells [SV.row z33 c,SV.si .i64 v] 29 2 false;let z38:=SId.i .u32;let z39:=SObj.cells [SV.sb x.fst,SV.row z38 x.snd.fst,SV.row z38 x.snd.snd] 45 3 false;let z40:=z10.supply;let z41:=z10.opn;let z42:=z10.cls;let z43:=[SV.row z33 z11,SV.si .i64 (finN p c).wins,SV.mp 4,SV.mp 5];let z44:=SObj.cells (z15::z16::z17::z18::z19::z20::z21::z22::z23::z24::z25::z26::z27::z28::z29::z30::z31::z32::z34::z35::z43) 75 24 false;let z45:=([0],false);let z46:=worM p z12 (finN p c).wor;let z47:=SObj.map z33 z33 false z46 z45 true;let z48:=senM p z11 l z12 (finN p c).seen;let z49:=SObj.map z33 SId.b false z48 z45 true;let z50:=stpO z10 z11 l (bstM z10 z11 l z12);let z51:=stpO p z11 l (bstM p z11 l z12);let z52:=z51.snd.snd.snd.fst;let z53:=z51.snd.snd.snd.snd;let z54:=SObj.cells [SV.si .i64 z51.fst.payers,SV.si .i64 z51.fst.least,SV.si .i64 z51.snd.fst.payers,SV.si .i64 z51.snd.fst.least,SV.sb z51.snd.snd.fst,SV.row z38 z52,SV.row z38 z53] 47 7 false;let z55:=(↑c.length:Int);let z56:=0+l.length;let z57:=wonM p c c.length;let z58:=SV.si .i64 z57;let z59:=SV.ow 7 l.length 3;let z60:=(↑l.length:Int);let z61:=FnF.mk p z11 (finN p c).wins z46 z48;let z0:=fun(u:Bool) ↦(!litB p (8:Int) [l,[z1]])=u;True∧(z0 true→True∧(SV.sb true).same (SV.sb true))∧(z0 false→(z3=true→True∧(SV.sb true).same (SV.sb true))∧(z3=false→((Dig x.snd.fst∧Dig x.snd.snd)∧List.length x.snd.fst≤10000000∧List.length x.snd.snd≤10000000)∧((!okF z1)=true→True∧(SV.sb true).same (SV.sb true))∧((!okF z1)=false→((feasE p c=(0:Int)∧v=valueS p c)∧p.classes.length≤4∧c.length≤1000)∧(false=true→(true=true→True∧(SV.sb true).same (SV.sb true))∧(true=false→(SV.bl false).same (SV.sb true)))∧(false=false→(z4=true→(true=true→True∧(SV.sb true).same (SV.sb true))∧(true=false→(SV.bl false).same (SV.sb true)))∧(z4=false→((okFn (finN p c)∧rawP l)∧fndE (finN p c) l=(0:Int))∧(false=true→True∧(SV.sb true).same (SV.sb true))∧(false=false→((((SV.row sF l).same (SV.row sF l)∧z5.same z5∧z6.same z6∧z7.same z7∧z8.same z8∧z9.same z9∧(SV.sb (bstM z10 z11 l z12).fst).same (SV.sb z13)∧z14.same (SV.si .i64 (wonM p c 0))∧z14.same (SV.si .i64 0)∧True)∧z36.same z36∧z37.same z37∧(SObj.cells [SV.sb x.fst,SV.row z38 x.snd.fst,SV.row z38 x.snd.snd] 45 3 false).same z39∧(SObj.cells (SV.si .i64 z40.a0::SV.si .i64 z40.a1::SV.si .i64 z40.a2::SV.si .i64 z40.a3::SV.si .i64 z40.a4::SV.si .i64 z40.a5::SV.si .i64 z41.a0::SV.si .i64 z41.a1::SV.si .i64 z41.a2::SV.si .i64 z41.a3::SV.si .i64 z41.a4::SV.si .i64 z41.a5::SV.si .i64 z42.a0::SV.si .i64 z42.a1::SV.si .i64 z42.a2::SV.si .i64 z42.a3::SV.si .i64 z42.a4::SV.si .i64 z42.a5::SV.row z33 z10.classes::SV.row SId.off z10.offers::z43) 75 24 false).same z44∧(SObj.map z33 z33 false (worM z10 z12 (finN p c).wor) z45 true).same z47∧(SObj.map z33 SId.b false (senM z10 z11 l z12 (finN p c).seen) z45 true).same z49∧(SObj.cells [SV.si .i64 z50.fst.payers,SV.si .i64 z50.fst.least,SV.si .i64 z50.snd.fst.payers,SV.si .i64 z50.snd.fst.least,SV.sb z50.snd.snd.fst,SV.row z38 z50.snd.snd.snd.fst,SV.row z38 z50.snd.snd.snd.snd] 47 7 false).same z54∧True)∧(0:Int)≤(0:Int)∧(0:Int)≤z55)∧∀(x_1:Int),let z62:=nthD c x_1.toNat (0:Int);let z63:=(nthD p.offers z62.toNat SId.off.dflt).bidder;let z64:=(1:Int)*(2:Int)^z63.toNat;let z65:=x_1+(1:Int);let z66:=SV.si .i64 z65;(0:Int)≤x_1∧x_1≤z55→(decide (x_1<z2)=true→(0:Int)≤x_1∧x_1<z2∧x_1.toNat<c.length∧(0:Int)≤z62∧z62<(↑p.offers.length:Int)∧z62.toNat<p.offers.length∧(0:Int)≤z63∧z63≤(64:Int)∧inR .i64 z64∧inR .i64 z65∧(((SV.row sF l).same (SV.row sF l)∧z5.same z5∧z6.same z6∧z7.same z7∧z8.same z8∧z9.same z9∧(SV.sb z13).same (SV.sb z13)∧(SV.si .i64 (binK.orI .i64 (wonM p c x_1.toNat) z64)).same (SV.si .i64 (wonM p c z65.toNat))∧z66.same z66∧True)∧z36.same z36∧z37.same z37∧z39.same z39∧z44.same z44∧z47.same z47∧z49.same z49∧z54.same z54∧True)∧((0:Int)≤z65∧z65≤z55)∧(z55 - z65).toNat<(z55 - x_1).toNat)∧(decide (x_1<z2)=false→0=0∧z56*56≤140737488355328∧z56≤1000000000000∧(((z7.same z7∧z8.same z8∧z9.same z9∧(SV.sb z13).same (SV.sb z13)∧(SV.si .i64 (wonM p c x_1.toNat)).same z58∧(SV.ow 7 l.length 3).same z59∧z14.same (SV.si .i64 0)∧True)∧z36.same z36∧z37.same z37∧z39.same z39∧z44.same z44∧z47.same z47∧z49.same z49∧z54.same z54∧(SObj.row (SId.b.pair (z38.lst.pair z38.lst)) l 45 true).same (SObj.row sF (losL l z57 x 0) 45 true)∧SObj.dead.same SObj.dead∧True)∧(0:Int)≤(0:Int)∧(0:Int)≤z60)∧∀(x_2:Int),let z71:=losL l z57 x x_2.toNat;let z72:=bstM p z11 z71 (nOf z61);let z73:=(stpO p z11 z71 z72).snd;let z74:=x_2+(1:Int);let z75:=SV.si .i64 z74;let z76:=(stpO p z11 z71 z72).fst;let z77:=decide (binK.andI .i64 (z57 / (2:Int)^x_2.toNat) (1:Int)=(0:Int));let z67:=fun(u:Bool) ↦decide ((z51.snd.snd.fst,z52,z53)=(z73.snd.fst,z73.snd.snd.fst,z73.snd.snd.snd))=u;let z68:=fun(u:SObj) ↦inR .i64 z74∧((z7.same z7∧z8.same z8∧z9.same z9∧(SV.sb z13).same (SV.sb z13)∧z58.same z58∧z59.same z59∧z75.same z75∧True)∧z36.same z36∧z37.same z37∧z39.same z39∧z44.same z44∧z47.same z47∧z49.same z49∧z54.same z54∧u.same (SObj.row sF (losL l z57 x z74.toNat) 45 true)∧SObj.dead.same SObj.dead∧True)∧((0:Int)≤z74∧z74≤z60)∧(z60 - z74).toNat<(z60 - x_2).toNat;let z69:=fun(u:Bool) ↦(decide (z51.snd.fst.payers=z73.fst.payers)&&(decide (z51.snd.fst.least=z73.fst.least)&&true))=u;let z70:=fun(u:Bool) ↦(decide (z51.fst.payers=z76.payers)&&(decide (z51.fst.least=z76.least)&&true))=u;(0:Int)≤x_2∧x_2≤z60→(decide (x_2<z60)=true→inR .u64 x_2∧(0:Int)≤x_2∧x_2≤(64:Int)∧(z77=true→l.length=z71.length∧(0:Int)≤x_2∧x_2<(↑z71.length:Int)∧l.length=z71.length∧x_2.toNat<z71.length∧z68 (SObj.row sF (z71.set x_2.toNat (x.fst,x.snd.fst,x.snd.snd)) 45 true))∧(z77=false→z68 (SObj.row sF z71 45 true)))∧(decide (x_2<z60)=false→l.length=z71.length∧((okFn z61∧rawP z71)∧fndE z61 z71=(0:Int))∧(true=true→((z13==z72.fst)=true→(z70 true→(z69 true→((List.length z52≤1000000000∧List.length z53≤1000000000)∧List.length z73.snd.snd.fst≤1000000000∧List.length z73.snd.snd.snd≤1000000000)∧(z67 true→True∧(SV.sb true).same (SV.sb true))∧(z67 false→(SV.bl false).same (SV.sb true)))∧(z69 false→(SV.bl false).same (SV.sb true)))∧(z70 false→(SV.bl false).same (SV.sb true)))∧((z13==z72.fst)=false→(SV.bl false).same (SV.sb true)))∧(true=false→(SV.bl false).same (SV.sb true))))))))))) (by kernel_rfl) ?_
 simp only[vcs]
 have hE:newE p ⟨c,v⟩=0:=hE
 have hF:fndE (finN p c) l=0:=hF
 have hl:rowD l:=hl
 have hx1:Dig x.2.1:=hx1
 have hx2:Dig x.2.2:=hx2
 have hz:=newE_zero hE
 have hz1:feasE p c=0:=hz.1
 refine⟨fun _=>trivial,fun hb=>⟨fun _=>trivial,fun hc=>?_⟩⟩
 obtain⟨_,h4,_,h5⟩:=lit_ok hb
 have h6:=(h5 [x] (by simp)).2 x (by simp)
 have h5:=h5 l (by simp)
 have hraw:=raw_lit hl h5.1 h5.2
 obtain⟨hln,hok⟩:=fnd_ok hF
 have hfn:=okFn_new hz.1 h4
 have hV:(valsS p c).length=p.classes.length:=hfn.l
 have hln:l.length=(valsS p c).length:=hln
 have h16:=pow_4 h4
 have eN:((nOf (finN p c):Nat):Int)=2^p.classes.length:=by
  unfold nOf
  show((2^p.classes.length:Nat):Int)=_
  simp
 have ep:(finN p c).p=p:=rfl
 have ev:(finN p c).vals=valsS p c:=rfl
 have hW:∀j:Nat,j<(valsS p c).length→0<nthD (valsS p c) j 0→hasI (wonM p c c.length) j=true:=fun j hj hv=>won_hasZ hz1 h4 (Nat.le_refl _) j (by omega) (by rw[List.take_length];exact hv)
 have hbl:=@bst_los p (valsS p c) l (wonM p c c.length) x hln (by omega) hW (nOf (finN p c)) (by omega)
 have hgn:=bstM_gn p (valsS p c) l (nOf (finN p c))
 have hst:stpO p (valsS p c) (losL l (wonM p c c.length) x l.length) (bstM p (valsS p c) l (nOf (finN p c)))=stpO p (valsS p c) l (bstM p (valsS p c) l (nOf (finN p c))):=by
  unfold stpO
  split
  ·rename_i h
   obtain⟨_,g2,g3,_⟩:=hgn h
   unfold stpM
   rw[gn_los hln (by omega) hW g2 (by omega)]
  ·rfl
 have hfew:List.length (stpO p (valsS p c) l (bstM p (valsS p c) l (nOf (finN p c)))).2.2.2.1≤1000000000∧List.length (stpO p (valsS p c) l (bstM p (valsS p c) l (nOf (finN p c)))).2.2.2.2≤1000000000:=by
  unfold stpO
  split
  ·obtain⟨q,k,hq,hsz,hk⟩:=gn_isF hfn (rawP_pay hraw (by omega) hok) (bstM p (valsS p c) l (nOf (finN p c))).2.1
   have:=frE_len hsz
   rw[←hq] at this
   exact⟨Nat.le_trans this.1 (by omega),Nat.le_trans this.2 (by omega)⟩
  ·exact⟨by simp[stpZ],by simp[stpZ]⟩
 simp only[ep,ev]
 refine⟨⟨⟨hx1,hx2⟩,by omega,by omega⟩,fun _=>trivial,fun hox=>⟨⟨hz,h4,by omega⟩,fun h=>(by cases h),fun _=>⟨fun _=>⟨fun _=>trivial,fun h=>(by cases h)⟩,fun _=>⟨⟨⟨hfn,hraw⟩,hF⟩,fun h=>(by cases h),fun _=>⟨?_,?_⟩⟩⟩⟩⟩
 ·exact⟨⟨⟨trivial,rfl⟩,rfl,rfl,rfl,rfl⟩,by omega,by omega⟩
 rintro i ⟨i0,i1⟩
 have e:(i+1).toNat=i.toNat+1:=by omega
 refine⟨fun hi=>?_,fun hi=>?_⟩
 ·obtain⟨⟨a0,a1⟩,b0,b1⟩:=bid_ok hz1 (show i.toNat<c.length by omega)
  have b0:0≤(nthD p.offers (nthD c i.toNat 0).toNat SId.off.dflt).bidder:=b0
  have b1:(nthD p.offers (nthD c i.toNat 0).toNat SId.off.dflt).bidder<p.classes.length:=b1
  have hp2:(2:Int)^(nthD p.offers (nthD c i.toNat 0).toNat SId.off.dflt).bidder.toNat≤16∧0<(2:Int)^(nthD p.offers (nthD c i.toNat 0).toNat SId.off.dflt).bidder.toNat:=by
   have:=@pow_4 (nthD p.offers (nthD c i.toNat 0).toNat SId.off.dflt).bidder.toNat (by omega)
   omega
  rw[e]
  exact⟨i0,hi,by omega,a0,a1,by omega,b0,by omega,⟨by omega,by omega⟩,⟨by omega,by omega⟩,rfl,⟨by omega,by omega⟩,by omega⟩
 ·have hil:i.toNat=c.length:=by omega
  rw[hil]
  have hwb:=@won_bdZ p c hz1 h4 c.length (Nat.le_refl _)
  refine⟨by omega,by omega,⟨⟨rfl,by rw[los_zero];rfl⟩,by omega,by omega⟩,?_⟩
  rintro k ⟨k0,k1⟩
  have ek:(k+1).toNat=k.toNat+1:=by omega
  have eik:((k.toNat:Nat):Int)=k:=by omega
  simp only[los_len]
  refine⟨fun hk=>?_,fun hk=>?_⟩
  ·have hms:=@los_succ l (wonM p c c.length) x k.toNat (by omega)
   rw[eik] at hms
   rw[ek]
   obtain⟨n0,n1⟩:=half_nn (i:=k.toNat) hwb.1
   have hb3:binK.andI .i64 (wonM p c c.length / 2^k.toNat) 1=0↔hasI (wonM p c c.length) k=false:=by
    rw[and_one n0 (by omega)]
    unfold hasI
    rw[decide_eq_false_iff_not]
    omega
   refine⟨u64_in (by omega) (by omega),k0,by omega,fun h1=>?_,fun h1=>?_⟩
   ·rw[hb3] at h1
    rw[if_pos h1] at hms
    rw[hms]
    exact⟨trivial,k0,hk,trivial,by omega,by omega,rfl,by omega,by omega⟩
   ·rw[hb3] at h1
    rw[if_neg h1] at hms
    rw[hms]
    exact⟨by omega,rfl,by omega,by omega⟩
  ·have hkl:k.toNat=l.length:=by omega
   rw[hkl]
   have hlx:∀y∈losL l (wonM p c c.length) x l.length,y=x∨y∈l:=by
    intro y hy
    obtain⟨j,hj,rfl⟩:=List.getElem_of_mem hy
    rw[los_len] at hj
    have hn:=@los_nth l (wonM p c c.length) x l.length j hj
    rw[nthD_eq (by rw[los_len];exact hj)] at hn
    rw[hn]
    split
    ·exact .inl rfl
    ·exact .inr (nthD_mem hj)
   have hrl:rawP (losL l (wonM p c c.length) x l.length):=⟨by rw[los_len];omega,fun y hy=>by
    rcases hlx y hy with rfl|h
    ·exact⟨⟨hx1,hx2⟩,by omega,by omega⟩
    ·exact hraw.2 y h⟩
   have hol:okPay (losL l (wonM p c c.length) x l.length)=true:=by
    unfold okPay
    rw[List.all_eq_true]
    intro y hy
    rcases hlx y hy with rfl|h
    ·exact hox
    ·exact List.all_eq_true.1 hok y h
   have hfe:fndE ⟨p,valsS p c,(finN p c).wins,worM p (nOf (finN p c)) (finN p c).wor,senM p (valsS p c) l (nOf (finN p c)) (finN p c).seen⟩ (losL l (wonM p c c.length) x l.length)=0:=by
    unfold fndE
    rw[if_neg (by rw[los_len];exact fun h=>h hln),if_neg (by rw[hol];decide)]
   have hno:nOf ⟨p,valsS p c,(finN p c).wins,worM p (nOf (finN p c)) (finN p c).wor,senM p (valsS p c) l (nOf (finN p c)) (finN p c).seen⟩=nOf (finN p c):=rfl
   rw[hno,hbl,hst]
   refine⟨trivial,⟨⟨okFn_st hfn l _,hrl⟩,hfe⟩,fun _=>⟨fun _=>⟨fun _=>⟨fun _=>⟨⟨hfew,hfew⟩,fun _=>trivial,fun h=>absurd rfl h⟩,fun h=>?_⟩,fun h=>?_⟩,fun h=>?_⟩,fun h=>(by cases h)⟩
   ·simp at h
   ·simp at h
   ·simp at h
def r509:SCtr:=r509v fun _=>True
theorem h509:Holds Try.prog r509:=by
 rintro⟨p,a,l,x⟩ ⟨hl, -⟩
 by_cases hE:newE p a=0
 ·by_cases hF:fndE (finN p a.chosen) l=0
  ·exact h509c (p,a,l,x) ⟨hl,hE,hF⟩
  ·exact h509b (p,a,l,x) ⟨hl,hE,hF⟩
 ·exact h509a (p,a,l,x) ⟨hl,hE⟩
end Go.Vi
