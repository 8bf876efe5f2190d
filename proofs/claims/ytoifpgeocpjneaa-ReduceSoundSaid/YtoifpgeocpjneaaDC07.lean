/-
  Contracts: whether offers satisfy all rows.
  Conditions: none.
-/
import Derived.Test.YtoifpgeocpjneaaDC06
import Derived.KernelRfl
set_option maxRecDepth 100000
set_option maxHeartbeats 4000000
set_option linter.unusedSimpArgs false
set_option linter.unusedVariables false
namespace Go.Vi
open Go.Proofs.Ytoifpgeocpjneaa.Ir
open Go.Proofs
def L2:List SCtr:=[r156,r157,r158]
theorem hL2:∀c∈L2,Holds Try.prog c:=by
 simp only[L2,List.forall_mem_cons,List.not_mem_nil,false_implies,implies_true,and_true]
 exact⟨h156,h157,h158⟩
def sumS (p:Prob) (l:List Off) (r:Int):Int:=(l.map (coefS p r)).sum
def fitsB (p:Prob) (l:List Off):Bool:=(List.range (p.classes.length+12)).all fun r=>decide (sumS p l r≤boundS p r)
def r134:SCtr:=⟨54,Prob×List Off,.cons codP (.one (codR .off)),fun a=>a.1.classes.length≤8∧a.2.length≤1000∧(∀x∈a.2,0≤x.bidder∧x.bidder<a.1.classes.length∧x.want.ok=true),fun a=> .sb (fitsB a.1 a.2)⟩
def Λ134 (a:Prob×List Off):Nat→LoopAnn
 |3=> .inv Int (fun i=>⟨[(1,.row .off a.2),(2,.ptr 0 0 20),(5,.fn (.func 62) [] []),(11,.si .i64 (nrows a.1)),(12,.si .i64 i)],[.cells a.1.ss 71 20 false]⟩) (fun s=>iS s 12)
  (fun i=>0≤i∧i≤nrows a.1∧∀r:Nat,r<i→sumS a.1 a.2 r≤boundS a.1 r) (fun i=>(nrows a.1 - i).toNat)
  fun i=>fun
   |7=> .inv (Int×Int) (fun x=>⟨[(1,.row .off a.2),(2,.ptr 0 0 20),(5,.fn (.func 62) [] []),(6,.si .i64 i),(7,.si .i64 x.2),(11,.si .i64 (nrows a.1)),(12,.si .i64 i),(15,.row .off a.2),(16,.si .i64 a.2.length),(17,.si .i64 x.1)],[.cells a.1.ss 71 20 false]⟩)
    (fun s=>(iS s 17,iS s 7))
    (fun x=>0≤x.1∧x.1≤a.2.length∧x.2=sumS a.1 (a.2.take x.1.toNat) i) (fun x=>(a.2.length - x.1).toNat) fun _ _=> .look
   |_=> .look
 |_=> .look
theorem bun_nth {b:Bun} (h:b.ok=true) (k:Nat):0≤nthD [b.a0,b.a1,b.a2,b.a3,b.a4,b.a5] k 0∧nthD [b.a0,b.a1,b.a2,b.a3,b.a4,b.a5] k 0≤4:=by
 have:=Bun.ok_iff.1 h
 match k with
 |0|1|2|3|4|5=>simp[nthD];omega
 |k+6=>simp[nthD]
theorem coef_bd {p:Prob} {r:Int} {o:Off} (h:o.want.ok=true):0≤coefS p r o∧coefS p r o≤4:=by
 unfold coefS
 have h1:=bun_nth h (r - p.classes.length).toNat
 have h2:=bun_nth h (r - p.classes.length - 6).toNat
 (repeat' split)<;>omega
theorem sum_bd {p:Prob} {r:Int}:∀{l:List Off},(∀x∈l,x.want.ok=true)→0≤sumS p l r∧sumS p l r≤4*l.length
 |[],_=>by simp[sumS]
 |x::l,h=>by
  have h1:=@coef_bd p r x (h x (by simp))
  have h2:=@sum_bd p r l fun y hy=>h y (by simp[hy])
  simp only[sumS,List.map_cons,List.sum_cons,List.length_cons] at h2 ⊢
  omega
theorem nthD_mem {α:Type} {l:List α} {i:Nat} {d:α} (h:i<l.length):nthD l i d∈l:=by rw[nthD_eq h];exact List.getElem_mem h
theorem take_nth {α:Type} {l:List α} {i:Int} {d:α} (h0:0≤i) (h:i<l.length):l.take (i+1).toNat=l.take i.toNat++[nthD l i.toNat d]:=by
 rw[show(i+1).toNat=i.toNat+1 from by omega,nthD_eq (by omega),List.take_succ_eq_append_getElem (by omega)]
theorem sum_take {p:Prob} {r:Int} {l:List Off} {i:Int} {d:Off} (h0:0≤i) (h:i<l.length):sumS p (l.take (i+1).toNat) r=sumS p (l.take i.toNat) r+coefS p r (nthD l i.toNat d):=by
 rw[take_nth (d:=d) h0 h]
 simp[sumS]
theorem fits_iff {p:Prob} {l:List Off}:fitsB p l=true↔∀r:Nat,r<nrows p→sumS p l r≤boundS p r:=by
 simp only[fitsB,nrows,List.all_eq_true,List.mem_range,decide_eq_true_eq]
 constructor
 ·intro h r hr;exact h r (by omega)
 ·intro h r hr;exact h r (by omega)
theorem h134:Holds Try.prog r134:=by
 refine con (L:=L2) r134 F134 Λ134 (OwnOK.none _) hL2 (by kernel_rfl) (by kernel_rfl) (fun _=>rfl) ?_
 rintro⟨p,l⟩ ⟨hp,hl,hb⟩
 simp only at hp hl hb
 refine vcOf (let z0:=SV.ptr 0 0 20;let z1:=SV.fn (Fn.func 62) [] [];let z2:=SV.si .i64 (nrows p);let z3:=SObj.cells (Prob.ss p) 71 20 false;let z4:=(↑l.length:Int);let z5:=SV.si .i64 z4;p.classes.length≤8∧((((SV.row SId.off l).same (SV.row SId.off l)∧z0.same z0∧z1.same z1∧z2.same z2∧(SV.il .i64 0).same (SV.si .i64 0)∧True)∧z3.same z3∧True)∧(0:Int)≤(0:Int)∧(0:Int)≤nrows p∧∀(r:Nat),(↑r:Int)<(0:Int)→sumS p l (↑r:Int)≤boundS p (↑r:Int))∧∀(x:Int),let z6:=decide (x<nrows p);let z7:=x+(1:Int);let z8:=SV.si .i64 z7;((0:Int)≤x∧x≤nrows p∧∀(r:Nat),(↑r:Int)<x→sumS p l (↑r:Int)≤boundS p (↑r:Int))→(z6=true→((((SV.row SId.off l).same (SV.row SId.off l)∧z0.same z0∧z1.same z1∧(SV.si .i64 x).same (SV.si .i64 x)∧(SV.il .i64 0).same (SV.si .i64 0)∧z2.same z2∧(SV.si .i64 x).same (SV.si .i64 x)∧(SV.row SId.off l).same (SV.row SId.off l)∧(SV.si .i64 (↑l.length:Int)).same z5∧(SV.il .i64 0).same (SV.si .i64 0)∧True)∧z3.same z3∧True)∧(0:Int)≤(0:Int)∧(0:Int)≤z4∧(0:Int)=sumS p [] x)∧∀(x_1:Int×Int),let z9:=nthD l x_1.fst.toNat SId.off.dflt;let z10:=x_1.snd+coefS p x z9;let z11:=x_1.fst+(1:Int);let z12:=SV.si .i64 x;let z13:=SV.si .i64 z10;let z14:=SV.si .i64 z11;let z15:=decide (boundS p x<x_1.snd);(0:Int)≤x_1.fst∧x_1.fst≤z4∧x_1.snd=sumS p (List.take x_1.fst.toNat l) x→(decide (x_1.fst<z4)=true→(0:Int)≤x_1.fst∧x_1.fst<(↑l.length:Int)∧x_1.fst.toNat<l.length∧(p.classes.length≤8∧(0:Int)≤x∧x<nrows p∧(0:Int)≤z9.bidder∧z9.bidder<(↑p.classes.length:Int))∧inR .i64 z10∧inR .i64 z11∧(((SV.row SId.off l).same (SV.row SId.off l)∧z0.same z0∧z1.same z1∧z12.same z12∧z13.same z13∧z2.same z2∧z12.same z12∧(SV.row SId.off l).same (SV.row SId.off l)∧z5.same z5∧z14.same z14∧True)∧z3.same z3∧True)∧((0:Int)≤z11∧z11≤z4∧z10=sumS p (List.take z11.toNat l) x)∧(z4 - z11).toNat<(z4 - x_1.fst).toNat)∧(decide (x_1.fst<z4)=false→(p.classes.length≤8∧(0:Int)≤x∧x<nrows p)∧(z15=true→(SV.bl false).same (SV.sb (fitsB p l)))∧(z15=false→inR .i64 z7∧(((SV.row SId.off l).same (SV.row SId.off l)∧z0.same z0∧z1.same z1∧z2.same z2∧z8.same z8∧True)∧z3.same z3∧True)∧((0:Int)≤z7∧z7≤nrows p∧∀(r:Nat),(↑r:Int)<z7→sumS p l (↑r:Int)≤boundS p (↑r:Int))∧(nrows p - z7).toNat<(nrows p - x).toNat)))∧(z6=false→(SV.bl true).same (SV.sb (fitsB p l)))) (by kernel_rfl) ?_
 simp only[vcs]
 have hn:nrows p=p.classes.length+12:=rfl
 have ho:∀x∈l,x.want.ok=true:=fun x hx=>(hb x hx).2.2
 refine⟨hp,⟨by omega,by omega,fun r hr=>by omega⟩,?_⟩
 rintro i ⟨hi0,hi1,hi⟩
 refine⟨fun hlt=>⟨⟨by omega,by omega,by simp[sumS]⟩,?_⟩,?_⟩
 ·rintro⟨j,s⟩ ⟨hj0,hj1,hs⟩
  simp only at hj0 hj1 hs ⊢
  have hsb:=@sum_bd p i (l.take j.toNat) fun x hx=>ho x (List.mem_of_mem_take hx)
  have hlen:(l.take j.toNat).length≤l.length:=by simp;omega
  refine⟨fun hjl=>?_,fun hjl=>?_⟩
  ·have hm:=hb _ (nthD_mem (d:=SId.off.dflt) (show j.toNat<l.length by omega))
   have hc:=@coef_bd p i _ hm.2.2
   have hst:=@sum_take p i l j SId.off.dflt hj0 hjl
   refine⟨by omega,by omega,by omega,⟨hp,by omega,by omega,hm.1,hm.2.1⟩,by omega,by omega,⟨by omega,by omega,by omega⟩,by omega⟩
  ·have:j.toNat=l.length:=by omega
   rw[this,List.take_length] at hs
   refine⟨⟨hp,by omega,by omega⟩,fun hgt=>?_,fun hle=>⟨by omega,⟨by omega,by omega,fun r hr=>?_⟩,by omega⟩⟩
   ·symm
    rw[Bool.eq_false_iff]
    intro hf
    have:=fits_iff.1 hf i.toNat (by omega)
    rw[show((i.toNat:Nat):Int)=i from by omega] at this
    omega
   ·by_cases hr2:(r:Int)<i
    ·exact hi r hr2
    ·have:(r:Int)=i:=by omega
     rw[this]
     omega
 ·intro hge
  symm
  exact fits_iff.2 fun r hr=>hi r (by omega)
def L3:List SCtr:=[r134,r146,r156,r157,r158]
theorem hL3:∀c∈L3,Holds Try.prog c:=by
 simp only[L3,List.forall_mem_cons,List.not_mem_nil,false_implies,implies_true,and_true]
 exact⟨h134,h146,h156,h157,h158⟩
def prodOk (p:Prob) (k:Nat):Prop:=
 let c:=nthD [p.cls.a0,p.cls.a1,p.cls.a2,p.cls.a3,p.cls.a4,p.cls.a5] k 0
 let o:=nthD [p.opn.a0,p.opn.a1,p.opn.a2,p.opn.a3,p.opn.a4,p.opn.a5] k 0
 let s:=nthD [p.supply.a0,p.supply.a1,p.supply.a2,p.supply.a3,p.supply.a4,p.supply.a5] k 0
 0≤c∧c≤4∧0≤o∧o≤s∧(c≠0∨o=s)
instance (p:Prob) (k:Nat):Decidable (prodOk p k):=by unfold prodOk;infer_instance
def prodsOk (p:Prob):Bool:=(List.range 6).all fun k=>decide (prodOk p k)
theorem prodOk_iff {p:Prob} {k:Nat}:prodOk p k↔(0≤nthD [p.cls.a0,p.cls.a1,p.cls.a2,p.cls.a3,p.cls.a4,p.cls.a5] k 0∧nthD [p.cls.a0,p.cls.a1,p.cls.a2,p.cls.a3,p.cls.a4,p.cls.a5] k 0≤4∧0≤nthD [p.opn.a0,p.opn.a1,p.opn.a2,p.opn.a3,p.opn.a4,p.opn.a5] k 0∧
  nthD [p.opn.a0,p.opn.a1,p.opn.a2,p.opn.a3,p.opn.a4,p.opn.a5] k 0≤nthD [p.supply.a0,p.supply.a1,p.supply.a2,p.supply.a3,p.supply.a4,p.supply.a5] k 0∧
  (nthD [p.cls.a0,p.cls.a1,p.cls.a2,p.cls.a3,p.cls.a4,p.cls.a5] k 0≠0∨nthD [p.opn.a0,p.opn.a1,p.opn.a2,p.opn.a3,p.opn.a4,p.opn.a5] k 0=nthD [p.supply.a0,p.supply.a1,p.supply.a2,p.supply.a3,p.supply.a4,p.supply.a5] k 0)):=Iff.rfl
attribute [irreducible] prodOk
theorem prods_iff {p:Prob}:prodsOk p=true↔∀k,k<6→prodOk p k:=by simp[prodsOk]
def frameE (p:Prob):Int:=
 if p.supply.ok=false then 4
 else if prodsOk p=false then 4
 else if 8<p.classes.length∨160<p.offers.length then 3
 else if ¬∀c∈p.classes,0≤c∧c≤4 then 4
 else 0
def r118:SCtr:=⟨35,Prob,.one codP,fun p=>True,fun p=> .si .i64 (frameE p)⟩
def Λ118 (p:Prob):Nat→LoopAnn
 |5=> .inv Int (fun k=>⟨[(1,.ptr 0 0 20),(16,.si .i64 k)],[.cells p.ss 71 20 false]⟩) (fun s=>iS s 16) (fun k=>0≤k∧k≤6∧∀j:Nat,j<k→prodOk p j) (fun k=>(6 - k).toNat) fun _ _=> .look
 |14=> .inv Int (fun k=>⟨[(76,.row (.i .i64) p.classes),(77,.si .i64 p.classes.length),(78,.si .i64 k)],[.cells p.ss 71 20 false]⟩) (fun s=>iS s 78)
  (fun k=>0≤k∧k≤p.classes.length∧∀c∈p.classes.take k.toNat,0≤c∧c≤4) (fun k=>(p.classes.length - k).toNat) fun _ _=> .look
 |_=> .look
theorem frame_sup {p:Prob} (h:p.supply.ok=false):frameE p=4:=by simp[frameE,h]
theorem frame_prod {p:Prob} (h:p.supply.ok=true) {k:Nat} (hk:k<6) (hn:¬prodOk p k):frameE p=4:=by
 have:prodsOk p=false:=by
  rw[Bool.eq_false_iff]
  exact fun hh=>hn (prods_iff.1 hh k hk)
 simp[frameE,h,this]
theorem frame_len {p:Prob} (h:p.supply.ok=true) (hp:∀j:Nat,j<6→prodOk p j) (hl:8<p.classes.length∨160<p.offers.length):frameE p=3:=by
 simp[frameE,h,prods_iff.2 hp,hl]
theorem frame_cls {p:Prob} (h:p.supply.ok=true) (hp:∀j:Nat,j<6→prodOk p j) (hl:¬(8<p.classes.length∨160<p.offers.length)) {c:Int} (hc:c∈p.classes) (hn:¬(0≤c∧c≤4)):frameE p=4:=by
 have:¬∀c∈p.classes,0≤c∧c≤4:=fun hh=>hn (hh c hc)
 simp only[frameE,h,prods_iff.2 hp,if_neg hl,this,Bool.true_eq_false,if_false,not_false_iff,if_true]
theorem frame_ok {p:Prob} (h:p.supply.ok=true) (hp:∀j:Nat,j<6→prodOk p j) (hl:¬(8<p.classes.length∨160<p.offers.length)) (hc:∀c∈p.classes,0≤c∧c≤4):frameE p=0:=by
 simp only[frameE,h,prods_iff.2 hp,if_neg hl,Bool.true_eq_false,if_false,if_neg (Classical.not_not.2 hc)]
theorem frame_zero {p:Prob} (h:frameE p=0):p.supply.ok=true∧(∀j:Nat,j<6→prodOk p j)∧p.classes.length≤8∧p.offers.length≤160∧∀c∈p.classes,0≤c∧c≤4:=by
 unfold frameE at h
 split at h
 ·cases h
 ·split at h
  ·cases h
  ·split at h
   ·cases h
   ·split at h
    ·cases h
    ·rename_i h1 h2 h3 h4
     have h4:=Classical.not_not.1 h4
     exact⟨by simpa using h1,prods_iff.1 (by simpa using h2),by omega,by omega,h4⟩
theorem mem_take_next {l:List Int} {i:Int} {P:Int→Prop} (h0:0≤i) (h:i<l.length) (h1:∀c∈l.take i.toNat,P c) (h2:P (nthD l i.toNat 0)):∀c∈l.take (i+1).toNat,P c:=by
 rw[take_nth (d:=0) h0 h]
 intro c hc
 rcases List.mem_append.1 hc with hc|hc
 ·exact h1 c hc
 ·rw[List.mem_singleton.1 hc];exact h2
theorem h118:Holds Try.prog r118:=by
 refine con (L:=L3) r118 F118 Λ118 (OwnOK.none _) hL3 (by kernel_rfl) (by kernel_rfl) (fun _=>rfl) ?_
 intro p _
 refine vcOf (let z0:=if p.supply.ok=true then(0:Int) else(4:Int);let z1:=decide (z0≠(0:Int));let z2:=SV.si .i64 (frameE p);let z3:=SV.ptr 0 0 20;let z4:=SV.il .i64 0;let z5:=SV.row (SId.i .i64) p.classes;let z6:=SObj.cells [SV.si .i64 p.supply.a0,SV.si .i64 p.supply.a1,SV.si .i64 p.supply.a2,SV.si .i64 p.supply.a3,SV.si .i64 p.supply.a4,SV.si .i64 p.supply.a5,SV.si .i64 p.opn.a0,SV.si .i64 p.opn.a1,SV.si .i64 p.opn.a2,SV.si .i64 p.opn.a3,SV.si .i64 p.opn.a4,SV.si .i64 p.opn.a5,SV.si .i64 p.cls.a0,SV.si .i64 p.cls.a1,SV.si .i64 p.cls.a2,SV.si .i64 p.cls.a3,SV.si .i64 p.cls.a4,SV.si .i64 p.cls.a5,z5,SV.row SId.off p.offers] 71 20 false;let z7:=[p.cls.a0,p.cls.a1,p.cls.a2,p.cls.a3,p.cls.a4,p.cls.a5];let z8:=[p.opn.a0,p.opn.a1,p.opn.a2,p.opn.a3,p.opn.a4,p.opn.a5];let z9:=[p.supply.a0,p.supply.a1,p.supply.a2,p.supply.a3,p.supply.a4,p.supply.a5];let z10:=(↑p.classes.length:Int);let z11:=decide ((8:Int)<z10);let z12:=decide ((160:Int)<(↑p.offers.length:Int));let z13:=(↑p.classes.length:Int);let z14:=SV.si .i64 z13;True∧(z1=true→(SV.si .i64 z0).same z2)∧(z1=false→(((z3.same z3∧z4.same (SV.si .i64 0)∧True)∧z6.same z6∧True)∧(0:Int)≤(0:Int)∧(0:Int)≤(6:Int)∧∀(j:Nat),(↑j:Int)<(0:Int)→prodOk p j)∧∀(x:Int),let z15:=decide (x<(6:Int));let z16:=nthD z7 x.toNat (0:Int);let z17:=decide (z16<(0:Int));let z18:=decide ((4:Int)<z16);let z19:=nthD z8 x.toNat (0:Int);let z20:=decide (z19<(0:Int));let z21:=nthD z9 x.toNat (0:Int);let z22:=decide (z16=(0:Int));let z23:=x+(1:Int);let z24:=SV.si .i64 z23;((0:Int)≤x∧x≤(6:Int)∧∀(j:Nat),(↑j:Int)<x→prodOk p j)→(z15=true→(0:Int)≤x∧x<(6:Int)∧x.toNat<6∧(0:Int)≤x∧x<(6:Int)∧x.toNat<6∧(z17=true→(SV.il .i64 4).same z2)∧(z17=false→(z18=true→(SV.il .i64 4).same z2)∧(z18=false→(z20=true→(SV.il .i64 4).same z2)∧(z20=false→(0:Int)≤x∧x<(6:Int)∧x.toNat<6∧(decide (z21<z19)=true→(SV.il .i64 4).same z2)∧(decide (z21<z19)=false→(z22=true→(0:Int)≤x∧x<(6:Int)∧x.toNat<6∧(decide (z19≠z21)=true→(SV.il .i64 4).same z2)∧(decide (z19≠z21)=false→inR .i64 z23∧((z3.same z3∧z24.same z24∧True)∧z6.same z6∧True)∧((0:Int)≤z23∧z23≤(6:Int)∧∀(j:Nat),(↑j:Int)<z23→prodOk p j)∧((6:Int) - z23).toNat<((6:Int) - x).toNat))∧(z22=false→inR .i64 z23∧((z3.same z3∧z24.same z24∧True)∧z6.same z6∧True)∧((0:Int)≤z23∧z23≤(6:Int)∧∀(j:Nat),(↑j:Int)<z23→prodOk p j)∧((6:Int) - z23).toNat<((6:Int) - x).toNat))))))∧(z15=false→(z11=true→(SV.il .i64 3).same z2)∧(z11=false→(z12=true→(SV.il .i64 3).same z2)∧(z12=false→(((z5.same z5∧(SV.si .i64 z10).same z14∧z4.same (SV.si .i64 0)∧True)∧z6.same z6∧True)∧(0:Int)≤(0:Int)∧(0:Int)≤z13∧∀(c:Int),c∈[]→(0:Int)≤c∧c≤(4:Int))∧∀(x:Int),let z25:=nthD p.classes x.toNat (0:Int);let z26:=decide (z25<(0:Int));let z27:=decide ((4:Int)<z25);let z28:=x+(1:Int);let z29:=SV.si .i64 z28;((0:Int)≤x∧x≤z13∧∀(c:Int),c∈List.take x.toNat p.classes→(0:Int)≤c∧c≤(4:Int))→(decide (x<z13)=true→(0:Int)≤x∧x<z10∧x.toNat<p.classes.length∧(z26=true→(SV.il .i64 4).same z2)∧(z26=false→(z27=true→(SV.il .i64 4).same z2)∧(z27=false→inR .i64 z28∧((z5.same z5∧z14.same z14∧z29.same z29∧True)∧z6.same z6∧True)∧((0:Int)≤z28∧z28≤z13∧∀(c:Int),c∈List.take z28.toNat p.classes→(0:Int)≤c∧c≤(4:Int))∧(z13 - z28).toNat<(z13 - x).toNat)))∧(decide (x<z13)=false→z4.same z2)))))) (by kernel_rfl) ?_
 simp only[vcs]
 by_cases hs:Bun.ok p.supply=true
 ·simp only[hs,if_true]
  refine⟨fun h=>absurd rfl h,fun _=>⟨⟨by omega,by omega,fun j hj=>by omega⟩,?_⟩⟩
  rintro k ⟨hk0,hk1,hk⟩
  refine⟨fun hlt=>?_,fun hge=>?_⟩
  ·have bad:¬prodOk p k.toNat→(4:Int)=frameE p:=fun h=>(frame_prod hs (by omega) h).symm
   have nxt:prodOk p k.toNat→∀(j:Nat),(j:Int)<k+1→prodOk p j:=fun h j hj=>by
    by_cases hj2:(j:Int)<k
    ·exact hk j hj2
    ·rw[show j=k.toNat from by omega];exact h
   repeat' (first|refine And.intro ?_ ?_|intro _)
   all_goals first
    |omega
    |exact bad fun hh=>by have h2:=prodOk_iff.1 hh;omega
    |exact nxt (prodOk_iff.2 (by omega)) _ (by assumption)
  ·have hall:∀j:Nat,j<6→prodOk p j:=fun j hj=>hk j (by omega)
   refine⟨fun h=>(frame_len hs hall (.inl (by omega))).symm,fun h8=>⟨fun h=>(frame_len hs hall (.inr (by omega))).symm,fun h160=>⟨⟨by omega,by omega,by simp⟩,?_⟩⟩⟩
   rintro i ⟨hi0,hi1,hi⟩
   refine⟨fun hlt=>?_,fun hge=>?_⟩
   ·have hm:=nthD_mem (d:=0) (show i.toNat<p.classes.length by omega)
    refine⟨by omega,by omega,by omega,fun h=>(frame_cls hs hall (by omega) hm (by omega)).symm,fun h1=>⟨fun h=>(frame_cls hs hall (by omega) hm (by omega)).symm,fun h2=>⟨by omega,⟨by omega,by omega,?_⟩,by omega⟩⟩⟩
    exact mem_take_next hi0 hlt hi (by omega)
   ·rw[show i.toNat=p.classes.length from by omega,List.take_length] at hi
    exact(frame_ok hs hall (by omega) hi).symm
 ·have hs2:Bun.ok p.supply=false:=by simpa using hs
  simp only[hs2,Bool.false_eq_true,if_false]
  exact⟨fun _=>(frame_sup hs2).symm,fun h=>absurd (by decide) h⟩
def simpleE (n:Int) (o:Off):Int:=
 if o.bidder<0∨n≤o.bidder then 6 else if o.value<1∨1000000<o.value then 4 else if o.want.ok then 0 else 4
def r147:SCtr:=⟨53,Int×Off,.cons (codI .i64) (.one (codE .off)),fun p=>True,fun p=> .si .i64 (simpleE p.1 p.2)⟩
theorem h147:Holds Try.prog r147:=by
 refine con (L:=L3) r147 F147 (fun p=>fun _=> .look) (OwnOK.none _) hL3 (by kernel_rfl) (by kernel_rfl) (fun _=>rfl) ?_
 rintro⟨n,x⟩ _
 refine vcOf (let z0:=decide (x.bidder<(0:Int));let z1:=SV.si .i64 (simpleE n x);let z2:=decide (n≤x.bidder);let z3:=decide (x.value<(1:Int));let z4:=decide ((1000000:Int)<x.value);(z0=true→(SV.il .i64 6).same z1)∧(z0=false→(z2=true→(SV.il .i64 6).same z1)∧(z2=false→(z3=true→(SV.il .i64 4).same z1)∧(z3=false→(z4=true→(SV.il .i64 4).same z1)∧(z4=false→True∧(SV.si .i64 (if x.want.ok=true then(0:Int) else(4:Int))).same z1))))) (by kernel_rfl) ?_
 simp only[vcs]
 repeat' (first|refine And.intro ?_ ?_|intro _)
 all_goals first
  |trivial
  |omega
  |(simp only[simpleE];(repeat' split)<;>first|rfl|omega|simp_all)
def offerE (p:Prob) (o:Off):Int:=
 if simpleE p.classes.length o≠0 then simpleE p.classes.length o else if o.want=Bun.zero then 4 else if fitsB p [o]=false then 14 else 0
def r119:SCtr:=⟨36,Prob×Off,.cons codP (.one (codE .off)),fun a=>a.1.classes.length≤8,fun a=> .si .i64 (offerE a.1 a.2)⟩
def L4:List SCtr:=r147::L3
theorem hL4:∀c∈L4,Holds Try.prog c:=by
 simp only[L4,List.forall_mem_cons]
 exact⟨h147,hL3⟩
theorem simple_zero {n:Int} {o:Off} (h:simpleE n o=0):0≤o.bidder∧o.bidder<n∧1≤o.value∧o.value≤1000000∧o.want.ok=true:=by
 unfold simpleE at h
 split at h
 ·cases h
 ·split at h
  ·cases h
  ·split at h
   ·exact⟨by omega,by omega,by omega,by omega,by assumption⟩
   ·cases h
theorem h119:Holds Try.prog r119:=by
 refine con (L:=L4) r119 F119 (fun p=>fun _=> .look) (OwnOK.none _) hL4 (by kernel_rfl) (by kernel_rfl) (fun _=>rfl) ?_
 rintro⟨p,x⟩ (hp:p.classes.length≤8)
 refine vcOf (let z0:=simpleE (↑p.classes.length:Int) x;let z1:=decide (z0≠(0:Int));let z2:=SV.si .i64 (offerE p x);let z3:=decide (x.want.a0=(0:Int))&&(decide (x.want.a1=(0:Int))&&(decide (x.want.a2=(0:Int))&&(decide (x.want.a3=(0:Int))&&(decide (x.want.a4=(0:Int))&&(decide (x.want.a5=(0:Int))&&true)))));True∧(z1=true→(SV.si .i64 z0).same z2)∧(z1=false→(z3=true→(SV.il .i64 4).same z2)∧(z3=false→(p.classes.length≤8∧1≤1000∧∀(x_1:Off),x_1∈[x]→(0:Int)≤x_1.bidder∧x_1.bidder<(↑p.classes.length:Int)∧x_1.want.ok=true)∧((!fitsB p [x])=true→(SV.il .i64 14).same z2)∧((!fitsB p [x])=false→(SV.il .i64 0).same z2)))) (by kernel_rfl) ?_
 conv=>zeta
 have hw:(decide (x.want.a0=0)&&(decide (x.want.a1=0)&&(decide (x.want.a2=0)&&(decide (x.want.a3=0)&&(decide (x.want.a4=0)&&decide (x.want.a5=0))))))=decide (x.want=Bun.zero):=by
  rw[Bool.eq_iff_iff]
  simp[bun_eq,Bun.zero]
 simp only[Bool.and_true,hw]
 simp only[vcs]
 refine⟨fun h=>by simp only[offerE,if_pos h],fun h=>?_⟩
 have hz:simpleE p.classes.length x=0:=Classical.not_not.1 h
 have hx:=simple_zero hz
 refine⟨fun h3=>by simp[offerE,hz,h3],fun h3=>⟨⟨hp,by omega,?_⟩,fun h4=>?_,fun h4=>?_⟩⟩
 ·intro y hy
  rw[List.mem_singleton.1 hy]
  exact⟨hx.1,hx.2.1,hx.2.2.2.2⟩
 ·simp[offerE,hz,h3,h4]
 ·simp[offerE,hz,h3,h4]
def L5:List SCtr:=r118::r119::L4
theorem hL5:∀c∈L5,Holds Try.prog c:=by
 simp only[L5,List.forall_mem_cons]
 exact⟨h118,h119,hL4⟩
def Off.key (o:Off):BKey:=⟨o.bidder,o.want⟩
def checkL (p:Prob) (seen:List BKey):List Off→Int
 |[]=>0
 |o::r=>if offerE p o≠0 then offerE p o else if o.key∈seen then 7 else checkL p (seen++[o.key]) r
def checkE (p:Prob):Int:=if frameE p≠0 then frameE p else checkL p [] p.offers
def r79:SCtr:=⟨23,Prob,.one codP,fun p=>True,fun p=> .si .i64 (checkE p)⟩
def Λ79 (p:Prob):Nat→LoopAnn
 |7=> .inv Int (fun i=>⟨[(3,.ptr 1 0 20),(5,.mp 2),(19,.row .off p.offers),(20,.si .i64 p.offers.length),(21,.si .i64 i)],
   [.cells p.ss 27 20 false,.cells p.ss 71 20 false,.map .key .b true ((p.offers.take i.toNat).map fun o=>(o.key,true)) ([0,0,0,0,0,0,0],true) true]⟩) (fun s=>iS s 21)
  (fun i=>0≤i∧i≤p.offers.length∧checkL p [] p.offers=checkL p ((p.offers.take i.toNat).map Off.key) (p.offers.drop i.toNat)) (fun i=>(p.offers.length - i).toNat) fun _ _=> .look
 |_=> .look
theorem drop_nth {α:Type} {l:List α} {i:Int} {d:α} (h0:0≤i) (h:i<l.length):l.drop i.toNat=nthD l i.toNat d::l.drop (i+1).toNat:=by
 rw[show(i+1).toNat=i.toNat+1 from by omega,nthD_eq (by omega),List.drop_eq_getElem_cons (by omega)]
theorem find_keys (k:BKey):∀(l:List Off),(findT .key .b k (l.map fun o=>(o.key,true))).getD false=decide (k∈l.map Off.key)
 |[]=>by simp[findT]
 |o::l=>by
  have:=find_keys k l
  simp only[findT] at this ⊢
  rw[List.map_cons,List.find?_cons]
  by_cases h:o.key=k
  ·simp[h]
  ·simp only[h,decide_false,List.map_cons,List.mem_cons]
   rw[this]
   have:¬k=o.key:=fun e=>h e.symm
   simp[this]
theorem omap_same {sk sv:SId} {ka:Bool} {es es':List (sk.T×sv.T)} {kt:List Nat×Bool} {pu:Bool} (h:es=es'):(SObj.map sk sv ka es kt pu).same (.map sk sv ka es' kt pu):=by rw[h];rfl
theorem set_keys {k:BKey} {l:List Off} (h:k∉l.map Off.key):setT .key .b k true (l.map fun o=>(o.key,true))=(l.map fun o=>(o.key,true))++[(k,true)]:=
 setT_none fun p hp=>by
  obtain⟨o,ho,rfl⟩:=List.mem_map.1 hp
  rintro rfl
  exact h (List.mem_map.2 ⟨o,ho,rfl⟩)
theorem h79:Holds Try.prog r79:=by
 refine con (L:=L5) r79 F79 Λ79 (OwnOK.none _) hL5 (by kernel_rfl) (by kernel_rfl) (fun _=>rfl) ?_
 intro p _
 refine vcOf (let z0:=decide (frameE p≠(0:Int));let z1:=SV.si .i64 (checkE p);let z2:=SV.ptr 1 0 20;let z3:=SV.row SId.off p.offers;let z4:=(↑p.offers.length:Int);let z5:=(↑p.offers.length:Int);let z6:=SV.si .i64 z5;let z7:=SV.il .i64 0;let z8:=[SV.si .i64 p.supply.a0,SV.si .i64 p.supply.a1,SV.si .i64 p.supply.a2,SV.si .i64 p.supply.a3,SV.si .i64 p.supply.a4,SV.si .i64 p.supply.a5,SV.si .i64 p.opn.a0,SV.si .i64 p.opn.a1,SV.si .i64 p.opn.a2,SV.si .i64 p.opn.a3,SV.si .i64 p.opn.a4,SV.si .i64 p.opn.a5,SV.si .i64 p.cls.a0,SV.si .i64 p.cls.a1,SV.si .i64 p.cls.a2,SV.si .i64 p.cls.a3,SV.si .i64 p.cls.a4,SV.si .i64 p.cls.a5,SV.row (SId.i .i64) p.classes,z3];let z9:=SObj.cells z8 27 20 false;let z10:=SObj.cells z8 71 20 false;let z11:=([0,0,0,0,0,0,0],true);let z12:=SObj.map SId.key SId.b true [] z11 true;let z13:=checkL p [] p.offers;let z14:=SId.off.dflt;True∧(z0=true→(SV.si .i64 (frameE p)).same z1)∧(z0=false→(((z2.same z2∧(SV.mp 2).same (SV.mp 2)∧z3.same z3∧(SV.si .i64 z4).same z6∧z7.same (SV.si .i64 0)∧True)∧z9.same z9∧z10.same z10∧z12.same z12∧True)∧(0:Int)≤(0:Int)∧(0:Int)≤z5∧z13=z13)∧∀(x:Int),let z15:=List.take x.toNat p.offers;let z16:=nthD p.offers x.toNat z14;let z17:=decide (offerE p z16≠(0:Int));let z18:=BKey.mk z16.bidder z16.want;let z19:=List.map (fun o ↦(o.key,true)) z15;let z20:=(findT SId.key SId.b z18 z19).getD false;let z21:=x+(1:Int);let z22:=SV.si .i64 z21;let z23:=List.take z21.toNat p.offers;(0:Int)≤x∧x≤z5∧z13=checkL p (List.map Off.key z15) (List.drop x.toNat p.offers)→(decide (x<z5)=true→(0:Int)≤x∧x<z4∧x.toNat<p.offers.length∧p.classes.length≤8∧(z17=true→(SV.si .i64 (offerE p z16)).same z1)∧(z17=false→(z20=true→(SV.il .i64 7).same z1)∧(z20=false→inR .i64 z21∧((z2.same z2∧(SV.mp 2).same (SV.mp 2)∧z3.same z3∧z6.same z6∧z22.same z22∧True)∧z9.same z9∧z10.same z10∧(SObj.map SId.key SId.b true (setT SId.key SId.b z18 true z19) z11 true).same (SObj.map SId.key SId.b true (List.map (fun o ↦(o.key,true)) z23) z11 true)∧True)∧((0:Int)≤z21∧z21≤z5∧z13=checkL p (List.map Off.key z23) (List.drop z21.toNat p.offers))∧(z5 - z21).toNat<(z5 - x).toNat)))∧(decide (x<z5)=false→z7.same z1))) (by kernel_rfl) ?_
 simp only[vcs]
 refine⟨fun h=>by simp[checkE,h],fun h=>?_⟩
 have hz:frameE p=0:=Classical.not_not.1 h
 obtain⟨f1,f2,f3,f4,f5⟩:=frame_zero hz
 refine⟨⟨by omega,by omega⟩,?_⟩
 rintro i ⟨hi0,hi1,hi⟩
 refine⟨fun hlt=>?_,fun hge=>?_⟩
 ·rw[drop_nth (d:=SId.off.dflt) hi0 hlt] at hi
  generalize hx:nthD p.offers i.toNat SId.off.dflt=x at hi ⊢
  refine⟨by omega,by omega,by omega,f3,fun he=>?_,fun he=>?_⟩
  ·simp only[checkL,if_pos he] at hi
   simp[checkE,hz,hi]
  ·simp only[checkL,if_neg he] at hi
   have hk:(⟨x.bidder,x.want⟩:BKey)=x.key:=rfl
   simp only[hk]
   refine⟨fun hm=>?_,fun hm=>⟨by omega,?_,⟨by omega,by omega,?_⟩,by omega⟩⟩
   ·have hm2:=of_decide_eq_true ((find_keys _ _).symm.trans hm)
    rw[if_pos hm2] at hi
    simp[checkE,hz,hi]
   ·have hm2:=of_decide_eq_false ((find_keys _ _).symm.trans hm)
    apply omap_same
    rw[set_keys hm2,take_nth (d:=SId.off.dflt) hi0 hlt,hx]
    simp
   ·have hm2:=of_decide_eq_false ((find_keys _ _).symm.trans hm)
    rw[if_neg hm2] at hi
    rw[hi,take_nth (d:=SId.off.dflt) hi0 hlt,hx]
    simp
 ·rw[show i.toNat=p.offers.length from by omega,List.drop_length] at hi
  simp only[checkL] at hi
  simp[checkE,hz,hi]
def pickGo (l:List Off) (last:Int):List Int→Option (List Off)
 |[]=>some []
 |i::r=>if i≤last∨l.length≤i then none else(pickGo l i r).map (nthD l i.toNat SId.off.dflt::·)
def pickOk (p:Prob) (c:List Int):Bool:=(pickGo p.offers (-1) c).isSome
def pickL (p:Prob) (c:List Int):List Off:=(pickGo p.offers (-1) c).getD []
def feasE (p:Prob) (c:List Int):Int:=if checkE p≠0 then checkE p else if pickOk p c=false then 4 else if fitsB p (pickL p c)=false then 14 else 0
theorem checkL_mem {p:Prob}:∀{l:List Off} {seen:List BKey},checkL p seen l=0→∀x∈l,offerE p x=0
 |[],_,_=>by simp
 |o::r,seen,h=>by
  simp only[checkL] at h
  split at h
  ·rename_i h1;exact absurd h h1
  ·rename_i h1
   split at h
   ·cases h
   ·intro x hx
    rcases List.mem_cons.1 hx with rfl|hx
    ·exact Classical.not_not.1 h1
    ·exact checkL_mem h x hx
theorem check_zero {p:Prob} (h:checkE p=0):frameE p=0∧∀x∈p.offers,offerE p x=0:=by
 unfold checkE at h
 split at h
 ·rename_i h1;exact absurd h h1
 ·rename_i h1;exact⟨Classical.not_not.1 h1,checkL_mem h⟩
theorem offer_zero {p:Prob} {o:Off} (h:offerE p o=0):simpleE p.classes.length o=0∧o.want≠Bun.zero∧fitsB p [o]=true:=by
 unfold offerE at h
 split at h
 ·rename_i h1;exact absurd h h1
 ·rename_i h1
  split at h
  ·cases h
  ·split at h
   ·cases h
   ·rename_i h2 h3
    exact⟨Classical.not_not.1 h1,h2,by simpa using h3⟩
theorem pick_len {l:List Off}:∀{c:List Int} {last:Int} {r:List Off}, -1≤last→pickGo l last c=some r→r.length+last+1≤l.length∨r=[]
 |[],last,r,_,h=>by simp[pickGo] at h;exact .inr h
 |i::c,last,r,hl,h=>by
  simp only[pickGo] at h
  split at h
  ·cases h
  ·rename_i h1
   obtain⟨r',h2,rfl⟩:=Option.map_eq_some_iff.1 h
   have:=pick_len (by omega) h2
   left
   simp only[List.length_cons]
   rcases this with h3|rfl
   ·omega
   ·simp;omega
theorem pick_mem {l:List Off}:∀{c:List Int} {last:Int} {r:List Off}, -1≤last→pickGo l last c=some r→∀x∈r,x∈l
 |[],last,r,_,h=>by simp[pickGo] at h;subst h;simp
 |i::c,last,r,hl,h=>by
  simp only[pickGo] at h
  split at h
  ·cases h
  ·rename_i h1
   obtain⟨r',h2,rfl⟩:=Option.map_eq_some_iff.1 h
   intro x hx
   rcases List.mem_cons.1 hx with rfl|hx
   ·exact nthD_mem (by omega)
   ·exact pick_mem (by omega) h2 x hx
def bitI (m f:Int):Int:=binK.andI .i64 (m / 2^f.toNat) 1
def delI (m f:Int):Int:=binK.andNotI .i64 m (2^f.toNat)
def memL (m:Int):List Int:=[0,1,2,3,4,5,6,7].filter fun f=>decide (bitI m f≠0)
def bitsChk:Bool:=(List.range 256).all fun m=>decide (0≤bitI m 0)&&[0,1,2,3,4,5,6,7].all fun f=>(decide (bitI m f=0)||decide (bitI m f=1))&&(decide (bitI m f=0)||(decide (0≤delI m f)&&decide (delI m f<256)&&decide (memL (delI m f)=(memL m).filter fun g=>decide (g≠f))))
theorem bits_chk:bitsChk=true:=by kernel_rfl
theorem bit_del {m f:Int} (h0:0≤m) (h1:m<256) (g0:0≤f) (g1:f<8):(bitI m f=0∨bitI m f=1)∧(bitI m f≠0→0≤delI m f∧delI m f<256∧memL (delI m f)=(memL m).filter fun g=>decide (g≠f)):=by
 have h:=bits_chk
 simp only[bitsChk,List.all_eq_true,List.mem_range] at h
 have h2:=h m.toNat (by omega)
 simp only[Bool.and_eq_true,List.all_eq_true] at h2
 have h3:=h2.2 f (by have:f=0∨f=1∨f=2∨f=3∨f=4∨f=5∨f=6∨f=7:=by omega
                     rcases this with rfl|rfl|rfl|rfl|rfl|rfl|rfl|rfl<;>simp)
 rw[show((m.toNat:Nat):Int)=m from by omega] at h3
 simp only[Bool.and_eq_true,Bool.or_eq_true,decide_eq_true_eq] at h3
 refine⟨h3.1,fun hb=>?_⟩
 rcases h3.2 with h4|h4
 ·exact absurd h4 hb
 ·exact⟨h4.1.1,h4.1.2,h4.2⟩
def Good (p:Prob):Prop:=p.classes.length≤8∧p.offers.length≤160∧p.supply.ok=true∧p.opn.ok=true∧∀x∈p.offers,0≤x.bidder∧x.bidder<p.classes.length∧x.want.ok=true∧1≤x.value∧x.value≤1000000
def SitOk (a:Sit):Prop:=0≤a.members∧a.members<256∧a.b
def valL (p:Prob):List Int→Bun→Bun→Int
 |[],_,_=>0
 |f::fs,l,o=>(byB p f).foldl (fun v x=>if x.want.le l&&(outS p x).le o then max v (x.value+valL p fs (l.sub x.want) (o.sub (outS p x))) else v) (valL p fs l o)
def stepV (p:Prob) (fs:List Int) (l o:Bun) (v:Int) (x:Off):Int:=if x.want.le l&&(outS p x).le o then max v (x.value+valL p fs (l.sub x.want) (o.sub (outS p x))) else v
def bestS (p:Prob) (a:Sit):Int:=valL p (memL a.members) a.left a.opn
theorem sub_ok {a b:Bun} (ha:a.ok=true) (hb:b.ok=true) (h:b.le a=true):(a.sub b).ok=true:=by
 have ha:=Bun.ok_iff.1 ha
 have hb:=Bun.ok_iff.1 hb
 have h:=Bun.le_iff.1 h
 refine Bun.ok_iff.2 ?_
 simp only[Bun.sub]
 omega
theorem good_of {p:Prob} (h:checkE p=0):Good p:=by
 obtain⟨hf,ho⟩:=check_zero h
 obtain⟨f1,f2,f3,f4,f5⟩:=frame_zero hf
 refine⟨f3,f4,f1,?_,fun x hx=>?_⟩
 ·have hs:=Bun.ok_iff.1 f1
  have g0:=prodOk_iff.1 (f2 0 (by omega))
  have g1:=prodOk_iff.1 (f2 1 (by omega))
  have g2:=prodOk_iff.1 (f2 2 (by omega))
  have g3:=prodOk_iff.1 (f2 3 (by omega))
  have g4:=prodOk_iff.1 (f2 4 (by omega))
  have g5:=prodOk_iff.1 (f2 5 (by omega))
  simp[nthD] at g0 g1 g2 g3 g4 g5
  exact Bun.ok_iff.2 (by omega)
 ·have hs:=simple_zero (offer_zero (ho x hx)).1
  exact⟨hs.1,hs.2.1,hs.2.2.2.2,hs.2.2.1,hs.2.2.2.1⟩
def Prob.zero:Prob:=⟨Bun.zero,Bun.zero,Bun.zero,[],[]⟩
theorem pick_idx {l:List Off}:∀{c:List Int} {last:Int} {r:List Off}, -1≤last→pickGo l last c=some r→r.length=c.length∧∀i∈c,0≤i∧i<l.length
 |[],last,r,_,h=>by simp[pickGo] at h;subst h;simp
 |i::c,last,r,hl,h=>by
  simp only[pickGo] at h
  split at h
  ·cases h
  ·rename_i h1
   obtain⟨r',h2,rfl⟩:=Option.map_eq_some_iff.1 h
   obtain⟨h3,h4⟩:=pick_idx (by omega) h2
   refine⟨by simp[h3],fun j hj=>?_⟩
   rcases List.mem_cons.1 hj with rfl|hj
   ·omega
   ·exact h4 j hj
def r68:SCtr:=⟨33,Bun,.one (codE .bun),fun _=>True,fun b=> .sb b.ok⟩
theorem h68:Holds Try.prog r68:=by
 refine con (L:=[]) r68 F68 (fun _ _=> .unroll 7) (OwnOK.none _) (by simp) (by kernel_rfl) (by kernel_rfl) (fun _=>rfl) ?_
 intro b _
 refine vcOf (let z0:=decide (b.a0<(0:Int));let z1:=decide ((4:Int)<b.a0);let z2:=decide (b.a1<(0:Int));let z3:=decide ((4:Int)<b.a1);let z4:=decide (b.a2<(0:Int));let z5:=decide ((4:Int)<b.a2);let z6:=decide (b.a3<(0:Int));let z7:=decide ((4:Int)<b.a3);let z8:=decide (b.a4<(0:Int));let z9:=decide ((4:Int)<b.a4);let z10:=decide (b.a5<(0:Int));let z11:=decide ((4:Int)<b.a5);(z0=true→(SV.bl false).same (SV.sb (Bun.ok b)))∧(z0=false→(z1=true→(SV.bl false).same (SV.sb (Bun.ok b)))∧(z1=false→(z2=true→(SV.bl false).same (SV.sb (Bun.ok b)))∧(z2=false→(z3=true→(SV.bl false).same (SV.sb (Bun.ok b)))∧(z3=false→(z4=true→(SV.bl false).same (SV.sb (Bun.ok b)))∧(z4=false→(z5=true→(SV.bl false).same (SV.sb (Bun.ok b)))∧(z5=false→(z6=true→(SV.bl false).same (SV.sb (Bun.ok b)))∧(z6=false→(z7=true→(SV.bl false).same (SV.sb (Bun.ok b)))∧(z7=false→(z8=true→(SV.bl false).same (SV.sb (Bun.ok b)))∧(z8=false→(z9=true→(SV.bl false).same (SV.sb (Bun.ok b)))∧(z9=false→(z10=true→(SV.bl false).same (SV.sb (Bun.ok b)))∧(z10=false→(z11=true→(SV.bl false).same (SV.sb (Bun.ok b)))∧(z11=false→(SV.bl true).same (SV.sb (Bun.ok b))))))))))))))) (by kernel_rfl) ?_
 conv=>zeta
 have hb:=@Bun.ok_iff b
 by_cases h:b.ok=true
 ·have h2:=hb.1 h
  simp only[decide_eq_true_eq,decide_eq_false_iff_not,same_bl_sb,eq_self,true_and,h,if_true]
  repeat' (first|refine And.intro ?_ ?_|intro _)
  all_goals first|trivial|omega|(exfalso;omega)
 ·have h2:=mt hb.2 h
  have h3:b.ok=false:=by simpa using h
  simp only[decide_eq_true_eq,decide_eq_false_iff_not,same_bl_sb,eq_self,true_and,h3]
  repeat' (first|refine And.intro ?_ ?_|intro _)
  all_goals first|trivial|omega|(exfalso;omega)
def coefR (p:Prob) (r:Int) (o:Off):Int:=
 if r - p.classes.length<0 then(if o.bidder=r then 1 else 0)
 else if r - p.classes.length<6 then nthD [o.want.a0,o.want.a1,o.want.a2,o.want.a3,o.want.a4,o.want.a5] (r - p.classes.length).toNat 0
 else if nthD [p.cls.a0,p.cls.a1,p.cls.a2,p.cls.a3,p.cls.a4,p.cls.a5] (r - p.classes.length - 6).toNat 0=0∨p.classes.length≤o.bidder∨nthD [p.cls.a0,p.cls.a1,p.cls.a2,p.cls.a3,p.cls.a4,p.cls.a5] (r - p.classes.length - 6).toNat 0=nthD p.classes o.bidder.toNat 0 then 0
 else nthD [o.want.a0,o.want.a1,o.want.a2,o.want.a3,o.want.a4,o.want.a5] (r - p.classes.length - 6).toNat 0
theorem coefR_eq {p:Prob} {r:Int} {o:Off} (h:o.bidder<p.classes.length):coefR p r o=coefS p r o:=by
 unfold coefR coefS
 have:¬(p.classes.length:Int)≤o.bidder:=by omega
 simp only[this,false_or]
def r110:SCtr:=⟨51,Prob×Int×Off,.cons codP (.cons (codI .i64) (.one (codE .off))),fun a=>a.1.classes.length≤8∧0≤a.2.1∧a.2.1<nrows a.1∧0≤a.2.2.bidder,
 fun a=> .tup [.si .i64 (coefR a.1 a.2.1 a.2.2),.si .i64 (boundS a.1 a.2.1)]⟩
theorem h110:Holds Try.prog r110:=by
 refine con (L:=[]) r110 F110 (fun _ _=> .unroll 7) (OwnOK.none _) (by simp) (by kernel_rfl) (by kernel_rfl) (fun _=>rfl) ?_
 rintro⟨p,r,x⟩ ⟨hp,h1,h2,h3⟩
 simp only[nrows] at hp h1 h2 h3
 refine vcOf (let z0:=(↑p.classes.length:Int);let z1:=decide (x.bidder=r);let z2:=SV.il .i64 1;let z3:=SV.tup [SV.si .i64 (coefR p r x),SV.si .i64 (boundS p r)];let z4:=SV.il .i64 0;let z5:=decide (r<z0+(6:Int));let z6:=(r - z0).toNat;let z7:=[x.want.a0,x.want.a1,x.want.a2,x.want.a3,x.want.a4,x.want.a5];let z8:=r - z0 - (6:Int);let z9:=nthD [p.cls.a0,p.cls.a1,p.cls.a2,p.cls.a3,p.cls.a4,p.cls.a5] z8.toNat (0:Int);let z10:=decide (z9≠(0:Int));let z11:=decide (x.bidder<z0);let z12:=decide (z9≠nthD p.classes x.bidder.toNat (0:Int));let z13:=[SV.si .i64 (nthD [p.opn.a0,p.opn.a1,p.opn.a2,p.opn.a3,p.opn.a4,p.opn.a5] z8.toNat (0:Int))];(decide (r<z0)=true→(z1=true→(SV.tup [z2,z2]).same z3)∧(z1=false→(SV.tup [z4,z2]).same z3))∧(decide (r<z0)=false→inR .i64 (z0+(6:Int))∧(z5=true→inR .i64 (r - z0)∧(0:Int)≤r - z0∧r - z0<(6:Int)∧z6<6∧inR .i64 (r - z0)∧(0:Int)≤r - z0∧r - z0<(6:Int)∧z6<6∧(SV.tup [SV.si .i64 (nthD z7 z6 (0:Int)),SV.si .i64 (nthD [p.supply.a0,p.supply.a1,p.supply.a2,p.supply.a3,p.supply.a4,p.supply.a5] z6 (0:Int))]).same z3)∧(z5=false→inR .i64 (r - z0)∧inR .i64 z8∧(0:Int)≤z8∧z8<(6:Int)∧z8.toNat<6∧(z10=true→(z11=true→(0:Int)≤z8∧z8<(6:Int)∧z8.toNat<6∧(0:Int)≤x.bidder∧x.bidder<z0∧x.bidder.toNat<p.classes.length∧(z12=true→(0:Int)≤z8∧z8<(6:Int)∧z8.toNat<6∧(0:Int)≤z8∧z8<(6:Int)∧z8.toNat<6∧(SV.tup (SV.si .i64 (nthD z7 z8.toNat (0:Int))::z13)).same z3)∧(z12=false→(0:Int)≤z8∧z8<(6:Int)∧z8.toNat<6∧(SV.tup (z4::z13)).same z3))∧(z11=false→(0:Int)≤z8∧z8<(6:Int)∧z8.toNat<6∧(SV.tup (z4::z13)).same z3))∧(z10=false→(0:Int)≤z8∧z8<(6:Int)∧z8.toNat<6∧(SV.tup (z4::z13)).same z3)))) (by kernel_rfl) ?_
 simp only[vcs]
 have b1:r - p.classes.length<0→boundS p r=1:=fun h=>by unfold boundS;rw[if_pos h]
 have b2:¬r - p.classes.length<0→r - p.classes.length<6→boundS p r=nthD [p.supply.a0,p.supply.a1,p.supply.a2,p.supply.a3,p.supply.a4,p.supply.a5] (r - p.classes.length).toNat 0:=fun h h'=>by unfold boundS;rw[if_neg h,if_pos h']
 have b3:¬r - p.classes.length<0→¬r - p.classes.length<6→boundS p r=nthD [p.opn.a0,p.opn.a1,p.opn.a2,p.opn.a3,p.opn.a4,p.opn.a5] (r - p.classes.length - 6).toNat 0:=fun h h'=>by unfold boundS;rw[if_neg h,if_neg h']
 have c1:r - p.classes.length<0→coefR p r x=if x.bidder=r then 1 else 0:=fun h=>by unfold coefR;rw[if_pos h]
 have c2:¬r - p.classes.length<0→r - p.classes.length<6→coefR p r x=nthD [x.want.a0,x.want.a1,x.want.a2,x.want.a3,x.want.a4,x.want.a5] (r - p.classes.length).toNat 0:=fun h h'=>by unfold coefR;rw[if_neg h,if_pos h']
 have c3:=fun(h:¬r - p.classes.length<0) (h':¬r - p.classes.length<6)=>(show coefR p r x=_ by unfold coefR;rw[if_neg h,if_neg h'])
 refine⟨fun ha=>?_,fun ha=>⟨by omega,fun hb=>?_,fun hb=>?_⟩⟩
 ·rw[b1 (by omega),c1 (by omega)]
  exact⟨fun h=>by simp[h],fun h=>by simp[h]⟩
 ·rw[b2 (by omega) (by omega),c2 (by omega) (by omega)]
  refine⟨by omega,by omega,by omega,by omega,by omega,by omega,by omega,by omega,rfl,rfl⟩
 ·rw[b3 (by omega) (by omega),c3 (by omega) (by omega)]
  refine⟨by omega,by omega,by omega,by omega,by omega,fun h4=>⟨fun h5=>⟨by omega,by omega,by omega,by omega,by omega,by omega,fun h6=>⟨by omega,by omega,by omega,by omega,by omega,by omega,(if_neg (by omega)).symm,rfl⟩,fun h6=>⟨by omega,by omega,by omega,(if_pos (by omega)).symm,rfl⟩⟩,fun h5=>⟨by omega,by omega,by omega,(if_pos (by omega)).symm,rfl⟩⟩,fun h4=>⟨by omega,by omega,by omega,(if_pos (by omega)).symm,rfl⟩⟩
def M1:List SCtr:=[r110,r68]
theorem hM1:∀c∈M1,Holds Try.prog c:=by
 simp only[M1,List.forall_mem_cons,List.not_mem_nil,false_implies,implies_true,and_true]
 exact⟨h110,h68⟩
def r69:SCtr:=⟨34,Prob×List Off,.cons codP (.one (codR .off)),fun a=>a.1.classes.length≤8∧a.2.length≤1000∧(∀x∈a.2,0≤x.bidder∧x.bidder<a.1.classes.length∧x.want.ok=true),fun a=> .sb (fitsB a.1 a.2)⟩
def Λ69 (a:Prob×List Off):Nat→LoopAnn
 |2=> .inv Int (fun i=>⟨[(1,.row .off a.2),(2,.ptr 0 0 20),(5,.si .i64 i)],[.cells a.1.ss 27 20 false]⟩) (fun s=>iS s 5)
  (fun i=>0≤i∧i≤nrows a.1∧∀r:Nat,r<i→sumS a.1 a.2 r≤boundS a.1 r) (fun i=>(nrows a.1 - i).toNat)
  fun i=>fun
   |6=> .inv (Int×Int) (fun x=>⟨[(1,.row .off a.2),(2,.ptr 0 0 20),(5,.si .i64 i),(6,.si .i64 x.2),(7,.si .i64 x.1)],[.cells a.1.ss 27 20 false]⟩)
    (fun s=>(iS s 7,iS s 6))
    (fun x=>0≤x.1∧x.1≤a.2.length∧x.2=sumS a.1 (a.2.take x.1.toNat) i) (fun x=>(a.2.length - x.1).toNat) fun _ _=> .look
   |_=> .look
 |_=> .look
theorem h69:Holds Try.prog r69:=by
 refine con (L:=M1) r69 F69 Λ69 (OwnOK.none _) hM1 (by kernel_rfl) (by kernel_rfl) (fun _=>rfl) ?_
 rintro⟨p,l⟩ ⟨hp,hl,hb⟩
 simp only at hp hl hb
 refine vcOf (let z0:=SV.ptr 0 0 20;let z1:=SObj.cells (Prob.ss p) 27 20 false;let z2:=(↑p.classes.length:Int)+(12:Int);let z3:=(↑l.length:Int);((((SV.row SId.off l).same (SV.row SId.off l)∧z0.same z0∧(SV.il .i64 0).same (SV.si .i64 0)∧True)∧z1.same z1∧True)∧(0:Int)≤(0:Int)∧(0:Int)≤nrows p∧∀(r:Nat),(↑r:Int)<(0:Int)→sumS p l (↑r:Int)≤boundS p (↑r:Int))∧∀(x:Int),let z4:=x+(1:Int);let z5:=SV.si .i64 z4;((0:Int)≤x∧x≤nrows p∧∀(r:Nat),(↑r:Int)<x→sumS p l (↑r:Int)≤boundS p (↑r:Int))→inR .i64 z2∧(decide (x<z2)=true→((((SV.row SId.off l).same (SV.row SId.off l)∧z0.same z0∧(SV.si .i64 x).same (SV.si .i64 x)∧(SV.il .i64 0).same (SV.si .i64 0)∧(SV.il .i64 0).same (SV.si .i64 0)∧True)∧z1.same z1∧True)∧(0:Int)≤(0:Int)∧(0:Int)≤z3∧(0:Int)=sumS p [] x)∧∀(x_1:Int×Int),let z6:=decide (x_1.fst<(↑l.length:Int));let z7:=nthD l x_1.fst.toNat SId.off.dflt;let z8:=x_1.snd+coefR p x z7;let z9:=x_1.fst+(1:Int);let z10:=SV.si .i64 x;let z11:=SV.si .i64 z8;let z12:=SV.si .i64 z9;let z13:=decide (boundS p x<x_1.snd);(0:Int)≤x_1.fst∧x_1.fst≤z3∧x_1.snd=sumS p (List.take x_1.fst.toNat l) x→(z6=true→(0:Int)≤x_1.fst∧x_1.fst<(↑l.length:Int)∧x_1.fst.toNat<l.length∧(p.classes.length≤8∧(0:Int)≤x∧x<nrows p∧(0:Int)≤z7.bidder)∧inR .i64 z8∧inR .i64 z9∧(((SV.row SId.off l).same (SV.row SId.off l)∧z0.same z0∧z10.same z10∧z11.same z11∧z12.same z12∧True)∧z1.same z1∧True)∧((0:Int)≤z9∧z9≤z3∧z8=sumS p (List.take z9.toNat l) x)∧(z3 - z9).toNat<(z3 - x_1.fst).toNat)∧(z6=false→(p.classes.length≤8∧(0:Int)≤x∧x<nrows p∧(0:Int)≤(0:Int))∧(z13=true→(SV.bl false).same (SV.sb (fitsB p l)))∧(z13=false→inR .i64 z4∧(((SV.row SId.off l).same (SV.row SId.off l)∧z0.same z0∧z5.same z5∧True)∧z1.same z1∧True)∧((0:Int)≤z4∧z4≤nrows p∧∀(r:Nat),(↑r:Int)<z4→sumS p l (↑r:Int)≤boundS p (↑r:Int))∧(nrows p - z4).toNat<(nrows p - x).toNat)))∧(decide (x<z2)=false→(SV.bl true).same (SV.sb (fitsB p l)))) (by kernel_rfl) ?_
 simp only[vcs]
 have hn:nrows p=p.classes.length+12:=rfl
 have ho:∀x∈l,x.want.ok=true:=fun x hx=>(hb x hx).2.2
 refine⟨⟨by omega,by omega,fun r hr=>by omega⟩,?_⟩
 rintro i ⟨hi0,hi1,hi⟩
 refine⟨by omega,fun hlt=>⟨⟨by omega,by omega,by simp[sumS]⟩,?_⟩,?_⟩
 ·rintro⟨j,s⟩ ⟨hj0,hj1,hs⟩
  simp only at hj0 hj1 hs ⊢
  have hsb:=@sum_bd p i (l.take j.toNat) fun x hx=>ho x (List.mem_of_mem_take hx)
  have hlen:(l.take j.toNat).length≤l.length:=by simp;omega
  refine⟨fun hjl=>?_,fun hjl=>?_⟩
  ·have hm:=hb _ (nthD_mem (d:=SId.off.dflt) (show j.toNat<l.length by omega))
   have hc:=@coef_bd p i _ hm.2.2
   have hst:=@sum_take p i l j SId.off.dflt hj0 hjl
   rw[coefR_eq hm.2.1]
   refine⟨by omega,by omega,by omega,⟨hp,by omega,by omega,hm.1⟩,by omega,by omega,⟨by omega,by omega,by omega⟩,by omega⟩
  ·have:j.toNat=l.length:=by omega
   rw[this,List.take_length] at hs
   refine⟨⟨hp,by omega,by omega,by omega⟩,fun hgt=>?_,fun hle=>⟨by omega,⟨by omega,by omega,fun r hr=>?_⟩,by omega⟩⟩
   ·symm
    rw[Bool.eq_false_iff]
    intro hf
    have:=fits_iff.1 hf i.toNat (by omega)
    rw[show((i.toNat:Nat):Int)=i from by omega] at this
    omega
   ·by_cases hr2:(r:Int)<i
    ·exact hi r hr2
    ·have:(r:Int)=i:=by omega
     rw[this]
     omega
 ·intro hge
  symm
  exact fits_iff.2 fun r hr=>hi r (by omega)
def r24:SCtr:=⟨21,Prob,.one codP,fun p=>True,fun p=> .si .i64 (checkE p)⟩
def Λ24 (p:Prob):Nat→LoopAnn
 |11=> .inv Int (fun k=>⟨[(1,.ptr 0 0 20),(4,.si .i64 k)],[.cells p.ss 27 20 false]⟩) (fun s=>iS s 4) (fun k=>0≤k∧k≤p.classes.length∧∀c∈p.classes.take k.toNat,0≤c∧c≤4) (fun k=>(p.classes.length - k).toNat) fun _ _=> .look
 |16=> .inv Int (fun i=>⟨[(1,.ptr 0 0 20),(5,.si .i64 i)],[.cells p.ss 27 20 false]⟩) (fun s=>iS s 5)
  (fun i=>0≤i∧i≤p.offers.length∧checkL p [] p.offers=checkL p ((p.offers.take i.toNat).map Off.key) (p.offers.drop i.toNat)) (fun i=>(p.offers.length - i).toNat)
  fun i=>fun
   |26=> .inv Int (fun k=>⟨[(1,.ptr 0 0 20),(5,.si .i64 i),(6,.ptr 1 0 8),(7,.si .i64 k)],[.cells p.ss 27 20 false,.cells (encS .off (nthD p.offers i.toNat SId.off.dflt)) 48 8 false]⟩) (fun s=>iS s 7)
    (fun k=>0≤k∧k≤i∧∀j:Nat,j<k→(nthD p.offers j SId.off.dflt).key≠(nthD p.offers i.toNat SId.off.dflt).key) (fun k=>(i - k).toNat) fun _ _=> .look
   |_=> .look
 |4=> .inv Int (fun k=>⟨[(1,.ptr 0 0 20),(3,.si .i64 k)],[.cells p.ss 27 20 false]⟩) (fun s=>iS s 3) (fun k=>0≤k∧k≤6∧∀j:Nat,j<k→prodOk p j) (fun k=>(6 - k).toNat) fun _ _=> .look
 |_=> .look
theorem bun_z {b:Bun}:(decide (b.a0=0)&&(decide (b.a1=0)&&(decide (b.a2=0)&&(decide (b.a3=0)&&(decide (b.a4=0)&&(decide (b.a5=0)&&true))))))=decide (b=Bun.zero):=by
 rw[Bool.eq_iff_iff]
 simp[bun_eq,Bun.zero]
theorem bun_d {b c:Bun}:(decide (b.a0=c.a0)&&(decide (b.a1=c.a1)&&(decide (b.a2=c.a2)&&(decide (b.a3=c.a3)&&(decide (b.a4=c.a4)&&(decide (b.a5=c.a5)&&true))))))=decide (b=c):=by
 rw[Bool.eq_iff_iff]
 simp[bun_eq]
theorem mem_take_nth {α:Type} {l:List α} {i:Int} {d x:α} (h1:i≤l.length) (h:x∈l.take i.toNat):∃j:Nat,(j:Int)<i∧nthD l j d=x:=by
 obtain⟨j,hj,rfl⟩:=List.mem_iff_getElem.1 h
 have hj2:=hj
 simp only[List.length_take] at hj2
 refine⟨j,by omega,?_⟩
 rw[nthD_eq (by omega),List.getElem_take]
theorem h24:Holds Try.prog r24:=by
 refine con (L:=r69::M1) r24 F24 Λ24 (OwnOK.none _) (by simp only[List.forall_mem_cons];exact⟨h69,hM1⟩) (by kernel_rfl) (by kernel_rfl) (fun _=>rfl) ?_
 intro p _
 refine vcOf (let z0:=SV.si .i64 (checkE p);let z1:=SV.ptr 0 0 20;let z2:=SV.il .i64 0;let z3:=SObj.cells (Prob.ss p) 27 20 false;let z4:=[p.cls.a0,p.cls.a1,p.cls.a2,p.cls.a3,p.cls.a4,p.cls.a5];let z5:=[p.opn.a0,p.opn.a1,p.opn.a2,p.opn.a3,p.opn.a4,p.opn.a5];let z6:=[p.supply.a0,p.supply.a1,p.supply.a2,p.supply.a3,p.supply.a4,p.supply.a5];let z7:=p.classes.length;let z8:=(↑z7:Int);let z9:=decide ((8:Int)<z8);let z10:=p.offers.length;let z11:=(↑z10:Int);let z12:=decide ((160:Int)<z11);let z13:=(↑p.classes.length:Int);let z14:=(↑p.offers.length:Int);let z15:=checkL p [] p.offers;let z16:=SId.off.dflt;let z17:=SV.ptr 1 0 8;True∧((!p.supply.ok)=true→(SV.il .i64 4).same z0)∧((!p.supply.ok)=false→(((z1.same z1∧z2.same (SV.si .i64 0)∧True)∧z3.same z3∧True)∧(0:Int)≤(0:Int)∧(0:Int)≤(6:Int)∧∀(j:Nat),(↑j:Int)<(0:Int)→prodOk p j)∧∀(x:Int),let z18:=decide (x<(6:Int));let z19:=nthD z4 x.toNat (0:Int);let z20:=decide (z19<(0:Int));let z21:=decide ((4:Int)<z19);let z22:=nthD z5 x.toNat (0:Int);let z23:=decide (z22<(0:Int));let z24:=nthD z6 x.toNat (0:Int);let z25:=decide (z19=(0:Int));let z26:=x+(1:Int);let z27:=SV.si .i64 z26;((0:Int)≤x∧x≤(6:Int)∧∀(j:Nat),(↑j:Int)<x→prodOk p j)→(z18=true→(0:Int)≤x∧x<(6:Int)∧x.toNat<6∧(z20=true→(SV.il .i64 4).same z0)∧(z20=false→(0:Int)≤x∧x<(6:Int)∧x.toNat<6∧(z21=true→(SV.il .i64 4).same z0)∧(z21=false→(0:Int)≤x∧x<(6:Int)∧x.toNat<6∧(z23=true→(SV.il .i64 4).same z0)∧(z23=false→(0:Int)≤x∧x<(6:Int)∧x.toNat<6∧(0:Int)≤x∧x<(6:Int)∧x.toNat<6∧(decide (z24<z22)=true→(SV.il .i64 4).same z0)∧(decide (z24<z22)=false→(0:Int)≤x∧x<(6:Int)∧x.toNat<6∧(z25=true→(0:Int)≤x∧x<(6:Int)∧x.toNat<6∧(0:Int)≤x∧x<(6:Int)∧x.toNat<6∧(decide (z22≠z24)=true→(SV.il .i64 4).same z0)∧(decide (z22≠z24)=false→inR .i64 z26∧((z1.same z1∧z27.same z27∧True)∧z3.same z3∧True)∧((0:Int)≤z26∧z26≤(6:Int)∧∀(j:Nat),(↑j:Int)<z26→prodOk p j)∧((6:Int) - z26).toNat<((6:Int) - x).toNat))∧(z25=false→inR .i64 z26∧((z1.same z1∧z27.same z27∧True)∧z3.same z3∧True)∧((0:Int)≤z26∧z26≤(6:Int)∧∀(j:Nat),(↑j:Int)<z26→prodOk p j)∧((6:Int) - z26).toNat<((6:Int) - x).toNat))))))∧(z18=false→(z9=true→(SV.il .i64 3).same z0)∧(z9=false→(z12=true→(SV.il .i64 3).same z0)∧(z12=false→(((z1.same z1∧z2.same (SV.si .i64 0)∧True)∧z3.same z3∧True)∧(0:Int)≤(0:Int)∧(0:Int)≤z13∧∀(c:Int),c∈[]→(0:Int)≤c∧c≤(4:Int))∧∀(x:Int),let z28:=nthD p.classes x.toNat (0:Int);let z29:=decide (z28<(0:Int));let z30:=decide ((4:Int)<z28);let z31:=x+(1:Int);let z32:=SV.si .i64 z31;((0:Int)≤x∧x≤z13∧∀(c:Int),c∈List.take x.toNat p.classes→(0:Int)≤c∧c≤(4:Int))→(decide (x<z8)=true→(0:Int)≤x∧x<z8∧x.toNat<z7∧(z29=true→(SV.il .i64 4).same z0)∧(z29=false→(0:Int)≤x∧x<z8∧x.toNat<z7∧(z30=true→(SV.il .i64 4).same z0)∧(z30=false→inR .i64 z31∧((z1.same z1∧z32.same z32∧True)∧z3.same z3∧True)∧((0:Int)≤z31∧z31≤z13∧∀(c:Int),c∈List.take z31.toNat p.classes→(0:Int)≤c∧c≤(4:Int))∧(z13 - z31).toNat<(z13 - x).toNat)))∧(decide (x<z8)=false→(((z1.same z1∧z2.same (SV.si .i64 0)∧True)∧z3.same z3∧True)∧(0:Int)≤(0:Int)∧(0:Int)≤z14∧z15=z15)∧∀(x:Int),let z33:=nthD p.offers x.toNat z16;let z34:=z33.bidder;let z35:=decide (z34<(0:Int));let z36:=decide (z33.value<(1:Int));let z37:=decide ((1000000:Int)<z33.value);let z38:=z33.want;let z39:=decide (z38.a0=(0:Int))&&(decide (z38.a1=(0:Int))&&(decide (z38.a2=(0:Int))&&(decide (z38.a3=(0:Int))&&(decide (z38.a4=(0:Int))&&(decide (z38.a5=(0:Int))&&true)))));let z40:=SObj.cells [SV.si .i64 z34,SV.si .i64 z38.a0,SV.si .i64 z38.a1,SV.si .i64 z38.a2,SV.si .i64 z38.a3,SV.si .i64 z38.a4,SV.si .i64 z38.a5,SV.si .i64 z33.value] 48 8 false;let z41:=x+(1:Int);let z42:=SV.si .i64 z41;(0:Int)≤x∧x≤z14∧z15=checkL p (List.map Off.key (List.take x.toNat p.offers)) (List.drop x.toNat p.offers)→(decide (x<z11)=true→(0:Int)≤x∧x<z11∧x.toNat<z10∧(z35=true→(SV.il .i64 6).same z0)∧(z35=false→(decide (z8≤z34)=true→(SV.il .i64 6).same z0)∧(decide (z8≤z34)=false→(z36=true→(SV.il .i64 4).same z0)∧(z36=false→(z37=true→(SV.il .i64 4).same z0)∧(z37=false→True∧((!z38.ok)=true→(SV.il .i64 4).same z0)∧((!z38.ok)=false→(z39=true→(SV.il .i64 4).same z0)∧(z39=false→(p.classes.length≤8∧1≤1000∧∀(x:Off),x∈[z33]→(0:Int)≤x.bidder∧x.bidder<z13∧x.want.ok=true)∧((!fitsB p [z33])=true→(SV.il .i64 14).same z0)∧((!fitsB p [z33])=false→(((z1.same z1∧(SV.si .i64 x).same (SV.si .i64 x)∧z17.same z17∧z2.same (SV.si .i64 0)∧True)∧z3.same z3∧z40.same z40∧True)∧(0:Int)≤(0:Int)∧(0:Int)≤x∧∀(j:Nat),(↑j:Int)<(0:Int)→(nthD p.offers j z16).key≠z33.key)∧∀(x_1:Int),let z43:=nthD p.offers x_1.toNat z16;let z44:=decide (z43.bidder=z34);let z45:=z43.want;let z46:=decide (z45.a0=z38.a0)&&(decide (z45.a1=z38.a1)&&(decide (z45.a2=z38.a2)&&(decide (z45.a3=z38.a3)&&(decide (z45.a4=z38.a4)&&(decide (z45.a5=z38.a5)&&true)))));let z47:=x_1+(1:Int);let z48:=SV.si .i64 x;let z49:=SV.si .i64 z47;((0:Int)≤x_1∧x_1≤x∧∀(j:Nat),(↑j:Int)<x_1→(nthD p.offers j z16).key≠z33.key)→(decide (x_1<x)=true→(0:Int)≤x_1∧x_1<z11∧x_1.toNat<z10∧(z44=true→(0:Int)≤x_1∧x_1<z11∧x_1.toNat<z10∧(z46=true→(SV.il .i64 7).same z0)∧(z46=false→inR .i64 z47∧((z1.same z1∧z48.same z48∧z17.same z17∧z49.same z49∧True)∧z3.same z3∧z40.same z40∧True)∧((0:Int)≤z47∧z47≤x∧∀(j:Nat),(↑j:Int)<z47→(nthD p.offers j z16).key≠z33.key)∧(x - z47).toNat<(x - x_1).toNat))∧(z44=false→inR .i64 z47∧((z1.same z1∧z48.same z48∧z17.same z17∧z49.same z49∧True)∧z3.same z3∧z40.same z40∧True)∧((0:Int)≤z47∧z47≤x∧∀(j:Nat),(↑j:Int)<z47→(nthD p.offers j z16).key≠z33.key)∧(x - z47).toNat<(x - x_1).toNat))∧(decide (x_1<x)=false→inR .i64 z41∧((z1.same z1∧z42.same z42∧True)∧z3.same z3∧True)∧((0:Int)≤z41∧z41≤z14∧z15=checkL p (List.map Off.key (List.take z41.toNat p.offers)) (List.drop z41.toNat p.offers))∧(z14 - z41).toNat<(z14 - x).toNat)))))))))∧(decide (x<z11)=false→z2.same z0))))))) (by kernel_rfl) ?_
 simp only[bun_z,bun_d]
 simp only[vcs]
 have e4:frameE p=4→(4:Int)=checkE p:=fun h=>by simp[checkE,h]
 have e3:frameE p=3→(3:Int)=checkE p:=fun h=>by simp[checkE,h]
 refine⟨fun hs=>e4 (frame_sup hs),fun hs=>⟨⟨by omega,by omega,fun j hj=>by omega⟩,?_⟩⟩
 rintro k ⟨hk0,hk1,hk⟩
 refine⟨fun hlt=>?_,fun hge=>?_⟩
 ·have bad:¬prodOk p k.toNat→(4:Int)=checkE p:=fun h=>e4 (frame_prod hs (by omega) h)
  have nxt:prodOk p k.toNat→∀(j:Nat),(j:Int)<k+1→prodOk p j:=fun h j hj=>by
   by_cases hj2:(j:Int)<k
   ·exact hk j hj2
   ·rw[show j=k.toNat from by omega];exact h
  repeat' (first|refine And.intro ?_ ?_|intro _)
  all_goals first
   |omega
   |exact bad fun hh=>by have h2:=prodOk_iff.1 hh;omega
   |exact nxt (prodOk_iff.2 (by omega)) _ (by assumption)
 ·have hall:∀j:Nat,j<6→prodOk p j:=fun j hj=>hk j (by omega)
  refine⟨fun h=>e3 (frame_len hs hall (.inl (by omega))),fun h8=>⟨fun h=>e3 (frame_len hs hall (.inr (by omega))),fun h160=>⟨⟨by omega,by omega,by simp⟩,?_⟩⟩⟩
  rintro i ⟨hi0,hi1,hi⟩
  refine⟨fun hlt=>?_,fun hge=>?_⟩
  ·have hm:=nthD_mem (d:=0) (show i.toNat<p.classes.length by omega)
   refine⟨by omega,by omega,by omega,fun h=>e4 (frame_cls hs hall (by omega) hm (by omega)),fun h1=>⟨by omega,by omega,by omega,fun h=>e4 (frame_cls hs hall (by omega) hm (by omega)),fun h2=>⟨by omega,⟨by omega,by omega,?_⟩,by omega⟩⟩⟩
   exact mem_take_next hi0 hlt hi (by omega)
  ·rw[show i.toNat=p.classes.length from by omega,List.take_length] at hi
   have hz:frameE p=0:=frame_ok hs hall (by omega) hi
   have ce:checkE p=checkL p [] p.offers:=by simp[checkE,hz]
   refine⟨⟨by omega,by omega⟩,?_⟩
   rintro i ⟨hi0,hi1,hi⟩
   refine⟨fun hlt=>?_,fun hge=>?_⟩
   ·rw[drop_nth (d:=SId.off.dflt) hi0 hlt] at hi
    generalize hx:nthD p.offers i.toNat SId.off.dflt=x at hi ⊢
    have oe:∀c:Int,c≠0→offerE p x=c→c=checkE p:=fun c hc h=>by
     rw[ce,hi]
     simp only[checkL,h]
     rw[if_pos hc]
    have se:∀c:Int,c≠0→simpleE p.classes.length x=c→c=checkE p:=fun c hc h=>oe c hc (by
     unfold offerE
     rw[if_pos (by omega),h])
    refine⟨by omega,by omega,by omega,fun h1=>?_,fun h1=>⟨fun h2=>?_,fun h2=>⟨fun h3=>?_,fun h3=>⟨fun h4=>?_,fun h4=>⟨fun h5=>?_,fun h5=>⟨fun h6=>?_,fun h6=>?_⟩⟩⟩⟩⟩⟩
    ·exact se 6 (by decide) (by unfold simpleE;rw[if_pos (by omega)])
    ·exact se 6 (by decide) (by unfold simpleE;rw[if_pos (by omega)])
    ·exact se 4 (by decide) (by unfold simpleE;rw[if_neg (by omega),if_pos (by omega)])
    ·exact se 4 (by decide) (by unfold simpleE;rw[if_neg (by omega),if_pos (by omega)])
    ·exact se 4 (by decide) (by unfold simpleE;rw[if_neg (by omega),if_neg (by omega),h5];rfl)
    ·have hs0:simpleE p.classes.length x=0:=by unfold simpleE;rw[if_neg (by omega),if_neg (by omega),h5];rfl
     exact oe 4 (by decide) (by simp[offerE,hs0,h6])
    ·have hs0:simpleE p.classes.length x=0:=by unfold simpleE;rw[if_neg (by omega),if_neg (by omega),h5];rfl
     refine⟨⟨by omega,by omega,fun y hy=>?_⟩,fun h7=>?_,fun h7=>⟨⟨by omega,by omega,fun j hj=>by omega⟩,?_⟩⟩
     ·rw[List.mem_singleton.1 hy]
      exact⟨by omega,by omega,h5⟩
     ·exact oe 14 (by decide) (by simp[offerE,hs0,h6,h7])
     ·have ho0:offerE p x=0:=by simp[offerE,hs0,h6,h7]
      rintro k ⟨hk0,hk1,hk⟩
      have hnx:(nthD p.offers k.toNat SId.off.dflt).key≠x.key→∀j:Nat,(j:Int)<k+1→(nthD p.offers j SId.off.dflt).key≠x.key:=fun h j hj=>by
       by_cases hj2:(j:Int)<k
       ·exact hk j hj2
       ·rw[show j=k.toNat from by omega];exact h
      refine⟨fun hlt2=>⟨by omega,by omega,by omega,fun h8=>⟨by omega,by omega,by omega,fun h9=>?_,fun h9=>⟨by omega,⟨by omega,by omega,?_⟩,by omega⟩⟩,fun h8=>⟨by omega,⟨by omega,by omega,?_⟩,by omega⟩⟩,fun hge2=>⟨by omega,⟨by omega,by omega,?_⟩,by omega⟩⟩
      ·have hk9:(nthD p.offers k.toNat SId.off.dflt).key=x.key:=by
        show BKey.mk _ _=BKey.mk _ _
        rw[h8,h9]
       have hmem:x.key∈(p.offers.take i.toNat).map Off.key:=by
        rw[←hk9]
        refine List.mem_map.2 ⟨_,?_,rfl⟩
        rw[nthD_eq (by omega)]
        exact List.mem_take_iff_getElem.2 ⟨k.toNat,by omega,rfl⟩
       rw[ce,hi]
       simp only[checkL,ho0,ne_eq,not_true,if_false,if_pos hmem]
      ·refine hnx fun e=>h9 ?_
       injection e
      ·refine hnx fun e=>h8 ?_
       injection e
      ·have hnm:x.key∉(p.offers.take i.toNat).map Off.key:=by
        intro hmem
        obtain⟨o,ho,he⟩:=List.mem_map.1 hmem
        obtain⟨j,hj,rfl⟩:=mem_take_nth (d:=SId.off.dflt) hi1 ho
        exact hk j (by omega) he
       rw[hi,take_nth (d:=SId.off.dflt) hi0 hlt,hx]
       simp only[checkL,ho0,ne_eq,not_true,if_false,if_neg hnm,List.map_append,List.map_cons,List.map_nil]
   ·rw[show i.toNat=p.offers.length from by omega,List.drop_length] at hi
    rw[ce,hi]
    rfl
def M2:List SCtr:=r24::r69::M1
theorem hM2:∀c∈M2,Holds Try.prog c:=by
 simp only[M2,List.forall_mem_cons]
 exact⟨h24,h69,hM1⟩
def r109:SCtr:=⟨27,Prob×List Int,.cons codP (.one (codR (.i .i64))),fun a=>a.2.length≤9223372036854775807∧a.1.offers.length≤1000,fun a=> .tup [.row .off (pickL a.1 a.2),.sb (pickOk a.1 a.2)]⟩
def lastI (c:List Int) (i:Int):Int:=if i=0 then -1 else nthD c (i - 1).toNat 0
def Λ109 (a:Prob×List Int):Nat→LoopAnn
 |3=> .inv (Int×List Off) (fun x=>⟨[(1,.row (.i .i64) a.2),(2,.ptr 0 0 20),(6,.ow 1 x.2.length 8),(7,.si .i64 x.1)],
   [.cells a.1.ss 27 20 false,.row .off x.2 48 true]⟩) (fun s=>(iS s 7,oS .off s 1))
  (fun x=>0≤x.1∧x.1≤a.2.length∧(x.2.length≤lastI a.2 x.1+1∧lastI a.2 x.1<1000)∧ -1≤lastI a.2 x.1∧pickGo a.1.offers (-1) a.2=(pickGo a.1.offers (lastI a.2 x.1) (a.2.drop x.1.toNat)).map (x.2++·)) (fun x=>(a.2.length - x.1).toNat) fun _ _=> .look
 |_=> .look
theorem h109:Holds Try.prog r109:=by
 refine con (L:=M2) r109 F109 Λ109 (OwnOK.none _) hM2 (by kernel_rfl) (by kernel_rfl) (fun _=>rfl) ?_
 rintro⟨p,c⟩ ⟨hc,hof⟩
 have hc:c.length≤9223372036854775807:=hc
 have hof:p.offers.length≤1000:=hof
 refine vcOf (let z0:=SId.i .i64;let z1:=SV.ptr 0 0 20;let z2:=SV.ow 1 0 8;let z3:=SObj.cells [SV.si .i64 p.supply.a0,SV.si .i64 p.supply.a1,SV.si .i64 p.supply.a2,SV.si .i64 p.supply.a3,SV.si .i64 p.supply.a4,SV.si .i64 p.supply.a5,SV.si .i64 p.opn.a0,SV.si .i64 p.opn.a1,SV.si .i64 p.opn.a2,SV.si .i64 p.opn.a3,SV.si .i64 p.opn.a4,SV.si .i64 p.opn.a5,SV.si .i64 p.cls.a0,SV.si .i64 p.cls.a1,SV.si .i64 p.cls.a2,SV.si .i64 p.cls.a3,SV.si .i64 p.cls.a4,SV.si .i64 p.cls.a5,SV.row z0 p.classes,SV.row SId.off p.offers] 27 20 false;let z4:=SObj.row SId.off [] 48 true;let z5:=(↑c.length:Int);let z6:=lastI c (0:Int);let z7:=pickGo p.offers (-1:Int) c;let z8:=(↑c.length:Int);let z9:=SV.tup [SV.row SId.off (pickL p c),SV.sb (pickOk p c)];let z10:=p.offers.length;let z11:=(↑z10:Int);let z12:=SId.off.dflt;((((SV.row z0 c).same (SV.row z0 c)∧z1.same z1∧z2.same z2∧(SV.il .i64 0).same (SV.si .i64 0)∧True)∧z3.same z3∧z4.same z4∧True)∧(0:Int)≤(0:Int)∧(0:Int)≤z5∧((0:Int)≤z6+(1:Int)∧z6<(1000:Int))∧(-1:Int)≤z6∧z7=Option.map (fun x ↦((0:Int),[]).snd++x) (pickGo p.offers z6 c))∧∀(x:Int×List Off),let z13:=lastI c x.fst;let z14:=nthD c x.fst.toNat (0:Int);let z15:=decide (z14<(0:Int));let z16:=decide ((0:Int)<x.fst);let z17:=x.fst - (1:Int);let z18:=decide (z14≤nthD c z17.toNat (0:Int));let z19:=x.snd.length+1;let z20:=x.fst+(1:Int);let z21:=x.snd++[nthD p.offers z14.toNat z12];let z22:=SV.si .i64 z20;let z23:=SObj.row SId.off z21 48 true;let z24:=lastI c z20;(0:Int)≤x.fst∧x.fst≤z5∧((↑x.snd.length:Int)≤z13+(1:Int)∧z13<(1000:Int))∧(-1:Int)≤z13∧z7=Option.map (fun x_1 ↦x.snd++x_1) (pickGo p.offers z13 (List.drop x.fst.toNat c))→(decide (x.fst<z8)=true→(0:Int)≤x.fst∧x.fst<z8∧x.fst.toNat<c.length∧(z15=true→(SV.tup [SV.row z0 [],SV.bl false]).same z9)∧(z15=false→(0:Int)≤x.fst∧x.fst<z8∧x.fst.toNat<c.length∧(decide (z11≤z14)=true→(SV.tup [SV.row z0 [],SV.bl false]).same z9)∧(decide (z11≤z14)=false→(z16=true→(0:Int)≤x.fst∧x.fst<z8∧x.fst.toNat<c.length∧inR .i64 z17∧(0:Int)≤z17∧z17<z8∧z17.toNat<c.length∧(z18=true→(SV.tup [SV.row z0 [],SV.bl false]).same z9)∧(z18=false→(0:Int)≤x.fst∧x.fst<z8∧x.fst.toNat<c.length∧(0:Int)≤z14∧z14<z11∧z14.toNat<z10∧x.snd.length=x.snd.length∧z19*64≤140737488355328∧z19≤1000000000000∧inR .i64 z20∧(((SV.row z0 c).same (SV.row z0 c)∧z1.same z1∧(SV.ow 1 z21.length 8).same (SV.ow 1 z21.length 8)∧z22.same z22∧True)∧z3.same z3∧z23.same z23∧True)∧((0:Int)≤z20∧z20≤z5∧((↑z21.length:Int)≤z24+(1:Int)∧z24<(1000:Int))∧(-1:Int)≤z24∧z7=Option.map (fun x ↦(z20,z21).snd++x) (pickGo p.offers z24 (List.drop z20.toNat c)))∧(z5 - z20).toNat<(z5 - x.fst).toNat))∧(z16=false→(0:Int)≤x.fst∧x.fst<z8∧x.fst.toNat<c.length∧(0:Int)≤z14∧z14<z11∧z14.toNat<z10∧x.snd.length=x.snd.length∧z19*64≤140737488355328∧z19≤1000000000000∧inR .i64 z20∧(((SV.row z0 c).same (SV.row z0 c)∧z1.same z1∧(SV.ow 1 z21.length 8).same (SV.ow 1 z21.length 8)∧z22.same z22∧True)∧z3.same z3∧z23.same z23∧True)∧((0:Int)≤z20∧z20≤z5∧((↑z21.length:Int)≤z24+(1:Int)∧z24<(1000:Int))∧(-1:Int)≤z24∧z7=Option.map (fun x ↦(z20,z21).snd++x) (pickGo p.offers z24 (List.drop z20.toNat c)))∧(z5 - z20).toNat<(z5 - x.fst).toNat))))∧(decide (x.fst<z8)=false→x.snd.length=x.snd.length∧(SV.tup [SV.row SId.off x.snd,SV.bl true]).same z9)) (by kernel_rfl) ?_
 simp only[vcs]
 have hbad:pickGo p.offers (-1) c=none→(SV.row (.i .i64) []).same (SV.row .off (pickL p c))∧false=pickOk p c:=fun h=>⟨same_row_nil.2 (by simp[pickL,h]),by simp[pickOk,h]⟩
 refine⟨⟨by omega,by omega,by simp[lastI],by simp[lastI]⟩,?_⟩
 rintro⟨i,out⟩ ⟨hi0,hi1,hlen,hla,hi⟩
 simp only at hi0 hi1 hlen hla hi ⊢
 refine⟨fun hlt=>?_,fun hge=>?_⟩
 ·rw[drop_nth (d:=0) hi0 hlt] at hi
  have hl1:lastI c (i+1)=nthD c i.toNat 0:=by unfold lastI;rw[if_neg (by omega),show i+1 - 1=i by omega]
  have hl2:i≠0→lastI c i=nthD c (i - 1).toNat 0:=fun h=>by unfold lastI;rw[if_neg h]
  have hl3:i=0→lastI c i= -1:=fun h=>by unfold lastI;rw[if_pos h]
  generalize hx:nthD c i.toNat 0=x at hi hl1 ⊢
  simp only[pickGo] at hi
  have hgood:¬(x≤lastI c i∨p.offers.length≤x)→pickGo p.offers (-1) c=(pickGo p.offers (lastI c (i+1)) (c.drop (i+1).toNat)).map fun r=>(out++[nthD p.offers x.toNat SId.off.dflt])++r:=fun h=>by
   rw[if_neg h] at hi
   rw[hi,hl1,Option.map_map]
   congr 1
   funext r
   simp
  have bad:(x≤lastI c i∨p.offers.length≤x)→(SV.row (.i .i64) []).same (SV.row .off (pickL p c))∧false=pickOk p c:=fun h=>hbad (by rw[hi,if_pos h];rfl)
  have hlen2:¬(x≤lastI c i∨p.offers.length≤x)→((out++[nthD p.offers x.toNat SId.off.dflt]).length:Int)≤lastI c (i+1)+1∧lastI c (i+1)<1000:=fun h=>by
   rw[hl1]
   simp only[List.length_append,List.length_singleton]
   omega
  refine⟨by omega,by omega,by omega,fun h1=>bad (.inl (by omega)),fun h1=>⟨by omega,by omega,by omega,fun h2=>bad (.inr (by omega)),fun h2=>⟨fun h3=>⟨by omega,by omega,by omega,by omega,by omega,by omega,by omega,fun h4=>bad (.inl (by rw[hl2 (by omega)];omega)),fun h4=>?_⟩,fun h3=>?_⟩⟩⟩
  ·have:=hl2 (by omega)
   refine⟨by omega,by omega,by omega,by omega,by omega,by omega,by omega,by omega,by omega,⟨by omega,by omega,hlen2 (by omega),by omega,hgood (by omega)⟩,by omega⟩
  ·have:=hl3 (by omega)
   refine⟨by omega,by omega,by omega,by omega,by omega,by omega,by omega,by omega,by omega,⟨by omega,by omega,hlen2 (by omega),by omega,hgood (by omega)⟩,by omega⟩
 ·rw[show i.toNat=c.length from by omega,List.drop_length] at hi
  simp only[pickGo,Option.map_some,List.append_nil] at hi
  exact⟨by simp[pickL,hi],by simp[pickOk,hi]⟩
def M3:List SCtr:=r109::M2
theorem hM3:∀c∈M3,Holds Try.prog c:=by
 simp only[M3,List.forall_mem_cons]
 exact⟨h109,hM2⟩
def r55:SCtr:=⟨50,Prob×List Int,.cons codP (.one (codR (.i .i64))),fun a=>a.2.length≤9223372036854775807,fun a=> .si .i64 (feasE a.1 a.2)⟩
theorem h55:Holds Try.prog r55:=by
 refine con (L:=M3) r55 F55 (fun p=>fun _=> .look) (OwnOK.none _) hM3 (by kernel_rfl) (by kernel_rfl) (fun _=>rfl) ?_
 rintro⟨p,c⟩ (hc:c.length≤9223372036854775807)
 refine vcOf (let z0:=decide (checkE p≠(0:Int));let z1:=SV.si .i64 (feasE p c);let z2:=!fitsB p (pickL p c);True∧(z0=true→(SV.si .i64 (checkE p)).same z1)∧(z0=false→(c.length≤9223372036854775807∧p.offers.length≤1000)∧((!pickOk p c)=true→(SV.il .i64 4).same z1)∧((!pickOk p c)=false→(p.classes.length≤8∧(pickL p c).length≤1000∧∀(x:Off),x∈pickL p c→(0:Int)≤x.bidder∧x.bidder<(↑p.classes.length:Int)∧x.want.ok=true)∧(z2=true→(SV.il .i64 14).same z1)∧(z2=false→(SV.il .i64 0).same z1)))) (by kernel_rfl) ?_
 simp only[vcs]
 refine⟨fun h=>by simp[feasE,h],fun h=>?_⟩
 have hz:checkE p=0:=Classical.not_not.1 h
 obtain⟨hf,ho⟩:=check_zero hz
 obtain⟨f1,f2,f3,f4,f5⟩:=frame_zero hf
 refine⟨⟨hc,by omega⟩,fun h1=>by simp[feasE,hz,h1],fun h1=>⟨⟨f3,?_,?_⟩,fun h2=>by simp[feasE,hz,h1,h2],fun h2=>by simp[feasE,hz,h1,h2]⟩⟩
 ·unfold pickOk at h1
  obtain⟨r,hr⟩:=Option.isSome_iff_exists.1 h1
  have:=pick_len (by omega) hr
  simp only[pickL,hr,Option.getD_some]
  rcases this with h3|rfl
  ·omega
  ·simp
 ·unfold pickOk at h1
  obtain⟨r,hr⟩:=Option.isSome_iff_exists.1 h1
  simp only[pickL,hr,Option.getD_some]
  intro x hx
  have hs:=simple_zero (offer_zero (ho x (pick_mem (by omega) hr x hx))).1
  exact⟨hs.1,hs.2.1,hs.2.2.2.2⟩
def sumV:List Off→Int
 |[]=>0
 |x::l=>x.value+sumV l
def valueS (p:Prob) (c:List Int):Int:=if checkE p=0 then sumV (pickL p c) else 0
theorem sumV_append:∀{l m:List Off},sumV (l++m)=sumV l+sumV m
 |[],m=>by simp[sumV]
 |x::l,m=>by simp only[List.cons_append,sumV,@sumV_append l m];omega
theorem sumV_take {l:List Off} {i:Int} (h0:0≤i) (h:i<l.length):sumV (l.take (i+1).toNat)=sumV (l.take i.toNat)+(nthD l i.toNat SId.off.dflt).value:=by
 rw[take_nth (d:=SId.off.dflt) h0 h,sumV_append]
 simp[sumV]
def r58:SCtr:=⟨18,Prob×List Int,.cons codP (.one (codR (.i .i64))),fun a=>a.2.length≤9223372036854775807,fun a=> .si .i64 (valueS a.1 a.2)⟩
def Λ58 (a:Prob×List Int):Nat→LoopAnn
 |6=> .inv Int (fun i=>⟨[(5,.row .off (pickL a.1 a.2)),(7,.si .i64 (sumV ((pickL a.1 a.2).take i.toNat))),(8,.si .i64 i)],[.cells a.1.ss 27 20 false]⟩) (fun s=>iS s 8)
  (fun i=>0≤i∧i≤(pickL a.1 a.2).length) (fun i=>((pickL a.1 a.2).length - i).toNat) fun _ _=> .look
 |_=> .look
theorem picks_ok {p:Prob} {c:List Int} (h:checkE p=0):(pickL p c).length≤160∧∀x∈pickL p c,x∈p.offers:=by
 have hg:=good_of h
 unfold pickL
 cases hr:pickGo p.offers (-1) c with
 |none=>simp
 |some r=>
  refine⟨?_,fun x hx=>pick_mem (by omega) hr x hx⟩
  have h1:=pick_len (by omega) hr
  have h2:=hg.2.1
  simp only[Option.getD_some]
  rcases h1 with h1|rfl
  ·omega
  ·simp
theorem sum_val_bd {p:Prob} (hg:Good p):∀{l:List Off},(∀x∈l,x∈p.offers)→0≤sumV l∧sumV l≤1000000*l.length
 |[],_=>by simp[sumV]
 |x::l,h=>by
  have h1:=hg.2.2.2.2 x (h x (by simp))
  have h2:=@sum_val_bd p hg l fun y hy=>h y (by simp[hy])
  simp only[sumV,List.length_cons]
  omega
theorem h58:Holds Try.prog r58:=by
 refine con (L:=M3) r58 F58 Λ58 (OwnOK.none _) hM3 (by kernel_rfl) (by kernel_rfl) (fun _=>rfl) ?_
 rintro⟨p,c⟩ (hc:c.length≤9223372036854775807)
 refine vcOf (let z0:=decide (checkE p≠(0:Int));let z1:=SV.il .i64 0;let z2:=SV.si .i64 (valueS p c);let z3:=SV.row SId.off (pickL p c);let z4:=SObj.cells (Prob.ss p) 27 20 false;let z5:=(↑(pickL p c).length:Int);let z6:=(↑(pickL p c).length:Int);True∧(z0=true→z1.same z2)∧(z0=false→(c.length≤9223372036854775807∧p.offers.length≤1000)∧(((z3.same z3∧z1.same (SV.si .i64 (sumV []))∧z1.same (SV.si .i64 0)∧True)∧z4.same z4∧True)∧(0:Int)≤(0:Int)∧(0:Int)≤z5)∧∀(x:Int),let z7:=sumV (List.take x.toNat (pickL p c));let z8:=z7+(nthD (pickL p c) x.toNat SId.off.dflt).value;let z9:=x+(1:Int);let z10:=SV.si .i64 z9;(0:Int)≤x∧x≤z5→(decide (x<z6)=true→(0:Int)≤x∧x<z6∧x.toNat<(pickL p c).length∧inR .i64 z8∧inR .i64 z9∧((z3.same z3∧(SV.si .i64 z8).same (SV.si .i64 (sumV (List.take z9.toNat (pickL p c))))∧z10.same z10∧True)∧z4.same z4∧True)∧((0:Int)≤z9∧z9≤z5)∧(z5 - z9).toNat<(z5 - x).toNat)∧(decide (x<z6)=false→(SV.si .i64 z7).same z2))) (by kernel_rfl) ?_
 simp only[vcs]
 refine⟨fun h=>by simp[valueS,h],fun h=>⟨⟨hc,by have:=(good_of (Classical.not_not.1 h)).2.1;omega⟩,⟨by simp[sumV],by omega⟩,?_⟩⟩
 have hz:checkE p=0:=Classical.not_not.1 h
 have hg:=good_of hz
 obtain⟨q1,q2⟩:=picks_ok (c:=c) hz
 rintro i ⟨hi0,hi1⟩
 refine⟨fun hlt=>?_,fun hge=>?_⟩
 ·have hs:=sumV_take hi0 hlt
  have hb:=sum_val_bd hg (l:=(pickL p c).take i.toNat) fun x hx=>q2 x (List.mem_of_mem_take hx)
  have hb2:=sum_val_bd hg (l:=(pickL p c).take (i+1).toNat) fun x hx=>q2 x (List.mem_of_mem_take hx)
  simp only[List.length_take] at hb hb2
  refine⟨by omega,by omega,by omega,by omega,by omega,hs.symm,by omega,by omega⟩
 ·rw[show i.toNat=(pickL p c).length from by omega,List.take_length]
  simp[valueS,hz]
def cmpL:List Int→List Int→Int
 |[],[]=>0
 |[],_::_=> -1
 |_::_,[]=>1
 |a::l,b::m=>if a<b then -1 else if b<a then 1 else cmpL l m
def r32:SCtr:=⟨11,List Int×List Int,.cons (codR (.i .i64)) (.one (codR (.i .i64))),fun a=>a.1.length≤1000000000000∧a.2.length≤1000000000000,fun a=> .si .i64 (cmpL a.1 a.2)⟩
def Λ32 (a:List Int×List Int):Nat→LoopAnn
 |2=> .inv Int (fun i=>⟨[(0,.row (.i .i64) a.1),(1,.row (.i .i64) a.2),(5,.si .i64 i)],[]⟩) (fun s=>iS s 5)
  (fun i=>0≤i∧i≤a.1.length∧i≤a.2.length∧cmpL a.1 a.2=cmpL (a.1.drop i.toNat) (a.2.drop i.toNat)) (fun i=>(a.1.length - i).toNat) fun _ _=> .look
 |_=> .look
theorem h32:Holds Try.prog r32:=by
 refine con (L:=[]) r32 F32 Λ32 (OwnOK.none _) (by simp) (by kernel_rfl) (by kernel_rfl) (fun _=>rfl) ?_
 rintro⟨a,b⟩ ⟨ha,hb⟩
 refine vcOf (let z0:=SV.row (SId.i .i64) a;let z1:=SV.row (SId.i .i64) b;let z2:=SV.il .i64 0;let z3:=(↑a.length:Int);let z4:=(↑b.length:Int);let z5:=(↑a.length:Int);let z6:=(↑b.length:Int);let z7:=SV.si .i64 (cmpL a b);(((z0.same z0∧z1.same z1∧z2.same (SV.si .i64 0)∧True)∧True)∧(0:Int)≤(0:Int)∧(0:Int)≤z3∧(0:Int)≤z4∧cmpL a b=cmpL a b)∧∀(x:Int),let z8:=nthD a x.toNat (0:Int);let z9:=nthD b x.toNat (0:Int);let z10:=x+(1:Int);let z11:=SV.si .i64 z10;(0:Int)≤x∧x≤z3∧x≤z4∧cmpL a b=cmpL (List.drop x.toNat a) (List.drop x.toNat b)→(decide (x<z5)=true→(decide (x<z6)=true→(0:Int)≤x∧x<z5∧x.toNat<a.length∧(0:Int)≤x∧x<z6∧x.toNat<b.length∧(decide (z8<z9)=true→(SV.il .i64 (-1:Int)).same z7)∧(decide (z8<z9)=false→(0:Int)≤x∧x<z5∧x.toNat<a.length∧(0:Int)≤x∧x<z6∧x.toNat<b.length∧(decide (z9<z8)=true→(SV.il .i64 1).same z7)∧(decide (z9<z8)=false→inR .i64 z10∧((z0.same z0∧z1.same z1∧z11.same z11∧True)∧True)∧((0:Int)≤z10∧z10≤z3∧z10≤z4∧cmpL a b=cmpL (List.drop z10.toNat a) (List.drop z10.toNat b))∧(z3 - z10).toNat<(z3 - x).toNat)))∧(decide (x<z6)=false→(decide (z5<z6)=true→(SV.il .i64 (-1:Int)).same z7)∧(decide (z5<z6)=false→(decide (z6<z5)=true→(SV.il .i64 1).same z7)∧(decide (z6<z5)=false→z2.same z7))))∧(decide (x<z5)=false→(decide (z5<z6)=true→(SV.il .i64 (-1:Int)).same z7)∧(decide (z5<z6)=false→(decide (z6<z5)=true→(SV.il .i64 1).same z7)∧(decide (z6<z5)=false→z2.same z7)))) (by kernel_rfl) ?_
 conv=>zeta
 simp only at ha hb
 simp only[vcs]
 refine⟨⟨by omega,by omega,by omega⟩,?_⟩
 rintro i ⟨hi0,hia,hib,hi⟩
 refine⟨fun h1=>⟨fun h2=>?_,fun h2=>?_⟩,fun h1=>?_⟩
 ·rw[drop_nth (d:=0) hi0 h1,drop_nth (d:=0) hi0 h2] at hi
  simp only[cmpL] at hi
  refine⟨by omega,by omega,by omega,by omega,by omega,by omega,fun h3=>?_,fun h3=>⟨by omega,by omega,by omega,by omega,by omega,by omega,fun h4=>?_,fun h4=>⟨by omega,⟨by omega,by omega,by omega,?_⟩,by omega⟩⟩⟩
  ·rw[if_pos h3] at hi
   exact hi.symm
  ·rw[if_neg h3,if_pos h4] at hi
   exact hi.symm
  ·rw[if_neg h3,if_neg h4] at hi
   exact hi
 ·rw[drop_nth (d:=0) hi0 h1,show i.toNat=b.length from by omega,List.drop_length] at hi
  simp only[cmpL] at hi
  refine⟨by omega,fun h3=>⟨by omega,by omega⟩⟩
 ·rw[show i.toNat=a.length from by omega,List.drop_length] at hi
  refine⟨fun h2=>?_,fun h2=>⟨fun h3=>by omega,fun h3=>?_⟩⟩
  ·rw[←Int.toNat_natCast a.length,drop_nth (d:=0) (by omega) h2] at hi
   exact hi.symm
  ·rw[show a.length=b.length from by omega,List.drop_length] at hi
   exact hi.symm
def sumB (l:List Bun):Bun:=⟨(l.map Bun.a0).sum,(l.map Bun.a1).sum,(l.map Bun.a2).sum,(l.map Bun.a3).sum,(l.map Bun.a4).sum,(l.map Bun.a5).sum⟩
def offsI (p:Prob) (l:List Int):List Off:=l.map fun i=>nthD p.offers i.toNat SId.off.dflt
def FeasL (p:Prob) (L:List Off):Prop:=(L.map Off.bidder).Nodup∧(sumB (L.map Off.want)).le p.supply=true∧(sumB (L.map (outS p))).le p.opn=true
instance (p:Prob) (L:List Off):Decidable (FeasL p L):=by unfold FeasL;infer_instance
def ref23 (p:Prob) (l:List Int):Bool:=decide (FeasL p (offsI p l))
def Bun.add (a b:Bun):Bun:=⟨a.a0+b.a0,a.a1+b.a1,a.a2+b.a2,a.a3+b.a3,a.a4+b.a4,a.a5+b.a5⟩
theorem sumB_append {l m:List Bun}:sumB (l++m)=(sumB l).add (sumB m):=by simp[sumB,Bun.add]
theorem sumB_cons {b:Bun} {l:List Bun}:sumB (b::l)=b.add (sumB l):=by simp[sumB,Bun.add]
def Bun.bd (b:Bun) (n:Int):Prop:=(0≤b.a0∧b.a0≤n)∧(0≤b.a1∧b.a1≤n)∧(0≤b.a2∧b.a2≤n)∧(0≤b.a3∧b.a3≤n)∧(0≤b.a4∧b.a4≤n)∧(0≤b.a5∧b.a5≤n)
theorem sumB_bd:∀{l:List Bun},(∀b∈l,b.ok=true)→(sumB l).bd (4*l.length)
 |[],_=>by simp[sumB,Bun.bd]
 |b::l,h=>by
  have h1:=Bun.ok_iff.1 (h b (by simp))
  have h2:=@sumB_bd l fun c hc=>h c (by simp[hc])
  rw[sumB_cons]
  simp only[Bun.bd,Bun.add,List.length_cons] at h2 ⊢
  omega
theorem outS_ok {p:Prob} {x:Off} (h:x.want.ok=true):(outS p x).ok=true:=by
 have h1:=Bun.ok_iff.1 h
 rw[Bun.ok_iff]
 simp only[outS,outK,oc]
 refine⟨?_,?_,?_,?_,?_,?_⟩<;>split<;>omega
theorem offs_ok {p:Prob} (hg:Good p) {l:List Int} (h:∀i∈l,0≤i∧i<p.offers.length):∀x∈offsI p l,x∈p.offers:=by
 intro x hx
 obtain⟨i,hi,rfl⟩:=List.mem_map.1 hx
 have:=h i hi
 exact nthD_mem (by omega)
theorem feas_ok {p:Prob} {c:List Int} (hz:feasE p c=0):checkE p=0∧pickOk p c=true∧Good p∧c.length≤160∧∀i∈c,0≤i∧i<p.offers.length:=by
 have hck:checkE p=0:=by
  unfold feasE at hz
  split at hz
  ·rename_i h1;exact absurd hz h1
  ·rename_i h1;exact Classical.not_not.1 h1
 have hpk:pickOk p c=true:=by
  unfold feasE at hz
  rw[if_neg (by simp[hck])] at hz
  split at hz
  ·cases hz
  ·rename_i h1;simpa using h1
 have hg:=good_of hck
 obtain⟨r,hr⟩:=Option.isSome_iff_exists.1 hpk
 obtain⟨hr1,hidx⟩:=pick_idx (by omega) hr
 refine⟨hck,hpk,hg,?_,hidx⟩
 have h1:=pick_len (by omega) hr
 have h2:=hg.2.1
 rcases h1 with h1|rfl
 ·omega
 ·simp at hr1;omega
structure FitL (p:Prob) (fs:List Int) (l o:Bun) (L:List Off):Prop where
 nd:(L.map Off.bidder).Nodup
 mem:∀x∈L,x∈p.offers∧x.bidder∈fs
 w:(sumB (L.map Off.want)).le l=true
 o:(sumB (L.map (outS p))).le o=true
theorem fold_ge {p:Prob} {fs:List Int} {l o:Bun}:∀{xs:List Off} {v:Int},v≤xs.foldl (stepV p fs l o) v∧∀x∈xs,x.want.le l=true→(outS p x).le o=true→x.value+valL p fs (l.sub x.want) (o.sub (outS p x))≤xs.foldl (stepV p fs l o) v
 |[],v=>by simp
 |y::xs,v=>by
  obtain⟨h1,h2⟩:=@fold_ge p fs l o xs (stepV p fs l o v y)
  have hv:v≤stepV p fs l o v y:=by
   unfold stepV
   split<;>omega
  refine⟨by simp only[List.foldl_cons];omega,fun x hx hw ho=>?_⟩
  simp only[List.foldl_cons]
  rcases List.mem_cons.1 hx with rfl|hx
  ·have:x.value+valL p fs (l.sub x.want) (o.sub (outS p x))≤stepV p fs l o v x:=by
    unfold stepV
    rw[if_pos (by simp[hw,ho])]
    omega
   omega
  ·exact h2 x hx hw ho
theorem fold_at {p:Prob} {fs:List Int} {l o:Bun}:∀{xs:List Off} {v:Int},xs.foldl (stepV p fs l o) v=v∨∃x∈xs,x.want.le l=true∧(outS p x).le o=true∧xs.foldl (stepV p fs l o) v=x.value+valL p fs (l.sub x.want) (o.sub (outS p x))
 |[],v=>by simp
 |y::xs,v=>by
  simp only[List.foldl_cons]
  rcases @fold_at p fs l o xs (stepV p fs l o v y) with h|⟨x,hx,h1,h2,h3⟩
  ·rw[h]
   unfold stepV
   split
   ·rename_i hc
    simp only[Bool.and_eq_true] at hc
    by_cases hm:v≤y.value+valL p fs (l.sub y.want) (o.sub (outS p y))
    ·exact .inr ⟨y,by simp,hc.1,hc.2,by omega⟩
    ·left;omega
   ·exact .inl rfl
  ·exact .inr ⟨x,by simp[hx],h1,h2,h3⟩
theorem sumB_mid {x:Bun} {s t:List Bun}:sumB (s++x::t)=x.add (sumB (s++t)):=by
 rw[sumB_append,sumB_append,sumB_cons]
 simp only[Bun.add,Bun.mk.injEq]
 omega
theorem sumV_mid {x:Off} {s t:List Off}:sumV (s++x::t)=x.value+sumV (s++t):=by
 rw[sumV_append,sumV_append]
 simp only[sumV]
 omega
theorem fit_bd {p:Prob} (hg:Good p) {L:List Off} (h:∀x∈L,x∈p.offers):(sumB (L.map Off.want)).bd (4*L.length)∧(sumB (L.map (outS p))).bd (4*L.length):=by
 have h1:∀x∈L,x.want.ok=true:=fun x hx=>(hg.2.2.2.2 x (h x hx)).2.2.1
 have a:=@sumB_bd (L.map Off.want) (fun b hb=>by obtain⟨x,hx,rfl⟩:=List.mem_map.1 hb;exact h1 x hx)
 have b:=@sumB_bd (L.map (outS p)) (fun b hb=>by obtain⟨x,hx,rfl⟩:=List.mem_map.1 hb;exact outS_ok (h1 x hx))
 rw[List.length_map] at a b
 exact⟨a,b⟩
theorem fit_le {p:Prob} (hg:Good p):∀{fs:List Int} {l o:Bun} {L:List Off},FitL p fs l o L→sumV L≤valL p fs l o
 |[],l,o,L,h=>by
  have:L=[]:=by
   cases L with
   |nil=>rfl
   |cons x L=>exact absurd (h.mem x (by simp)).2 (by simp)
  subst this
  simp[sumV,valL]
 |f::fs,l,o,L,h=>by
  obtain⟨g1,g2⟩:=@fold_ge p fs l o (byB p f) (valL p fs l o)
  have hval:valL p (f::fs) l o=(byB p f).foldl (stepV p fs l o) (valL p fs l o):=rfl
  rw[hval]
  by_cases hx:∃x∈L,x.bidder=f
  ·obtain⟨x,hx,hf⟩:=hx
   obtain⟨s,t,rfl⟩:=List.append_of_mem hx
   obtain⟨nd,mem,w,o'⟩:=h
   have hmx:=mem x hx
   have hst:∀y∈s++t,y∈p.offers:=fun y hy=>(mem y (by simp only[List.mem_append,List.mem_cons] at hy ⊢;rcases hy with h|h<;>simp[h])).1
   obtain⟨b1,b2⟩:=fit_bd hg hst
   rw[List.map_append,List.map_cons,sumB_mid,Bun.le_iff,←List.map_append] at w o'
   simp only[Bun.add,Bun.bd] at w o' b1 b2
   have hw:x.want.le l=true:=by rw[Bun.le_iff];omega
   have ho:(outS p x).le o=true:=by rw[Bun.le_iff];omega
   have hg2:=g2 x (List.mem_filter.2 ⟨hmx.1,by simp[hf]⟩) hw ho
   rw[List.map_append,List.map_cons,List.nodup_append] at nd
   have hne:∀y∈s++t,y.bidder≠f:=fun y hy=>by
    rw[←hf]
    rcases List.mem_append.1 hy with hy|hy
    ·exact nd.2.2 _ (List.mem_map_of_mem hy) _ (by simp)
    ·intro e
     have:=(List.nodup_cons.1 nd.2.1).1
     exact this (e▸List.mem_map_of_mem hy)
   have hrec:sumV (s++t)≤valL p fs (l.sub x.want) (o.sub (outS p x)):=fit_le hg
    {nd:=by
      rw[List.map_append,List.nodup_append]
      exact⟨nd.1,(List.nodup_cons.1 nd.2.1).2,fun a ha b hb=>nd.2.2 a ha b (by simp[hb])⟩
     mem:=fun y hy=>by
      have h1:=mem y (by simp only[List.mem_append,List.mem_cons] at hy ⊢;rcases hy with h|h<;>simp[h])
      refine⟨h1.1,?_⟩
      rcases List.mem_cons.1 h1.2 with h2|h2
      ·exact absurd h2 (hne y hy)
      ·exact h2
     w:=by rw[Bun.le_iff];simp only[Bun.sub];omega
     o:=by rw[Bun.le_iff];simp only[Bun.sub];omega}
   rw[sumV_mid]
   omega
  ·have:=fit_le hg (fs:=fs) (l:=l) (o:=o) (L:=L) ⟨h.nd,fun y hy=>by
    have h1:=h.mem y hy
    refine⟨h1.1,?_⟩
    rcases List.mem_cons.1 h1.2 with h2|h2
    ·exact absurd ⟨y,hy,h2⟩ hx
    ·exact h2,h.w,h.o⟩
   omega
theorem fit_at {p:Prob} (hg:Good p):∀{fs:List Int} {l o:Bun},fs.Nodup→Bun.zero.le l=true→Bun.zero.le o=true→∃L,FitL p fs l o L∧sumV L=valL p fs l o
 |[],l,o,_,hl,ho=>⟨[],⟨by simp,by simp,hl,ho⟩,rfl⟩
 |f::fs,l,o,hn,hl,ho=>by
  have hn2:=List.nodup_cons.1 hn
  have hval:valL p (f::fs) l o=(byB p f).foldl (stepV p fs l o) (valL p fs l o):=rfl
  rw[hval]
  rcases @fold_at p fs l o (byB p f) (valL p fs l o) with h|⟨x,hx,h1,h2,h3⟩
  ·rw[h]
   obtain⟨L,hL,hv⟩:=fit_at hg (l:=l) (o:=o) hn2.2 hl ho
   exact⟨L,⟨hL.nd,fun y hy=>⟨(hL.mem y hy).1,by simp[(hL.mem y hy).2]⟩,hL.w,hL.o⟩,hv⟩
  ·rw[h3]
   have w1:=Bun.le_iff.1 h1
   have w2:=Bun.le_iff.1 h2
   obtain⟨L,hL,hv⟩:=fit_at hg (l:=l.sub x.want) (o:=o.sub (outS p x)) hn2.2 (by rw[Bun.le_iff];simp only[Bun.zero,Bun.sub];omega) (by rw[Bun.le_iff];simp only[Bun.zero,Bun.sub];omega)
   have hx2:=List.mem_filter.1 hx
   have hxf:x.bidder=f:=by simpa using hx2.2
   refine⟨x::L,⟨?_,?_,?_,?_⟩,by simp only[sumV,hv]⟩
   ·rw[List.map_cons,List.nodup_cons]
    refine⟨fun hm=>?_,hL.nd⟩
    obtain⟨y,hy,he⟩:=List.mem_map.1 hm
    exact hn2.1 (by rw[←hxf,←he];exact(hL.mem y hy).2)
   ·intro y hy
    rcases List.mem_cons.1 hy with rfl|hy
    ·exact⟨hx2.1,by simp[hxf]⟩
    ·exact⟨(hL.mem y hy).1,by simp[(hL.mem y hy).2]⟩
   ·have:=Bun.le_iff.1 hL.w
    rw[List.map_cons,sumB_cons,Bun.le_iff]
    simp only[Bun.add,Bun.sub] at this ⊢
    omega
   ·have:=Bun.le_iff.1 hL.o
    rw[List.map_cons,sumB_cons,Bun.le_iff]
    simp only[Bun.add,Bun.sub] at this ⊢
    omega
theorem offsI_append {p:Prob} {l m:List Int}:offsI p (l++m)=offsI p l++offsI p m:=by simp[offsI]
theorem offsI_cons {p:Prob} {i:Int} {l:List Int}:offsI p (i::l)=nthD p.offers i.toNat SId.off.dflt::offsI p l:=rfl
theorem feas_pre {p:Prob} (hg:Good p) {L M:List Off} (hM:∀x∈M,x∈p.offers) (h:FeasL p (L++M)):FeasL p L:=by
 obtain⟨b1,b2⟩:=fit_bd hg hM
 obtain⟨h1,h2,h3⟩:=h
 rw[List.map_append,sumB_append,Bun.le_iff] at h2 h3
 simp only[Bun.add,Bun.bd] at h2 h3 b1 b2
 refine⟨?_,?_,?_⟩
 ·rw[List.map_append,List.nodup_append] at h1
  exact h1.1
 ·rw[Bun.le_iff];omega
 ·rw[Bun.le_iff];omega
def IncR (i:Int) (k:Nat) (t:List Int):Prop:=t.Pairwise (·<·)∧∀j∈t,i≤j∧j<i+k
theorem ref_nil {p:Prob} (hg:Good p):ref23 p []=true:=by
 have h1:=Bun.ok_iff.1 hg.2.2.1
 have h2:=Bun.ok_iff.1 hg.2.2.2.1
 unfold ref23
 refine decide_eq_true ⟨by simp[offsI],?_,?_⟩
 ·rw[Bun.le_iff];simp[offsI,sumB];omega
 ·rw[Bun.le_iff];simp[offsI,sumB];omega
theorem keys_nodup {p:Prob}:∀{l:List Off} {seen:List BKey},checkL p seen l=0→(l.map Off.key).Nodup∧∀x∈l,x.key∉seen
 |[],_,_=>by simp
 |o::r,seen,h=>by
  simp only[checkL] at h
  split at h
  ·rename_i h1;exact absurd h h1
  ·split at h
   ·cases h
   ·rename_i h1 h2
    obtain⟨k1,k2⟩:=keys_nodup h
    refine⟨?_,fun x hx=>?_⟩
    ·rw[List.map_cons,List.nodup_cons]
     refine⟨fun hm=>?_,k1⟩
     obtain⟨y,hy,he⟩:=List.mem_map.1 hm
     exact k2 y hy (by simp[he])
    ·rcases List.mem_cons.1 hx with rfl|hx
     ·exact h2
     ·exact fun hm=>k2 x hx (by simp[hm])
theorem nodup_of_map {α β:Type} (f:α→β):∀{l:List α},(l.map f).Nodup→l.Nodup
 |[],_=>by simp
 |x::l,h=>by
  rw[List.map_cons,List.nodup_cons] at h
  exact List.nodup_cons.2 ⟨fun hm=>h.1 (List.mem_map_of_mem hm),nodup_of_map f h.2⟩
theorem offers_nodup {p:Prob} (h:checkE p=0):p.offers.Nodup:=by
 unfold checkE at h
 split at h
 ·rename_i h1;exact absurd h h1
 ·exact nodup_of_map _ (keys_nodup h).1
theorem mem_nodup (m:Int):(memL m).Nodup:=by
 unfold memL
 exact List.Nodup.sublist List.filter_sublist (by decide)
theorem pick_offs {p:Prob}:∀{c:List Int} {last:Int} {r:List Off},pickGo p.offers last c=some r→r=offsI p c
 |[],last,r,h=>by simp[pickGo] at h;subst h;rfl
 |i::c,last,r,h=>by
  simp only[pickGo] at h
  split at h
  ·cases h
  ·obtain⟨r',h2,rfl⟩:=Option.map_eq_some_iff.1 h
   rw[pick_offs h2,offsI_cons]
theorem own_row {p:Prob} {x:Off} (h0:0≤x.bidder) (h1:x.bidder<p.classes.length):coefS p x.bidder x=1:=by
 unfold coefS
 rw[if_pos (by omega),if_pos rfl]
theorem sum_cons {p:Prob} {x:Off} {L:List Off} {r:Int}:sumS p (x::L) r=coefS p r x+sumS p L r:=by simp[sumS]
theorem sum_own {p:Prob} {r:Int}:∀{L:List Off},(∀x∈L,x.want.ok=true)→(∃x∈L,x.bidder=r∧0≤r∧r<p.classes.length)→1≤sumS p L r
 |[],_,h=>by obtain⟨x,hx,_⟩:=h;cases hx
 |y::L,hw,⟨x,hx,hb,h0,h1⟩=>by
  have hy:=@coef_bd p r y (hw y (by simp))
  have hs:=@sum_bd p r L fun z hz=>hw z (by simp[hz])
  rw[sum_cons]
  rcases List.mem_cons.1 hx with rfl|hx
  ·have:coefS p r x=1:=by rw[←hb];exact own_row (by omega) (by omega)
   omega
  ·have:=@sum_own p r L (fun z hz=>hw z (by simp[hz])) ⟨x,hx,hb,h0,h1⟩
   omega
theorem nd_of {p:Prob}:∀{L:List Off},(∀x∈L,x.want.ok=true∧0≤x.bidder∧x.bidder<p.classes.length)→(∀r:Int,0≤r→r<p.classes.length→sumS p L r≤1)→(L.map Off.bidder).Nodup
 |[],_,_=>by simp
 |x::L,hw,hs=>by
  have hx:=hw x (by simp)
  rw[List.map_cons,List.nodup_cons]
  have hs2:∀r:Int,0≤r→r<p.classes.length→sumS p L r≤1:=fun r h0 h1=>by
   have:=hs r h0 h1
   have:=@coef_bd p r x hx.1
   rw[sum_cons] at*
   omega
  refine⟨fun hm=>?_,nd_of (fun y hy=>hw y (by simp[hy])) hs2⟩
  obtain⟨y,hy,he⟩:=List.mem_map.1 hm
  have h1:=hs x.bidder hx.2.1 hx.2.2
  have h2:=@sum_own p x.bidder L (fun z hz=>(hw z (by simp[hz])).1) ⟨y,hy,he,hx.2.1,hx.2.2⟩
  rw[sum_cons,own_row hx.2.1 hx.2.2] at h1
  omega
theorem feas_nd {p:Prob} {c:List Int} (hz:feasE p c=0):((offsI p c).map Off.bidder).Nodup:=by
 obtain⟨q1,q2,hg,q4,q5⟩:=feas_ok hz
 obtain⟨r,hr⟩:=Option.isSome_iff_exists.1 q2
 have hp:pickL p c=offsI p c:=by simp only[pickL,hr,Option.getD_some,pick_offs hr]
 have hf:fitsB p (offsI p c)=true:=by
  unfold feasE at hz
  rw[if_neg (by simp[q1]),if_neg (by simp[q2]),hp] at hz
  split at hz
  ·cases hz
  ·rename_i h1;simpa using h1
 refine nd_of (p:=p) (fun x hx=>?_) fun r h0 h1=>?_
 ·have:=hg.2.2.2.2 x (offs_ok hg q5 x hx)
  exact⟨this.2.2.1,this.1,this.2.1⟩
 ·have h2:=fits_iff.1 hf r.toNat (by unfold nrows;omega)
  rw[show((r.toNat:Nat):Int)=r by omega] at h2
  have h3:boundS p r=1:=by unfold boundS;rw[if_pos (by omega)]
  omega
def Bun.at (b:Bun) (k:Nat):Int:=nthD [b.a0,b.a1,b.a2,b.a3,b.a4,b.a5] k 0
theorem at_le {a b:Bun} (h:a.le b=true) (k:Nat):a.at k≤b.at k:=by
 have:=Bun.le_iff.1 h
 unfold Bun.at
 match k with
 |0|1|2|3|4|5=>simp[nthD];omega
 |k+6=>simp[nthD]
theorem at_sum (k:Nat):∀(l:List Bun),(sumB l).at k=(l.map fun b=>b.at k).sum:=by
 intro l
 unfold Bun.at sumB
 match k with
 |0|1|2|3|4|5=>simp only[nthD,List.getElem?_cons_zero,List.getElem?_cons_succ,Option.getD_some]
 |k+6=>
  simp only[nthD,List.getElem?_cons_succ,List.getElem?_nil,Option.getD_none]
  induction l with
  |nil=>rfl
  |cons b l ih=>simp only[List.map_cons,List.sum_cons];omega
theorem coef_w {p:Prob} {x:Off} {k:Nat} (hk:k<6):coefS p (p.classes.length+k) x=x.want.at k:=by
 unfold coefS
 rw[if_neg (by omega),if_pos (by omega),show((p.classes.length:Int)+k - p.classes.length).toNat=k by omega]
 rfl
theorem coef_o {p:Prob} {x:Off} {k:Nat} (hk:k<6):coefS p (p.classes.length+6+k) x=(outS p x).at k:=by
 unfold coefS
 rw[if_neg (by omega),if_neg (by omega),show((p.classes.length:Int)+6+k - p.classes.length - 6).toNat=k by omega]
 have:k=0∨k=1∨k=2∨k=3∨k=4∨k=5:=by omega
 rcases this with rfl|rfl|rfl|rfl|rfl|rfl<;>simp[outS,outK,oc,clOf,Bun.at,nthD]
theorem bound_w {p:Prob} {k:Nat} (hk:k<6):boundS p (p.classes.length+k)=p.supply.at k:=by
 unfold boundS
 rw[if_neg (by omega),if_pos (by omega),show((p.classes.length:Int)+k - p.classes.length).toNat=k by omega]
 rfl
theorem bound_o {p:Prob} {k:Nat} (hk:k<6):boundS p (p.classes.length+6+k)=p.opn.at k:=by
 unfold boundS
 rw[if_neg (by omega),if_neg (by omega),show((p.classes.length:Int)+6+k - p.classes.length - 6).toNat=k by omega]
 rfl
theorem sum_bid {p:Prob} {r:Int} (h0:0≤r) (h1:r<p.classes.length):∀{L:List Off},(L.map Off.bidder).Nodup→sumS p L r≤1∧(r∉L.map Off.bidder→sumS p L r=0)
 |[],_=>by simp[sumS]
 |x::L,h=>by
  rw[List.map_cons,List.nodup_cons] at h
  obtain⟨k1,k2⟩:=sum_bid h0 h1 h.2
  have hc:coefS p r x=if x.bidder=r then 1 else 0:=by unfold coefS;rw[if_pos (by omega)]
  rw[sum_cons,hc]
  by_cases hb:x.bidder=r
  ·rw[if_pos hb]
   have:=k2 (hb▸h.1)
   refine⟨by omega,fun hn=>absurd (by simp[hb]) hn⟩
  ·rw[if_neg hb]
   refine⟨by omega,fun hn=>?_⟩
   have:=k2 fun hm=>hn (by simp[hm])
   omega
theorem fits_of {p:Prob} {L:List Off} (h:FeasL p L):fitsB p L=true:=by
 obtain⟨h1,h2,h3⟩:=h
 refine fits_iff.2 fun r hr=>?_
 unfold nrows at hr
 by_cases ha:r<p.classes.length
 ·have:=(sum_bid (p:=p) (r:=r) (by omega) (by omega) h1).1
  have hb:boundS p r=1:=by unfold boundS;rw[if_pos (by omega)]
  omega
 by_cases hb:r<p.classes.length+6
 ·obtain⟨k,rfl⟩:∃k:Nat,r=p.classes.length+k:=⟨r - p.classes.length,by omega⟩
  have hk:k<6:=by omega
  have e:(((p.classes.length+k:Nat)):Int)=p.classes.length+k:=by omega
  rw[e,bound_w hk]
  have h4:=at_le h2 k
  rw[at_sum,List.map_map] at h4
  have:sumS p L (p.classes.length+k)=(L.map ((fun b=>Bun.at b k)∘Off.want)).sum:=by
   unfold sumS
   congr 1
   exact List.map_congr_left fun x _=>coef_w hk
  omega
 ·obtain⟨k,rfl⟩:∃k:Nat,r=p.classes.length+6+k:=⟨r - p.classes.length - 6,by omega⟩
  have hk:k<6:=by omega
  have e:(((p.classes.length+6+k:Nat)):Int)=p.classes.length+6+k:=by omega
  rw[e,bound_o hk]
  have h4:=at_le h3 k
  rw[at_sum,List.map_map] at h4
  have:sumS p L (p.classes.length+6+k)=(L.map ((fun b=>Bun.at b k)∘outS p)).sum:=by
   unfold sumS
   congr 1
   exact List.map_congr_left fun x _=>coef_o hk
  omega
theorem pick_inc {l:List Off}:∀{t:List Int} {last:Int},t.Pairwise (·<·)→(∀j∈t,last<j∧j<l.length)→pickGo l last t=some (t.map fun i=>nthD l i.toNat SId.off.dflt)
 |[],_,_,_=>rfl
 |i::t,last,h,hj=>by
  have h1:=hj i (by simp)
  have h2:=List.pairwise_cons.1 h
  unfold pickGo
  rw[if_neg (by omega),pick_inc h2.2 fun j hm=>⟨h2.1 j hm,(hj j (by simp[hm])).2⟩]
  rfl
theorem feas_of {p:Prob} (hc:checkE p=0) {t:List Int} (ht:IncR 0 p.offers.length t) (hF:FeasL p (offsI p t)):feasE p t=0:=by
 have hp:pickGo p.offers (-1) t=some (offsI p t):=pick_inc ht.1 fun j hj=>by have:=ht.2 j hj;omega
 unfold feasE
 rw[if_neg (by simp[hc]),if_neg (by simp[pickOk,hp]),if_neg (by simp[pickL,hp,fits_of hF])]
theorem le_of_at {a b:Bun} (h:∀k,k<6→a.at k≤b.at k):a.le b=true:=by
 have h0:=h 0 (by omega)
 have h1:=h 1 (by omega)
 have h2:=h 2 (by omega)
 have h3:=h 3 (by omega)
 have h4:=h 4 (by omega)
 have h5:=h 5 (by omega)
 simp[Bun.at,nthD] at h0 h1 h2 h3 h4 h5
 rw[Bun.le_iff]
 exact⟨h0,h1,h2,h3,h4,h5⟩
theorem feasL_of {p:Prob} {L:List Off} (hn:(L.map Off.bidder).Nodup) (hf:fitsB p L=true):FeasL p L:=by
 refine⟨hn,le_of_at fun k hk=>?_,le_of_at fun k hk=>?_⟩
 ·have h:=fits_iff.1 hf (p.classes.length+k) (by unfold nrows;omega)
  rw[show(((p.classes.length+k:Nat)):Int)=p.classes.length+k by omega,bound_w hk] at h
  rw[at_sum,List.map_map]
  have:sumS p L (p.classes.length+k)=(L.map ((fun b=>Bun.at b k)∘Off.want)).sum:=by
   unfold sumS
   congr 1
   exact List.map_congr_left fun x _=>coef_w hk
  omega
 ·have h:=fits_iff.1 hf (p.classes.length+6+k) (by unfold nrows;omega)
  rw[show(((p.classes.length+6+k:Nat)):Int)=p.classes.length+6+k by omega,bound_o hk] at h
  rw[at_sum,List.map_map]
  have:sumS p L (p.classes.length+6+k)=(L.map ((fun b=>Bun.at b k)∘outS p)).sum:=by
   unfold sumS
   congr 1
   exact List.map_congr_left fun x _=>coef_o hk
  omega
theorem pick_some_inc {l:List Off}:∀{t:List Int} {last:Int} {r:List Off}, -1≤last→pickGo l last t=some r→t.Pairwise (·<·)∧∀j∈t,last<j∧j<l.length
 |[],_,_,_,_=>by simp
 |i::t,last,r,hl,h=>by
  simp only[pickGo] at h
  split at h
  ·cases h
  ·rename_i h1
   obtain⟨r',h2,rfl⟩:=Option.map_eq_some_iff.1 h
   obtain⟨k1,k2⟩:=pick_some_inc (by omega) h2
   refine⟨List.pairwise_cons.2 ⟨fun j hj=>(k2 j hj).1,k1⟩,fun j hj=>?_⟩
   rcases List.mem_cons.1 hj with rfl|hj
   ·omega
   ·have:=k2 j hj;omega
def FeasI (p:Prob) (t:List Int):Prop:=IncR 0 p.offers.length t∧FeasL p (offsI p t)
theorem feas_iff {p:Prob} (hc:checkE p=0) {t:List Int}:feasE p t=0↔FeasI p t:=by
 refine⟨fun h=>?_,fun h=>feas_of hc h.1 h.2⟩
 have hn:=feas_nd h
 obtain⟨q1,q2,hg,q4,q5⟩:=feas_ok h
 obtain⟨r,hr⟩:=Option.isSome_iff_exists.1 q2
 obtain⟨k1,k2⟩:=pick_some_inc (by omega) hr
 have hp:pickL p t=offsI p t:=by simp only[pickL,hr,Option.getD_some,pick_offs hr]
 have hf:fitsB p (offsI p t)=true:=by
  unfold feasE at h
  rw[if_neg (by simp[q1]),if_neg (by simp[q2]),hp] at h
  split at h
  ·cases h
  ·rename_i h1;simpa using h1
 exact⟨⟨k1,fun j hj=>by have:=k2 j hj;omega⟩,feasL_of hn hf⟩
theorem feasI_nil {p:Prob} (hg:Good p):FeasI p []:=⟨⟨by simp,by simp⟩,of_decide_eq_true (ref_nil hg)⟩
theorem feasI_pre {p:Prob} (hg:Good p) {l m:List Int} (h:FeasI p (l++m)):FeasI p l:=by
 obtain⟨⟨h1,h2⟩,h3⟩:=h
 rw[offsI_append] at h3
 refine⟨⟨(List.pairwise_append.1 h1).1,fun j hj=>h2 j (by simp[hj])⟩,feas_pre hg (fun x hx=>?_) h3⟩
 exact offs_ok hg (l:=m) (fun j hj=>by have:=h2 j (by simp[hj]);omega) x hx
def lisL (p:Prob):Nat→Int→List Int→List (List Int)→List (List Int)
 |0,_,_,out=>out
 |k+1,i,c,out=>lisL p k (i+1) c (if feasE p (c++[i])=0 then lisL p k (i+1) (c++[i]) (out++[c++[i]]) else out)
def listsR (p:Prob):List (List Int):=lisL p p.offers.length 0 [] [[]]
theorem lis_len {p:Prob}:∀{k:Nat} {i:Int} {c:List Int} {out:List (List Int)},(lisL p k i c out).length+1≤out.length+2^k
 |0,_,_,out=>by simp[lisL]
 |k+1,i,c,out=>by
  simp only[lisL]
  have h1:=@lis_len p k (i+1) c (if feasE p (c++[i])=0 then lisL p k (i+1) (c++[i]) (out++[c++[i]]) else out)
  have h2:=@lis_len p k (i+1) (c++[i]) (out++[c++[i]])
  have h3:(2:Nat)^(k+1)=2^k+2^k:=by rw[Nat.pow_succ];omega
  have h4:0<(2:Nat)^k:=Nat.pow_pos (by decide)
  simp only[List.length_append,List.length_singleton] at h2
  by_cases hf:feasE p (c++[i])=0
  ·rw[if_pos hf] at h1 ⊢;omega
  ·rw[if_neg hf] at h1 ⊢;omega
theorem lis_mem {p:Prob} (hc:checkE p=0):∀{k:Nat} {i:Int} {c:List Int} {out:List (List Int)} {x:List Int},x∈lisL p k i c out↔x∈out∨∃t,t≠[]∧IncR i k t∧FeasI p (c++t)∧x=c++t
 |0,i,c,out,x=>by
  simp only[lisL]
  refine⟨.inl,fun h=>?_⟩
  rcases h with h|⟨t,h1,h2,_⟩
  ·exact h
  ·cases t with
   |nil=>exact absurd rfl h1
   |cons j t=>
    have:=h2.2 j (by simp)
    omega
 |k+1,i,c,out,x=>by
  have hg:=good_of hc
  simp only[lisL]
  rw[lis_mem hc]
  have wide:∀{t:List Int},IncR (i+1) k t→IncR i (k+1) t:=fun h=>⟨h.1,fun j hj=>by have:=h.2 j hj;omega⟩
  have cns:∀{t:List Int},IncR (i+1) k t→IncR i (k+1) (i::t):=fun h=>⟨List.pairwise_cons.2 ⟨fun j hj=>by have:=h.2 j hj;omega,h.1⟩,fun j hj=>by
   rcases List.mem_cons.1 hj with rfl|hj
   ·omega
   ·have:=h.2 j hj;omega⟩
  constructor
  ·rintro(h|⟨t,h1,h2,h3,h4⟩)
   ·split at h
    ·rename_i hf
     rw[lis_mem hc] at h
     rcases h with h|⟨t,h1,h2,h3,h4⟩
     ·rcases List.mem_append.1 h with h|h
      ·exact .inl h
      ·rw[List.mem_singleton] at h
       exact .inr ⟨[i],by simp,cns (t:=[]) ⟨by simp,by simp⟩,(feas_iff hc).1 hf,h⟩
     ·exact .inr ⟨i::t,by simp,cns h2,by simpa using h3,by simpa using h4⟩
    ·exact .inl h
   ·exact .inr ⟨t,h1,wide h2,h3,h4⟩
  ·rintro(h|⟨t,h1,h2,h3,h4⟩)
   ·left
    split
    ·rw[lis_mem hc];left;simp[h]
    ·exact h
   ·cases t with
    |nil=>exact absurd rfl h1
    |cons j t=>
     have hj:=h2.2 j (by simp)
     have hp:=List.pairwise_cons.1 h2.1
     by_cases hji:j=i
     ·subst hji
      left
      have h5:FeasI p ((c++[j])++t):=by simpa using h3
      rw[if_pos ((feas_iff hc).2 (feasI_pre hg h5)),lis_mem hc]
      by_cases ht:t=[]
      ·subst ht
       left
       simp[h4]
      ·right
       exact⟨t,ht,⟨hp.2,fun m hm=>by have a:=hp.1 m hm;have b:=h2.2 m (by simp[hm]);omega⟩,h5,by simpa using h4⟩
     ·right
      refine⟨j::t,by simp,⟨h2.1,fun m hm=>?_⟩,h3,h4⟩
      have b:=h2.2 m hm
      rcases List.mem_cons.1 hm with rfl|hm
      ·omega
      ·have a:=hp.1 m hm;omega
theorem lists_mem {p:Prob} (hc:checkE p=0) {t:List Int}:t∈listsR p↔FeasI p t:=by
 unfold listsR
 rw[lis_mem hc]
 constructor
 ·rintro(h|⟨u,_,_,h,rfl⟩)
  ·rw[List.mem_singleton] at h
   rw[h]
   exact feasI_nil (good_of hc)
  ·simpa using h
 ·intro h
  by_cases ht:t=[]
  ·left;simp[ht]
  ·right
   exact⟨t,ht,h.1,by simpa using h,by simp⟩
def better (a b:Alloc):Alloc:=if b.value<a.value∨a.value=b.value∧cmpL a.chosen b.chosen<0 then a else b
def leftN (p:Prob) (i:Int):Nat:=(p.offers.length - i).toNat
def rawL:Option (List Int)→SV
 |none=> .sc (.slice none 0 0)
 |some l=> .row (.i .i64) l
def rawG (c:Option (List Int)):List Int:=c.getD []
def decRaw:SV→Option (Option (List Int))
 | .sc (.slice none 0 0)=>some none
 | .row s l=>(decRow (.i .i64) (.row s l)).map some
 |_=>none
theorem decRaw_ok {v:SV} {c:Option (List Int)} (h:decRaw v=some c):v.g=(rawL c).g:=by
 unfold decRaw at h
 split at h
 ·simp only[Option.some.injEq] at h;subst h;rfl
 ·obtain⟨l,h1,rfl⟩:=Option.map_eq_some_iff.1 h
  exact decRow_ok h1
 ·cases h
theorem rawL_inj {a b:Option (List Int)} (h:(rawL a).g=(rawL b).g):a=b:=by
 cases a<;>cases b
 ·rfl
 ·simp[rawL,SV.g] at h
 ·simp[rawL,SV.g] at h
 ·rw[(codR (.i .i64)).inj _ _ h]
abbrev LArg:=Prob×Option (List Int)×Int×Nat×List (List Int)
def lisD (a:LArg):Prop:=a.1.offers.length≤9∧0≤a.2.2.1∧a.2.2.1≤a.1.offers.length∧(rawG a.2.1).length≤a.2.2.1∧a.2.2.2.1=a.2.2.2.2.length∧a.2.2.2.2.length+2^leftN a.1 a.2.2.1≤1000
def lisR (a:LArg):List (List Int):=lisL a.1 (leftN a.1 a.2.2.1) a.2.2.1 (rawG a.2.1) a.2.2.2.2
def lisC (n:Nat):OCtr where
 f:=32
 α:=LArg
 put a:=[codP.put a.1,rawL a.2.1,.si .i64 a.2.2.1,.ow 0 a.2.2.2.1 1]
 st a:=[.row (.lst (.i .i64)) a.2.2.2.2 24 true]
 dec v o:=match v,o with
  |[x,c,i,.ow 0 n 1],[.row t l 24 true]=>match codP.dec x,decRaw c,i.int .i64,castL t (.lst (.i .i64)) l with
   |some x,some c,some i,some l=>some (x,c,i,n,l)
   |_,_,_,_=>none
  |_,_=>none
 ok v o a h:=by
  split at h
  ·split at h
   ·rename_i h1 h2 h3 h4
    simp only[Option.some.injEq] at h;subst h
    obtain⟨rfl,hh⟩:=castL_eq h4
    cases hh
    exact⟨by simp only[gL,codP.ok _ _ h1,decRaw_ok h2,int_g h3];rfl,rfl⟩
   ·cases h
  ·cases h
 inj a b h1 h2:=by
  obtain⟨p,c,i,n,l⟩:=a
  obtain⟨q,d,j,m,k⟩:=b
  simp only[gL,List.cons.injEq,and_true] at h1
  obtain⟨g1,g2,g3,g4⟩:=h1
  have e1:=codP.inj _ _ g1
  have e2:=rawL_inj g2
  simp only[SV.g,AV.sc.injEq,Value.int.injEq,true_and] at g3
  simp only[SV.g,AV.os.injEq,true_and] at g4
  simp only[gO,List.map_cons,List.map_nil,SObj.g,List.cons.injEq,AObj.cells.injEq,and_true] at h2
  have hl:l=k:=by
   have hf:=congrArg List.length h2
   rw[flatA_len,flatA_len] at hf
   exact flatA_inj (.lst (.i .i64)) (by simpa[SId.sz] using hf) h2
  rw[e1,e2,g3,g4.1,hl]
 dom a:=lisD a∧leftN a.1 a.2.2.1<n
 res a:=.ow 0 (lisR a).length 1
 out a:=[.row (.lst (.i .i64)) (lisR a) 24 true]
def W117 (n:Nat):List OCtr:=[lisC n]
def st117 (p:Prob) (l:List (List Int)):SStore:=[.row (.lst (.i .i64)) l 24 true,.cells p.ss 27 20 false]
def Λ117 (p:Prob) (c:Option (List Int)) (f:Int) (o:List (List Int)):Nat→LoopAnn
 |2=> .inv (Int×List (List Int)) (fun x=>⟨[(1,rawL c),(3,.ow 0 x.2.length 1),(4,.ptr 1 0 20),(9,.si .i64 x.1)],st117 p x.2⟩) (fun s=>(iS s 9,oS (.lst (.i .i64)) s 0))
  (fun x=>f≤x.1∧x.1≤p.offers.length∧x.2.length+2^leftN p x.1≤1000∧lisL p (leftN p f) f (rawG c) o=lisL p (leftN p x.1) x.1 (rawG c) x.2) (fun x=>(p.offers.length - x.1).toNat) fun _ _=> .look
 |_=> .look
theorem lisX (n:Nat) (p:Prob) (c:Option (List Int)) (f:Int) (m:Nat) (o:List (List Int)) (hd:lisD (p,c,f,m,o)) (hn:leftN p f<n+1):
  Vc (fnOwnK (parL [r55] (ownT (W117 n)) tyN mtN fnN) (Λ117 p c f o) F117 ((lisC (n+1)).put (p,c,f,m,o)) ((lisC (n+1)).st (p,c,f,m,o)) fun v t=>v.same ((lisC (n+1)).res (p,c,f,m,o))∧sameO t ((lisC (n+1)).out (p,c,f,m,o))):=by
 obtain⟨h9,f0,f1,hcl,hm,ho⟩:=hd
 simp only at h9 f0 f1 hcl hm ho
 have hlen:∀(i:Int) (l:List Int),(l++[i]).length=l.length+1:=fun _ _=>by simp
 rcases c with _|c
 ·refine vcOf (let z0:=SV.sc (Value.slice none 0 0);let z1:=SV.ptr 1 0 20;let z2:=(SId.i .i64).lst;let z3:=SObj.row z2 o 24 true;let z4:=SObj.cells (Prob.ss p) 27 20 false;let z5:=(↑p.offers.length:Int);let z6:=lisL p (leftN p f) f (rawG none) o;let z7:=lisR (p,none,f,m,o);(((z0.same z0∧(SV.ow 0 m 1).same (SV.ow 0 o.length 1)∧z1.same z1∧(SV.si .i64 f).same (SV.si .i64 f)∧True)∧z3.same z3∧z4.same z4∧True)∧f≤f∧f≤z5∧o.length+2^leftN p f≤1000∧z6=z6)∧∀(x:Int×List (List Int)),let z8:=x.snd.length;let z9:=decide (x.fst<(↑p.offers.length:Int));let z10:=decide (feasE p [x.fst]=(0:Int));let z11:=x.fst+(1:Int);let z12:=x.snd.length+1;let z13:=(p,some [x.fst],z11,(x.snd++[[x.fst]]).length,x.snd++[[x.fst]]);let z14:=leftN p z11;let z15:=SV.ow 0 (lisR z13).length 1;let z16:=SV.si .i64 z11;let z17:=SObj.row z2 (lisR z13) 24 true;let z18:=SV.ow 0 z8 1;let z19:=SObj.row z2 x.snd 24 true;f≤x.fst∧x.fst≤z5∧z8+2^leftN p x.fst≤1000∧z6=lisL p (leftN p x.fst) x.fst (rawG none) x.snd→(z9=true→0=0∧0≤140737488355328∧0≤1000000000000∧0=0∧8≤140737488355328∧1≤1000000000000∧1=1∧1≤9223372036854775807∧(z10=true→1=1∧inR .i64 z11∧z8=x.snd.length∧z12*24≤140737488355328∧z12≤1000000000000∧(lisD z13∧z14<n)∧inR .i64 z11∧((z0.same z0∧z15.same z15∧z1.same z1∧z16.same z16∧True)∧z17.same z17∧z4.same z4∧True)∧(f≤z11∧z11≤z5∧(lisR z13).length+2^z14≤1000∧z6=lisL p z14 z11 (rawG none) (lisR z13))∧(z5 - z11).toNat<(z5 - x.fst).toNat)∧(z10=false→inR .i64 z11∧((z0.same z0∧z18.same z18∧z1.same z1∧z16.same z16∧True)∧z19.same z19∧z4.same z4∧True)∧(f≤z11∧z11≤z5∧z8+2^z14≤1000∧z6=lisL p z14 z11 (rawG none) x.snd)∧(z5 - z11).toNat<(z5 - x.fst).toNat))∧(z9=false→z18.same (SV.ow 0 z7.length 1)∧z19.same (SObj.row z2 z7 24 true)∧True)) (by kernel_rfl) ?_
  simp only[vcs]
  have how:∀{x y:Nat},x=y→(SV.ow 0 x 1).same (SV.ow 0 y 1):=by rintro _ _ rfl;rfl
  have hrow:∀{x y:List (List Int)},x=y→(SObj.row (.lst (.i .i64)) x 24 true).same (SObj.row (.lst (.i .i64)) y 24 true):=by rintro _ _ rfl;rfl
  have hg:([]:List Int)=rawG (none:Option (List Int)):=rfl
  refine⟨⟨how hm,by omega,f1,ho⟩,?_⟩
  rintro⟨i,out⟩ ⟨i0,i1,iL,hi⟩
  simp only at i0 i1 iL hi ⊢
  refine⟨fun hlt=>?_,fun hge=>?_⟩
  ·have hl:leftN p i=leftN p (i+1)+1:=by unfold leftN;omega
   have hlf:leftN p i≤leftN p f:=by unfold leftN;omega
   have hp2:(2:Nat)^leftN p i=2^leftN p (i+1)+2^leftN p (i+1):=by rw[hl,Nat.pow_succ];omega
   have hp0:0<(2:Nat)^leftN p (i+1):=Nat.pow_pos (by decide)
   have hR:∀m,lisR (p,some ([i]),i+1,m,out++[[i]])=lisL p (leftN p (i+1)) (i+1) ([i]) (out++[[i]]):=fun _=>rfl
   have hll:=@lis_len p (leftN p (i+1)) (i+1) ([i]) (out++[[i]])
   simp only[List.length_append,List.length_singleton] at hll
   rw[hl] at hi
   simp only[lisL] at hi
   have hcl2:([]:List Int).length≤f:=hcl
   refine⟨by omega,by omega,by omega,by omega,by omega,fun hf=>⟨by omega,by omega,by omega,⟨⟨h9,(show(0:Int)≤i+1 by omega),(show i+1≤(p.offers.length:Int) by omega),?_,by simp,?_⟩,by omega⟩,by omega,⟨by omega,by omega,?_,?_⟩,by omega⟩,fun hf=>⟨by omega,⟨by omega,by omega,by omega,?_⟩,by omega⟩⟩
   ·show(([i]:List Int).length:Int)≤i+1
    simp only[List.length_singleton];omega
   ·simp only[List.length_append,List.length_singleton];omega
   ·rw[hR];omega
   ·rw[hR,hi]
    exact congrArg _ (if_pos hf)
   ·rw[hi]
    exact congrArg _ (if_neg hf)
  ·have hl:leftN p i=0:=by unfold leftN;omega
   rw[hl] at hi
   simp only[lisL] at hi
   have hR:out=lisR (p,(none:Option (List Int)),f,m,o):=hi.symm
   rw[hR]
   exact⟨rfl,rfl⟩
 ·refine vcOf (let z0:=SId.i .i64;let z1:=SV.ptr 1 0 20;let z2:=SObj.row z0.lst o 24 true;let z3:=SObj.cells [SV.si .i64 p.supply.a0,SV.si .i64 p.supply.a1,SV.si .i64 p.supply.a2,SV.si .i64 p.supply.a3,SV.si .i64 p.supply.a4,SV.si .i64 p.supply.a5,SV.si .i64 p.opn.a0,SV.si .i64 p.opn.a1,SV.si .i64 p.opn.a2,SV.si .i64 p.opn.a3,SV.si .i64 p.opn.a4,SV.si .i64 p.opn.a5,SV.si .i64 p.cls.a0,SV.si .i64 p.cls.a1,SV.si .i64 p.cls.a2,SV.si .i64 p.cls.a3,SV.si .i64 p.cls.a4,SV.si .i64 p.cls.a5,SV.row z0 p.classes,SV.row SId.off p.offers] 27 20 false;let z4:=(↑p.offers.length:Int);let z5:=rawG (some c);let z6:=lisL p (leftN p f) f z5 o;let z7:=0+c.length;let z8:=c.length+1;let z9:=lisR (p,some c,f,m,o);((((SV.row z0 c).same (SV.row z0 c)∧(SV.ow 0 m 1).same (SV.ow 0 o.length 1)∧z1.same z1∧(SV.si .i64 f).same (SV.si .i64 f)∧True)∧z2.same z2∧z3.same z3∧True)∧f≤f∧f≤z4∧o.length+2^leftN p f≤1000∧z6=z6)∧∀(x:Int×List (List Int)),let z10:=x.snd.length;let z11:=decide (x.fst<(↑p.offers.length:Int));let z12:=c++[x.fst];let z13:=decide (feasE p z12=(0:Int));let z14:=x.fst+(1:Int);let z15:=x.snd.length+1;let z16:=(p,some z12,z14,(x.snd++[z12]).length,x.snd++[z12]);let z17:=leftN p z14;let z18:=SV.ow 0 (lisR z16).length 1;let z19:=SV.si .i64 z14;let z20:=SObj.row z0.lst (lisR z16) 24 true;let z21:=SV.ow 0 z10 1;let z22:=SObj.row z0.lst x.snd 24 true;f≤x.fst∧x.fst≤z4∧z10+2^leftN p x.fst≤1000∧z6=lisL p (leftN p x.fst) x.fst z5 x.snd→(z11=true→0=0∧z7*8≤140737488355328∧z7≤1000000000000∧c.length=c.length∧z8*8≤140737488355328∧z8≤1000000000000∧z12.length=z12.length∧z12.length≤9223372036854775807∧(z13=true→z12.length=z12.length∧inR .i64 z14∧z10=x.snd.length∧z15*24≤140737488355328∧z15≤1000000000000∧(lisD z16∧z17<n)∧inR .i64 z14∧(((SV.row z0 c).same (SV.row z0 c)∧z18.same z18∧z1.same z1∧z19.same z19∧True)∧z20.same z20∧z3.same z3∧True)∧(f≤z14∧z14≤z4∧(lisR z16).length+2^z17≤1000∧z6=lisL p z17 z14 z5 (lisR z16))∧(z4 - z14).toNat<(z4 - x.fst).toNat)∧(z13=false→inR .i64 z14∧(((SV.row z0 c).same (SV.row z0 c)∧z21.same z21∧z1.same z1∧z19.same z19∧True)∧z22.same z22∧z3.same z3∧True)∧(f≤z14∧z14≤z4∧z10+2^z17≤1000∧z6=lisL p z17 z14 z5 x.snd)∧(z4 - z14).toNat<(z4 - x.fst).toNat))∧(z11=false→z21.same (SV.ow 0 z9.length 1)∧z22.same (SObj.row z0.lst z9 24 true)∧True)) (by kernel_rfl) ?_
  simp only[vcs]
  have how:∀{x y:Nat},x=y→(SV.ow 0 x 1).same (SV.ow 0 y 1):=by rintro _ _ rfl;rfl
  have hrow:∀{x y:List (List Int)},x=y→(SObj.row (.lst (.i .i64)) x 24 true).same (SObj.row (.lst (.i .i64)) y 24 true):=by rintro _ _ rfl;rfl
  have hg:c=rawG (some c):=rfl
  refine⟨⟨how hm,by omega,f1,ho⟩,?_⟩
  rintro⟨i,out⟩ ⟨i0,i1,iL,hi⟩
  simp only at i0 i1 iL hi ⊢
  refine⟨fun hlt=>?_,fun hge=>?_⟩
  ·have hl:leftN p i=leftN p (i+1)+1:=by unfold leftN;omega
   have hlf:leftN p i≤leftN p f:=by unfold leftN;omega
   have hp2:(2:Nat)^leftN p i=2^leftN p (i+1)+2^leftN p (i+1):=by rw[hl,Nat.pow_succ];omega
   have hp0:0<(2:Nat)^leftN p (i+1):=Nat.pow_pos (by decide)
   have hR:∀m,lisR (p,some (c++[i]),i+1,m,out++[c++[i]])=lisL p (leftN p (i+1)) (i+1) (c++[i]) (out++[c++[i]]):=fun _=>rfl
   have hll:=@lis_len p (leftN p (i+1)) (i+1) (c++[i]) (out++[c++[i]])
   simp only[List.length_append,List.length_singleton] at hll
   rw[hl] at hi
   simp only[lisL] at hi
   simp only[hlen]
   have hcl2:c.length≤f:=hcl
   refine⟨by omega,by omega,by omega,by omega,by omega,fun hf=>⟨by omega,by omega,by omega,⟨⟨h9,(show(0:Int)≤i+1 by omega),(show i+1≤(p.offers.length:Int) by omega),?_,by simp,?_⟩,by omega⟩,by omega,⟨by omega,by omega,?_,?_⟩,by omega⟩,fun hf=>⟨by omega,⟨by omega,by omega,by omega,?_⟩,by omega⟩⟩
   ·show((c++[i]).length:Int)≤i+1
    rw[hlen];omega
   ·simp only[List.length_append,List.length_singleton];omega
   ·rw[hR];omega
   ·rw[hR,hi]
    exact congrArg _ (if_pos hf)
   ·rw[hi]
    exact congrArg _ (if_neg hf)
  ·have hl:leftN p i=0:=by unfold leftN;omega
   rw[hl] at hi
   simp only[lisL] at hi
   have hR:out=lisR (p,(some c),f,m,o):=hi.symm
   rw[hR]
   exact⟨rfl,rfl⟩
theorem hLis:∀n,HoldsO Try.prog (lisC n)
 |0=>by
  rintro⟨p,c,f,m,o⟩ ⟨_,h⟩
  exact absurd h (Nat.not_lt_zero _)
 |n+1=>by
  rintro⟨p,c,f,m,o⟩ ⟨h1,h2⟩
  by_cases hc:leftN p f<n
  ·exact hLis n (p,c,f,m,o) ⟨h1,hc⟩
  ·refine holdsO_of (lisC (n+1)) (W:=W117 n) (Λ:=fun x=>Λ117 x.1 x.2.1 x.2.2.1 x.2.2.2.2) base_ok (by simp only[W117,List.forall_mem_cons,List.not_mem_nil,false_implies,implies_true,and_true];exact hLis n) (by simpa using h55)
    (show fnN 32=some F117 by kernel_rfl) (fun _=>rfl) (p,c,f,m,o) ?_ (lisX n p c f m o h1 h2).out
   intro d hd b hb1 hb2 hb3
   have hd2:d=lisC n:=by
    have:findO 32 (W117 n)=some (lisC n):=rfl
    have hd3:findO 32 (W117 n)=some d:=hd
    rw[this] at hd3
    injection hd3 with hd3
    exact hd3.symm
   subst hd2
   have hb:(p,c,f,m,o)=b:=(lisC n).inj (p,c,f,m,o) b hb1 hb2
   subst hb
   exact hc hb3.2
def r77:SCtr:=⟨17,Prob,.one codP,fun p=>p.offers.length≤9,fun p=> .row (.lst (.i .i64)) (listsR p)⟩
theorem h77:Holds Try.prog r77:=by
 refine con (L:=[]) (W:=ownT [lisC 10]) r77 F77 (fun _ _=> .look) (ownT_ok (by simpa using hLis 10)) (by simp) (by kernel_rfl) (by kernel_rfl) (fun _=>rfl) ?_
 intro(p:Prob) (hp:p.offers.length≤9)
 refine vcOf (let z0:=(p,none,(0:Int),1,[[]]);let z1:=(SId.i .i64).lst;(lisD z0∧leftN p (0:Int)<10)∧(lisR z0).length=(lisR z0).length∧(SV.row z1 (lisR z0)).same (SV.row z1 (listsR p))) (by kernel_rfl) ?_
 simp only[vcs]
 have hl:leftN p 0=p.offers.length:=by unfold leftN;omega
 have h2:(2:Nat)^p.offers.length≤2^9:=Nat.pow_le_pow_right (by decide) hp
 have hR:lisR (p,none,0,1,[[]])=listsR p:=by
  show lisL p (leftN p 0) 0 [] [[]]=listsR p
  rw[hl]
  rfl
 rw[hR]
 refine⟨⟨⟨hp,Int.le_refl 0,(show(0:Int)≤(p.offers.length:Int) by omega),Int.le_refl 0,rfl,?_⟩,by omega⟩,rfl⟩
 show 1+2^leftN p 0≤1000
 rw[hl]
 omega
def r78:SCtr:=⟨19,List Int×Int,.cons (codR (.i .i64)) (.one (codI .i64)),fun a=>a.1.length≤1000000000000,fun a=> .sb (decide (a.2∈a.1))⟩
def Λ78 (a:List Int×Int):Nat→LoopAnn
 |2=> .inv Int (fun i=>⟨[(0,.row (.i .i64) a.1),(1,.si .i64 a.2),(5,.si .i64 i)],[]⟩) (fun s=>iS s 5) (fun i=>0≤i∧i≤a.1.length∧a.2∉a.1.take i.toNat) (fun i=>(a.1.length - i).toNat) fun _ _=> .look
 |_=> .look
theorem h78:Holds Try.prog r78:=by
 refine con (L:=[]) r78 F78 Λ78 (OwnOK.none _) (by simp) (by kernel_rfl) (by kernel_rfl) (fun _=>rfl) ?_
 rintro⟨l,k⟩ (hl:l.length≤1000000000000)
 refine vcOf (let z0:=SV.row (SId.i .i64) l;let z1:=(↑l.length:Int);let z2:=SV.sb (decide (k∈l));(((z0.same z0∧(SV.si .i64 k).same (SV.si .i64 k)∧(SV.il .i64 0).same (SV.si .i64 0)∧True)∧True)∧(0:Int)≤(0:Int)∧(0:Int)≤z1∧(k∈[]→False))∧∀(x:Int),let z3:=decide (x<(↑l.length:Int));let z4:=decide (nthD l x.toNat (0:Int)=k);let z5:=x+(1:Int);let z6:=SV.si .i64 z5;(0:Int)≤x∧x≤z1∧(k∈List.take x.toNat l→False)→(z3=true→(0:Int)≤x∧x<(↑l.length:Int)∧x.toNat<l.length∧(z4=true→(SV.bl true).same z2)∧(z4=false→inR .i64 z5∧((z0.same z0∧(SV.si .i64 k).same (SV.si .i64 k)∧z6.same z6∧True)∧True)∧((0:Int)≤z5∧z5≤z1∧(k∈List.take z5.toNat l→False))∧(z1 - z5).toNat<(z1 - x).toNat))∧(z3=false→(SV.bl false).same z2)) (by kernel_rfl) ?_
 simp only[vcs]
 refine⟨⟨by omega,by omega,by simp⟩,?_⟩
 rintro i ⟨i0,i1,hi⟩
 refine⟨fun hlt=>⟨i0,hlt,by omega,fun he=>?_,fun he=>⟨by omega,⟨by omega,by omega,?_⟩,by omega⟩⟩,fun hge=>?_⟩
 ·have:k∈l:=he▸nthD_mem (show i.toNat<l.length by omega)
  simp[this]
 ·rw[take_nth (d:=0) i0 hlt]
  intro hm
  rcases List.mem_append.1 hm with hm|hm
  ·exact hi hm
  ·rw[List.mem_singleton] at hm
   exact he hm.symm
 ·rw[show i.toNat=l.length by omega,List.take_length] at hi
  symm
  exact decide_eq_false hi
structure BSt where
 at_:Sit
 rest:Int
 out:List Int
def stepB (p:Prob) (s:BSt) (i:Nat):BSt:=
 let x:=nthD p.offers i SId.off.dflt
 if bitI s.at_.members x.bidder≠0∧fitsAt p s.at_ x=true∧x.value+bestS p (nextAt p s.at_ x)=s.rest then⟨nextAt p s.at_ x,s.rest - x.value,s.out++[(i:Int)]⟩ else s
def startB (p:Prob) (m:Int):BSt:=⟨⟨m,p.supply,p.opn⟩,bestS p ⟨m,p.supply,p.opn⟩,[]⟩
def runB (p:Prob) (m:Int) (n:Nat):BSt:=(List.range n).foldl (stepB p) (startB p m)
theorem runB_succ {p:Prob} {m:Int} {n:Nat}:runB p m (n+1)=stepB p (runB p m n) n:=by
 unfold runB
 rw[List.range_succ,List.foldl_append]
 rfl
theorem nextOk {p:Prob} (hg:Good p) {a:Sit} (ha:SitOk a) {x:Off} (hx:x∈p.offers) (hb:bitI a.members x.bidder≠0) (hf:fitsAt p a x=true):SitOk (nextAt p a x):=by
 have hv:=hg.2.2.2.2 x hx
 have h8:=hg.1
 have hd:=(bit_del ha.1 ha.2.1 hv.1 (by omega)).2 hb
 simp only[fitsAt,Bool.and_eq_true] at hf
 exact⟨hd.1,hd.2.1,sub_ok ha.2.2.1 hv.2.2.1 hf.1,sub_ok ha.2.2.2 (out_ok hv.2.2.1) hf.2⟩
theorem runB_ok {p:Prob} (hg:Good p) {m:Int} (h0:0≤m) (h1:m<256):∀n,n≤p.offers.length→SitOk (runB p m n).at_∧(runB p m n).rest=bestS p (runB p m n).at_∧(runB p m n).out.length≤n
 |0,_=>⟨⟨h0,h1,hg.2.2.1,hg.2.2.2.1⟩,rfl,Nat.le_refl _⟩
 |n+1,hn=>by
  obtain⟨k1,k2,k3⟩:=runB_ok hg h0 h1 n (by omega)
  rw[runB_succ]
  unfold stepB
  simp only
  have hx:=nthD_mem (d:=SId.off.dflt) (show n<p.offers.length by omega)
  split
  ·rename_i hc
   refine⟨nextOk hg k1 hx hc.1 hc.2.1,?_,by simp;omega⟩
   simp only
   omega
  ·exact⟨k1,k2,by omega⟩
def FitS (p:Prob) (a:Sit) (L:List Off):Prop:=FitL p (memL a.members) a.left a.opn L
theorem mem_bit {m b:Int}:b∈memL m↔(0≤b∧b<8)∧bitI m b≠0:=by
 unfold memL
 rw[List.mem_filter,decide_eq_true_eq]
 constructor
 ·rintro⟨h1,h2⟩
  simp only[List.mem_cons,List.not_mem_nil,or_false] at h1
  exact⟨by omega,h2⟩
 ·rintro⟨h1,h2⟩
  refine⟨?_,h2⟩
  have:b=0∨b=1∨b=2∨b=3∨b=4∨b=5∨b=6∨b=7:=by omega
  rcases this with rfl|rfl|rfl|rfl|rfl|rfl|rfl|rfl<;>simp
theorem fitS_cons {p:Prob} (hg:Good p) {a:Sit} (ha:SitOk a) {x:Off} (hx:x∈p.offers) (hb:bitI a.members x.bidder≠0) (hf:fitsAt p a x=true) {L:List Off} (h:FitS p (nextAt p a x) L):FitS p a (x::L):=by
 have hv:=hg.2.2.2.2 x hx
 have h8:=hg.1
 have hd:=(bit_del ha.1 ha.2.1 hv.1 (by omega)).2 hb
 have hm:memL (nextAt p a x).members=(memL a.members).filter fun g=>decide (g≠x.bidder):=hd.2.2
 obtain⟨n1,n2,n3,n4⟩:=h
 rw[hm] at n2
 simp only[fitsAt,Bool.and_eq_true] at hf
 have w1:=Bun.le_iff.1 hf.1
 have w2:=Bun.le_iff.1 hf.2
 refine⟨?_,fun y hy=>?_,?_,?_⟩
 ·rw[List.map_cons,List.nodup_cons]
  refine⟨fun hh=>?_,n1⟩
  obtain⟨y,hy,he⟩:=List.mem_map.1 hh
  have:=(List.mem_filter.1 (n2 y hy).2).2
  simp only[decide_eq_true_eq] at this
  exact this he
 ·rcases List.mem_cons.1 hy with rfl|hy
  ·exact⟨hx,mem_bit.2 ⟨⟨hv.1,by omega⟩,hb⟩⟩
  ·exact⟨(n2 y hy).1,(List.mem_filter.1 (n2 y hy).2).1⟩
 ·have:=Bun.le_iff.1 n3
  rw[List.map_cons,sumB_cons,Bun.le_iff]
  simp only[Bun.add,Bun.sub,nextAt] at this ⊢
  omega
 ·have:=Bun.le_iff.1 n4
  rw[List.map_cons,sumB_cons,Bun.le_iff]
  simp only[Bun.add,Bun.sub,nextAt] at this ⊢
  omega
theorem fitS_uncons {p:Prob} (hg:Good p) {a:Sit} (ha:SitOk a) {x:Off} {L:List Off} (h:FitS p a (x::L)):(bitI a.members x.bidder≠0∧fitsAt p a x=true)∧FitS p (nextAt p a x) L:=by
 obtain⟨n1,n2,n3,n4⟩:=h
 have hx:=n2 x (by simp)
 have hb:=(mem_bit.1 hx.2)
 have hd:=(bit_del ha.1 ha.2.1 hb.1.1 hb.1.2).2 hb.2
 have hm:memL (nextAt p a x).members=(memL a.members).filter fun g=>decide (g≠x.bidder):=hd.2.2
 obtain⟨b1,b2⟩:=fit_bd hg (L:=L) fun y hy=>(n2 y (by simp[hy])).1
 rw[List.map_cons,sumB_cons,Bun.le_iff] at n3 n4
 rw[List.map_cons,List.nodup_cons] at n1
 simp only[Bun.add,Bun.bd] at n3 n4 b1 b2
 refine⟨⟨hb.2,?_⟩,n1.2,fun y hy=>⟨(n2 y (by simp[hy])).1,?_⟩,?_,?_⟩
 ·simp only[fitsAt,Bool.and_eq_true,Bun.le_iff]
  omega
 ·rw[hm,List.mem_filter,decide_eq_true_eq]
  exact⟨(n2 y (by simp[hy])).2,fun e=>n1.1 (e▸List.mem_map_of_mem hy)⟩
 ·rw[Bun.le_iff]
  simp only[Bun.sub,nextAt]
  omega
 ·rw[Bun.le_iff]
  simp only[Bun.sub,nextAt]
  omega
theorem fitS_le {p:Prob} (hg:Good p) {a:Sit} {L:List Off} (h:FitS p a L):sumV L≤bestS p a:=fit_le hg h
theorem fitS_at {p:Prob} (hg:Good p) {a:Sit} (ha:SitOk a):∃L,FitS p a L∧sumV L=bestS p a:=by
 have q1:=Bun.ok_iff.1 ha.2.2.1
 have q2:=Bun.ok_iff.1 ha.2.2.2
 exact fit_at hg (mem_nodup _) (by rw[Bun.le_iff];simp only[Bun.zero];omega) (by rw[Bun.le_iff];simp only[Bun.zero];omega)
theorem takes {p:Prob} (hg:Good p) {a:Sit} (ha:SitOk a) {x:Off} {L:List Off} (h:FitS p a (x::L)) (hv:x.value+sumV L=bestS p a):
  bitI a.members x.bidder≠0∧fitsAt p a x=true∧x.value+bestS p (nextAt p a x)=bestS p a∧FitS p (nextAt p a x) L∧sumV L=bestS p (nextAt p a x):=by
 obtain⟨⟨h1,h2⟩,h3⟩:=fitS_uncons hg ha h
 have hx:=(h.mem x (by simp)).1
 have hn:=nextOk hg ha hx h1 h2
 have a1:=fitS_le hg h3
 obtain⟨M,hM,hMv⟩:=fitS_at hg hn
 have a2:=fitS_le hg (fitS_cons hg ha hx h1 h2 hM)
 simp only[sumV] at a2
 exact⟨h1,h2,by omega,h3,by omega⟩
theorem taken {p:Prob} (hg:Good p) {m:Int} (h0:0≤m) (h1:m<256):∀n,n≤p.offers.length→IncR 0 n (runB p m n).out∧sumV (offsI p (runB p m n).out)+(runB p m n).rest=(startB p m).rest∧
  ∀L,FitS p (runB p m n).at_ L→FitS p (startB p m).at_ (offsI p (runB p m n).out++L)
 |0,_=>⟨⟨by simp[runB,startB],by simp[runB,startB]⟩,by simp[runB,startB,offsI,sumV],fun L h=>by simpa[runB,startB,offsI] using h⟩
 |n+1,hn=>by
  obtain⟨k1,k2,k3⟩:=runB_ok hg h0 h1 n (by omega)
  obtain⟨i1,i2,i3⟩:=taken hg h0 h1 n (by omega)
  have hx:=nthD_mem (d:=SId.off.dflt) (show n<p.offers.length by omega)
  rw[runB_succ]
  unfold stepB
  simp only
  split
  ·rename_i hcond
   obtain⟨c1,c2,c3⟩:=hcond
   have ho:offsI p ((runB p m n).out++[(n:Int)])=offsI p (runB p m n).out++[nthD p.offers n SId.off.dflt]:=by
    rw[offsI_append]
    congr 1
   refine⟨⟨?_,fun j hj=>?_⟩,?_,fun L hL=>?_⟩
   ·rw[List.pairwise_append]
    refine⟨i1.1,by simp,fun a ha b hb=>?_⟩
    rw[List.mem_singleton] at hb
    have:=i1.2 a ha
    omega
   ·rcases List.mem_append.1 hj with hj|hj
    ·have:=i1.2 j hj;omega
    ·rw[List.mem_singleton] at hj;omega
   ·simp only
    rw[ho,sumV_append]
    simp only[sumV]
    omega
   ·have:=i3 _ (fitS_cons hg k1 hx c1 c2 hL)
    rw[ho]
    simpa using this
  ·exact⟨⟨i1.1,fun j hj=>by have:=i1.2 j hj;omega⟩,i2,i3⟩
def oI (p:Prob) (i:Int):Off:=nthD p.offers i.toNat SId.off.dflt
def lenT (a:List Int):Nat→Nat
 |0=>0
 |n+1=>if nthD a n 0=0 then lenT a n else n+1
def trimN (a:List Int):List Int:=a.take (lenT a a.length)
def r152:SCtr:=⟨59,List Int,.one (codR (.i .u32)),fun a=>a.length≤1000000000000,fun a=> .row (.i .u32) (trimN a)⟩
def Λ152 (a:List Int):Nat→LoopAnn
 |2=> .inv Int (fun n=>⟨[(0,.row (.i .u32) a),(3,.si .i64 n)],[]⟩) (fun s=>iS s 3) (fun n=>0≤n∧n≤a.length∧lenT a n.toNat=lenT a a.length) (fun n=>n.toNat) fun _ _=> .look
 |_=> .look
theorem h152:Holds Try.prog r152:=by
 refine con (L:=[]) r152 F152 Λ152 (OwnOK.none _) (by simp) (by kernel_rfl) (by kernel_rfl) (fun _=>rfl) ?_
 intro(a:List Int) (h:a.length≤1000000000000)
 refine vcOf (let z0:=SId.i .u32;let z1:=(↑a.length:Int);let z2:=SV.si .i64 z1;let z3:=(↑a.length:Int);let z4:=lenT a a.length;((((SV.row z0 a).same (SV.row z0 a)∧z2.same z2∧True)∧True)∧(0:Int)≤z1∧z1≤z3∧lenT a z1.toNat=z4)∧∀(x:Int),let z5:=decide ((0:Int)<x);let z6:=x - (1:Int);let z7:=decide (nthD a z6.toNat (0:Int)=(0:Int));let z8:=SV.si .i64 z6;(0:Int)≤x∧x≤z3∧lenT a x.toNat=z4→(z5=true→inR .i64 z6∧(0:Int)≤z6∧z6<z1∧z6.toNat<a.length∧(z7=true→inR .i64 z6∧(((SV.row z0 a).same (SV.row z0 a)∧z8.same z8∧True)∧True)∧((0:Int)≤z6∧z6≤z3∧lenT a z6.toNat=z4)∧z6.toNat<x.toNat)∧(z7=false→(0:Int)≤x∧(0:Int)≤x∧0≤x.toNat∧x.toNat≤x.toNat∧x.toNat≤a.length∧(SV.row z0 (List.take (x.toNat - 0) a)).same (SV.row z0 (trimN a))))∧(z5=false→(0:Int)≤x∧(0:Int)≤x∧0≤x.toNat∧x.toNat≤x.toNat∧x.toNat≤a.length∧(SV.row z0 (List.take (x.toNat - 0) a)).same (SV.row z0 (trimN a)))) (by kernel_rfl) ?_
 simp only[vcs]
 refine⟨⟨by omega,by omega,by simp⟩,?_⟩
 rintro n ⟨n0,n1,hn⟩
 have stop:(n.toNat=0∨0<n.toNat∧¬nthD a (n.toNat - 1) 0=0)→List.take (n.toNat - 0) a=trimN a:=fun h=>by
  unfold trimN
  rw[←hn]
  congr 1
  rcases h with h|h
  ·rw[h];rfl
  ·obtain⟨h1,h⟩:=h
   obtain⟨m,hm⟩:∃m,n.toNat=m+1:=⟨n.toNat - 1,by omega⟩
   rw[hm] at h ⊢
   simp only[Nat.add_sub_cancel] at h
   unfold lenT
   rw[if_neg h]
   rfl
 refine⟨fun h0=>⟨by omega,by omega,by omega,by omega,fun hz=>⟨by omega,⟨by omega,by omega,?_⟩,by omega⟩,fun hz=>⟨n0,n0,by omega,by omega,by omega,?_⟩⟩,fun h0=>⟨n0,n0,by omega,by omega,by omega,stop (.inl (by omega))⟩⟩
 ·rw[←hn,show n.toNat=(n - 1).toNat+1 by omega]
  rw[lenT,if_pos hz]
 ·exact stop (.inr ⟨by omega,by rw[show n.toNat - 1=(n - 1).toNat by omega];exact hz⟩)
def valN:List Int→Int
 |[]=>0
 |d::l=>d+4294967296*valN l
def Dig (a:List Int):Prop:=∀d∈a,0≤d∧d<4294967296
def Nrm:List Int→Prop
 |[]=>True
 |d::l=>(l=[]→d≠0)∧Nrm l
theorem dig_cons {d:Int} {l:List Int}:Dig (d::l)↔(0≤d∧d<4294967296)∧Dig l:=by simp[Dig]
theorem dig_take {a:List Int} (h:Dig a) (n:Nat):Dig (a.take n):=fun d hd=>h d (List.mem_of_mem_take hd)
theorem val_nonneg:∀{a:List Int},Dig a→0≤valN a
 |[],_=>Int.le_refl _
 |d::l,h=>by
  obtain⟨h1,h2⟩:=dig_cons.1 h
  have:=val_nonneg h2
  simp only[valN]
  omega
theorem val_zero:∀{a:List Int},Dig a→Nrm a→valN a=0→a=[]
 |[],_,_,_=>rfl
 |d::l,h,hn,hz=>by
  obtain⟨h1,h2⟩:=dig_cons.1 h
  have:=val_nonneg h2
  simp only[valN] at hz
  have hl:=val_zero h2 hn.2 (by omega)
  have:=hn.1 hl
  omega
theorem val_inj:∀{a b:List Int},Dig a→Dig b→Nrm a→Nrm b→valN a=valN b→a=b
 |[],b,_,hb,_,nb,h=>(val_zero hb nb h.symm).symm
 |d::l,[],ha,_,na,_,h=>val_zero ha na h
 |d::l,e::m,ha,hb,na,nb,h=>by
  obtain⟨h1,h2⟩:=dig_cons.1 ha
  obtain⟨h3,h4⟩:=dig_cons.1 hb
  have p1:=val_nonneg h2
  have p2:=val_nonneg h4
  simp only[valN] at h
  have hd:d=e:=by omega
  have hv:valN l=valN m:=by omega
  rw[hd,val_inj h2 h4 na.2 nb.2 hv]
theorem val_snoc:∀{a:List Int} {x:Int},valN (a++[x])=valN a+4294967296^a.length*x
 |[],x=>by simp[valN]
 |d::l,x=>by
  simp only[List.cons_append,valN,val_snoc,List.length_cons,Int.pow_succ,Int.mul_add]
  rw[←Int.mul_assoc,Int.mul_comm 4294967296 (4294967296^l.length)]
  omega
theorem nrm_snoc:∀{a:List Int} {x:Int},x≠0→Nrm (a++[x])
 |[],x,h=>⟨fun _=>h,trivial⟩
 |d::l,x,h=>⟨fun he=>by simp at he,nrm_snoc h⟩
theorem take_snoc {a:List Int} {n:Nat} (h:n<a.length):a.take (n+1)=a.take n++[nthD a n 0]:=by
 rw[List.take_succ_eq_append_getElem h,nthD_eq h]
theorem lenT_val {a:List Int}:∀{n:Nat},n≤a.length→valN (a.take (lenT a n))=valN (a.take n)∧Nrm (a.take (lenT a n))
 |0,_=>by simp[lenT,Nrm]
 |n+1,h=>by
  obtain⟨k1,k2⟩:=@lenT_val a n (by omega)
  have ht:=take_snoc (show n<a.length by omega)
  unfold lenT
  split
  ·rename_i hz
   rw[ht,val_snoc,hz]
   exact⟨by simp[k1],k2⟩
  ·rename_i hz
   rw[ht]
   exact⟨rfl,nrm_snoc hz⟩
theorem trim_val {a:List Int}:valN (trimN a)=valN a∧Nrm (trimN a):=by
 have:=@lenT_val a a.length (Nat.le_refl _)
 rw[List.take_length] at this
 exact this
theorem trim_dig {a:List Int} (h:Dig a):Dig (trimN a):=dig_take h _
theorem trim_len {a:List Int}:(trimN a).length≤a.length:=by unfold trimN;simp;omega
def natF:Nat→Int→List Int
 |0,_=>[]
 |k+1,n=>if n≤0 then[] else(n % 4294967296)::natF k (n / 4294967296)
def natL (n:Int):List Int:=natF n.toNat n
theorem natF_ok:∀{k:Nat} {n:Int},0≤n→n.toNat≤k→valN (natF k n)=n∧Dig (natF k n)∧Nrm (natF k n)
 |0,n,h0,h=>by
  have:n=0:=by omega
  subst this
  exact⟨rfl,by simp[natF,Dig],trivial⟩
 |k+1,n,h0,h=>by
  unfold natF
  split
  ·have:n=0:=by omega
   subst this
   exact⟨rfl,by simp[Dig],trivial⟩
  ·obtain⟨k1,k2,k3⟩:=@natF_ok k (n / 4294967296) (by omega) (by omega)
   refine⟨by simp only[valN,k1];omega,dig_cons.2 ⟨by omega,k2⟩,fun he hz=>?_,k3⟩
   rw[he] at k1
   simp only[valN] at k1
   omega
theorem natL_ok {n:Int} (h:0≤n):valN (natL n)=n∧Dig (natL n)∧Nrm (natL n):=natF_ok h (Nat.le_refl _)
theorem natL_val {a:List Int} (h:Dig a) (hn:Nrm a):natL (valN a)=a:=by
 obtain⟨h1,h2,h3⟩:=natL_ok (val_nonneg h)
 exact val_inj h2 h h3 hn h1
theorem trim_eq {a:List Int} (h:Dig a):trimN a=natL (valN a):=by
 obtain⟨h1,h2⟩:=@trim_val a
 rw[←natL_val (trim_dig h) h2,h1]
theorem val_bdN:∀{a:List Int},Dig a→valN a<4294967296^a.length
 |[],_=>by simp[valN]
 |d::l,h=>by
  obtain⟨h1,h2⟩:=dig_cons.1 h
  have:=val_bdN h2
  simp only[valN,List.length_cons,Int.pow_succ]
  omega
def adC (s t:List Int):Nat→Int
 |0=>0
 |i+1=>(nthD s i 0+adC s t i+nthD t i 0) / 4294967296
def adD (s t:List Int) (i:Nat):Int:=(nthD s i 0+adC s t i+nthD t i 0) % 4294967296
def adR (s t:List Int) (i:Nat):List Int:=(List.range i).map (adD s t)++List.replicate (s.length+1 - i) 0
def big (a:List Int×List Int):List Int:=if a.1.length<a.2.length then a.2 else a.1
def sml (a:List Int×List Int):List Int:=if a.1.length<a.2.length then a.1 else a.2
def r154:SCtr:=⟨72,List Int×List Int,.cons (codR (.i .u32)) (.one (codR (.i .u32))),fun a=>(Dig a.1∧Dig a.2)∧a.1.length≤100000000000∧a.2.length≤100000000000,fun a=> .row (.i .u32) (natL (valN a.1+valN a.2))⟩
def Λ154 (a:List Int×List Int):Nat→LoopAnn
 |6=> .inv Int (fun i=>⟨[(0,.row (.i .u32) (big a)),(1,.row (.i .u32) (sml a)),(5,.ow 0 (adR (big a) (sml a) i.toNat).length 1),(6,.si .u64 (adC (big a) (sml a) i.toNat)),(21,.si .i64 (big a).length),(22,.si .i64 i)],[.row (.i .u32) (adR (big a) (sml a) i.toNat) 110 true]⟩) (fun s=>iS s 22)
  (fun i=>0≤i∧i≤(big a).length) (fun i=>((big a).length - i).toNat) fun _ _=> .look
 |_=> .look
theorem dig_nth {a:List Int} (h:Dig a) (i:Nat):0≤nthD a i 0∧nthD a i 0<4294967296:=by
 by_cases hi:i<a.length
 ·rw[nthD_eq hi];exact h _ (List.getElem_mem hi)
 ·simp[nthD,List.getElem?_eq_none (by omega:a.length≤i)]
theorem nth_out {a:List Int} {i:Nat} (h:a.length≤i):nthD a i 0=0:=by simp[nthD,List.getElem?_eq_none h]
theorem adC_bd {s t:List Int} (hs:Dig s) (ht:Dig t):∀i,0≤adC s t i∧adC s t i≤1
 |0=>by simp[adC]
 |i+1=>by
  have h:=adC_bd hs ht i
  have h1:=dig_nth hs i
  have h2:=dig_nth ht i
  simp only[adC]
  omega
theorem adR_len {s t:List Int} {i:Nat} (h:i≤s.length):(adR s t i).length=s.length+1:=by simp[adR];omega
theorem adR_set {s t:List Int} {i:Nat} {v:Int} (h:i≤s.length):(adR s t i).set i v=(List.range i).map (adD s t)++v::List.replicate (s.length - i) 0:=by
 unfold adR
 have h2:s.length+1 - i=(s.length - i)+1:=by omega
 rw[h2,List.replicate_succ]
 have hl:((List.range i).map (adD s t)).length=i:=by simp
 rw[List.set_append_right _ _ (by omega),hl,Nat.sub_self,List.set_cons_zero]
theorem adR_step {s t:List Int} {i:Nat} (h:i<s.length):adR s t (i+1)=(adR s t i).set i (adD s t i):=by
 rw[adR_set (by omega)]
 unfold adR
 rw[List.range_succ,List.map_append,List.append_assoc]
 congr 1
 have h2:s.length+1 - (i+1)=s.length - i:=by omega
 rw[h2]
 rfl
theorem take_snoc0 {a:List Int} {i:Nat}:valN (a.take (i+1))=valN (a.take i)+4294967296^i*nthD a i 0:=by
 by_cases h:i<a.length
 ·rw[take_snoc h,val_snoc]
  simp[Nat.min_eq_left (Nat.le_of_lt h)]
 ·rw[nth_out (by omega),List.take_of_length_le (by omega),List.take_of_length_le (by omega)]
  simp
theorem ad_val {s t:List Int}:∀i,valN ((List.range i).map (adD s t))+4294967296^i*adC s t i=valN (s.take i)+valN (t.take i)
 |0=>by simp[adC,valN]
 |i+1=>by
  have ih:=@ad_val s t i
  rw[List.range_succ,List.map_append,List.map_cons,List.map_nil,val_snoc,take_snoc0,take_snoc0,Int.pow_succ]
  have hl:((List.range i).map (adD s t)).length=i:=by simp
  rw[hl]
  have hd:adD s t i+4294967296*adC s t (i+1)=nthD s i 0+adC s t i+nthD t i 0:=by
   simp only[adD,adC];omega
  have hm:(4294967296:Int)^i*(adD s t i+4294967296*adC s t (i+1))=4294967296^i*(nthD s i 0+adC s t i+nthD t i 0):=by rw[hd]
  simp only[Int.mul_add] at hm
  rw[←Int.mul_assoc] at hm
  omega
theorem h154:Holds Try.prog r154:=by
 refine con (L:=[r152]) r154 F154 Λ154 (OwnOK.none _) (by simpa using h152) (by kernel_rfl) (by kernel_rfl) (fun _=>rfl) ?_
 rintro⟨a,b⟩ ⟨⟨ha,hb⟩,hla,hlb⟩
 simp only at ha hb hla hlb
 refine vcOf (let z0:=(↑a.length:Int);let z1:=(↑b.length:Int);let z2:=z1+(1:Int);let z3:=SId.i .u32;let z4:=SV.row z3 (big (a,b));let z5:=SV.row z3 (sml (a,b));let z6:=adR (big (a,b)) (sml (a,b)) 0;let z7:=SV.ow 0 z6.length 1;let z8:=(↑(big (a,b)).length:Int);let z9:=SV.si .i64 z8;let z10:=SObj.row z3 z6 110 true;let z11:=(↑(big (a,b)).length:Int);let z12:=(↑(sml (a,b)).length:Int);let z13:=z0+(1:Int);(decide (z0<z1)=true→inR .i64 z2∧(0:Int)≤z2∧z2≤z2∧z2*(4:Int)≤(140737488355328:Int)∧z2≤(1000000000000:Int)∧((((SV.row z3 b).same z4∧(SV.row z3 a).same z5∧(SV.ow 0 z2.toNat 1).same z7∧(SV.il .u64 0).same (SV.si .u64 (adC (big (a,b)) (sml (a,b)) 0))∧(SV.si .i64 z1).same z9∧(SV.il .i64 0).same (SV.si .i64 0)∧True)∧(SObj.row z3 ((0:Int)::List.replicate b.length (0:Int)) 110 true).same z10∧True)∧(0:Int)≤(0:Int)∧(0:Int)≤z8)∧∀(x:Int),let z14:=adR (big (a,b)) (sml (a,b)) x.toNat;let z15:=z14.length;let z16:=x+(1:Int);let z17:=adR (big (a,b)) (sml (a,b)) z16.toNat;let z18:=adC (big (a,b)) (sml (a,b)) x.toNat;let z19:=(nthD (big (a,b)) x.toNat (0:Int) % (18446744073709551616:Int)+z18) % (18446744073709551616:Int);let z20:=(z19+nthD (sml (a,b)) x.toNat (0:Int) % (18446744073709551616:Int)) % (18446744073709551616:Int);let z21:=SV.si .u64 (adC (big (a,b)) (sml (a,b)) z16.toNat);let z22:=SV.si .i64 z16;let z23:=SObj.row z3 z17 110 true;let z24:=z14.set z11.toNat (z18 % (4294967296:Int));(0:Int)≤x∧x≤z8→(decide (x<z8)=true→(0:Int)≤x∧x<z11∧x.toNat<(big (a,b)).length∧(decide (x<z12)=true→(0:Int)≤x∧x<z12∧x.toNat<(sml (a,b)).length∧(0:Int)≤(32:Int)∧(32:Int)≤(64:Int)∧z14.length=z15∧(0:Int)≤x∧x<(↑z15:Int)∧z14.length=z15∧x.toNat<z15∧inR .i64 z16∧((z4.same z4∧z5.same z5∧(SV.ow 0 z14.length 1).same (SV.ow 0 z17.length 1)∧(SV.si .u64 (z20 / (4294967296:Int))).same z21∧z9.same z9∧z22.same z22∧True)∧(SObj.row z3 (z14.set x.toNat (z20 % (4294967296:Int))) 110 true).same z23∧True)∧((0:Int)≤z16∧z16≤z8)∧(z8 - z16).toNat<(z8 - x).toNat)∧(decide (x<z12)=false→(0:Int)≤(32:Int)∧(32:Int)≤(64:Int)∧z14.length=z15∧(0:Int)≤x∧x<(↑z15:Int)∧z14.length=z15∧x.toNat<z15∧inR .i64 z16∧((z4.same z4∧z5.same z5∧(SV.ow 0 z14.length 1).same (SV.ow 0 z17.length 1)∧(SV.si .u64 (z19 / (4294967296:Int))).same z21∧z9.same z9∧z22.same z22∧True)∧(SObj.row z3 (z14.set x.toNat (z19 % (4294967296:Int))) 110 true).same z23∧True)∧((0:Int)≤z16∧z16≤z8)∧(z8 - z16).toNat<(z8 - x).toNat))∧(decide (x<z8)=false→z14.length=z15∧(0:Int)≤z11∧z11<(↑z15:Int)∧z14.length=z15∧z11.toNat<z15∧z14.length=z24.length∧z24.length≤1000000000000∧(SV.row z3 (trimN z24)).same (SV.row z3 (natL (valN a+valN b)))))∧(decide (z0<z1)=false→inR .i64 z13∧(0:Int)≤z13∧z13≤z13∧z13*(4:Int)≤(140737488355328:Int)∧z13≤(1000000000000:Int)∧((((SV.row z3 a).same z4∧(SV.row z3 b).same z5∧(SV.ow 0 z13.toNat 1).same z7∧(SV.il .u64 0).same (SV.si .u64 (adC (big (a,b)) (sml (a,b)) 0))∧(SV.si .i64 z0).same z9∧(SV.il .i64 0).same (SV.si .i64 0)∧True)∧(SObj.row z3 ((0:Int)::List.replicate a.length (0:Int)) 110 true).same z10∧True)∧(0:Int)≤(0:Int)∧(0:Int)≤z8)∧∀(x:Int),let z25:=adR (big (a,b)) (sml (a,b)) x.toNat;let z26:=z25.length;let z27:=x+(1:Int);let z28:=adR (big (a,b)) (sml (a,b)) z27.toNat;let z29:=adC (big (a,b)) (sml (a,b)) x.toNat;let z30:=(nthD (big (a,b)) x.toNat (0:Int) % (18446744073709551616:Int)+z29) % (18446744073709551616:Int);let z31:=(z30+nthD (sml (a,b)) x.toNat (0:Int) % (18446744073709551616:Int)) % (18446744073709551616:Int);let z32:=SV.si .u64 (adC (big (a,b)) (sml (a,b)) z27.toNat);let z33:=SV.si .i64 z27;let z34:=SObj.row z3 z28 110 true;let z35:=z25.set z11.toNat (z29 % (4294967296:Int));(0:Int)≤x∧x≤z8→(decide (x<z8)=true→(0:Int)≤x∧x<z11∧x.toNat<(big (a,b)).length∧(decide (x<z12)=true→(0:Int)≤x∧x<z12∧x.toNat<(sml (a,b)).length∧(0:Int)≤(32:Int)∧(32:Int)≤(64:Int)∧z25.length=z26∧(0:Int)≤x∧x<(↑z26:Int)∧z25.length=z26∧x.toNat<z26∧inR .i64 z27∧((z4.same z4∧z5.same z5∧(SV.ow 0 z25.length 1).same (SV.ow 0 z28.length 1)∧(SV.si .u64 (z31 / (4294967296:Int))).same z32∧z9.same z9∧z33.same z33∧True)∧(SObj.row z3 (z25.set x.toNat (z31 % (4294967296:Int))) 110 true).same z34∧True)∧((0:Int)≤z27∧z27≤z8)∧(z8 - z27).toNat<(z8 - x).toNat)∧(decide (x<z12)=false→(0:Int)≤(32:Int)∧(32:Int)≤(64:Int)∧z25.length=z26∧(0:Int)≤x∧x<(↑z26:Int)∧z25.length=z26∧x.toNat<z26∧inR .i64 z27∧((z4.same z4∧z5.same z5∧(SV.ow 0 z25.length 1).same (SV.ow 0 z28.length 1)∧(SV.si .u64 (z30 / (4294967296:Int))).same z32∧z9.same z9∧z33.same z33∧True)∧(SObj.row z3 (z25.set x.toNat (z30 % (4294967296:Int))) 110 true).same z34∧True)∧((0:Int)≤z27∧z27≤z8)∧(z8 - z27).toNat<(z8 - x).toNat))∧(decide (x<z8)=false→z25.length=z26∧(0:Int)≤z11∧z11<(↑z26:Int)∧z25.length=z26∧z11.toNat<z26∧z25.length=z35.length∧z35.length≤1000000000000∧(SV.row z3 (trimN z35)).same (SV.row z3 (natL (valN a+valN b)))))) (by kernel_rfl) ?_
 simp only[vcs]
 have hbs:(a.length<b.length∧big (a,b)=b∧sml (a,b)=a)∨(¬a.length<b.length∧big (a,b)=a∧sml (a,b)=b):=by
  by_cases h:a.length<b.length
  ·exact .inl ⟨h,if_pos h,if_pos h⟩
  ·exact .inr ⟨h,if_neg h,if_neg h⟩
 generalize big (a,b)=s at*
 generalize sml (a,b)=t at*
 have hrow:∀{u v:List Int},u=v→(SObj.row (.i .u32) u 110 true).same (SObj.row (.i .u32) v 110 true):=by rintro _ _ rfl;rfl
 have how:∀{u v:Nat},u=v→(SV.ow 0 u 1).same (SV.ow 0 v 1):=by rintro _ _ rfl;rfl
 have r0:∀u v:List Int,adR u v 0=0::List.replicate u.length 0:=fun u v=>rfl
 refine⟨fun h=>?_,fun h=>?_⟩
 ·obtain⟨h1,e1,e2⟩:a.length<b.length∧s=b∧t=a:=by
   rcases hbs with h2|h2
   ·exact h2
   ·exact absurd (by omega) h2.1
  subst e1 e2
  have hS:Dig s:=by assumption
  have hT:Dig t:=by assumption
  have hts:t.length≤s.length:=by omega
  have bd:=adC_bd hS hT
  refine⟨⟨by omega,by omega⟩,by omega,by omega,by omega,by omega,⟨⟨⟨rfl,rfl,how (by rw[adR_len (by omega)];omega),rfl,rfl⟩,hrow (r0 s t).symm⟩,by omega,by omega⟩,?_⟩
  rintro i ⟨i0,i1⟩
  have l1:=@adR_len s t i.toNat (by omega)
  have b1:=bd i.toNat
  have d1:=dig_nth hS i.toNat
  have d2:=dig_nth hT i.toNat
  refine⟨fun ilt=>?_,fun ige=>?_⟩
  ·have l2:=@adR_len s t (i.toNat+1) (by omega)
   have e:(i+1).toNat=i.toNat+1:=by omega
   have hst:=adR_step (s:=s) (t:=t) (show i.toNat<s.length by omega)
   refine⟨i0,ilt,by omega,fun ht=>?_,fun ht=>?_⟩
   ·have hv:(((nthD s i.toNat 0 % 18446744073709551616+adC s t i.toNat) % 18446744073709551616+nthD t i.toNat 0 % 18446744073709551616) % 18446744073709551616)=nthD s i.toNat 0+adC s t i.toNat+nthD t i.toNat 0:=by omega
    rw[hv,e]
    exact⟨i0,ht,by omega,by omega,by omega,i0,by omega,by omega,by omega,⟨⟨how (by omega),rfl⟩,hrow hst.symm⟩,by omega,by omega⟩
   ·have hz:=nth_out (a:=t) (i:=i.toNat) (by omega)
    have hv:((nthD s i.toNat 0 % 18446744073709551616+adC s t i.toNat) % 18446744073709551616)=nthD s i.toNat 0+adC s t i.toNat+nthD t i.toNat 0:=by omega
    rw[hv,e]
    exact⟨by omega,by omega,i0,by omega,by omega,by omega,⟨⟨how (by omega),rfl⟩,hrow hst.symm⟩,by omega,by omega⟩
  ·have hi:i.toNat=s.length:=by omega
   have hc:adC s t i.toNat % 4294967296=adC s t i.toNat:=by omega
   rw[hc,Int.toNat_natCast,hi]
   rw[hi] at l1 b1
   refine⟨by omega,by omega,by omega,by simp,by simp;omega,?_⟩
   rw[adR_set (Nat.le_refl _),Nat.sub_self,List.replicate_zero,trim_eq ?_]
   ·rw[val_snoc]
    have hv:=@ad_val s t s.length
    rw[List.take_length,List.take_of_length_le hts] at hv
    have hl:((List.range s.length).map (adD s t)).length=s.length:=by simp
    rw[hl,hv]
    try rw[Int.add_comm]
   ·intro d hd
    rcases List.mem_append.1 hd with hd|hd
    ·obtain⟨j,_,rfl⟩:=List.mem_map.1 hd
     unfold adD
     omega
    ·rw[List.mem_singleton] at hd
     omega
 ·obtain⟨h1,e1,e2⟩:¬a.length<b.length∧s=a∧t=b:=by
   rcases hbs with h2|h2
   ·exact absurd h2.1 (by omega)
   ·exact h2
  subst e1 e2
  have hS:Dig s:=by assumption
  have hT:Dig t:=by assumption
  have hts:t.length≤s.length:=by omega
  have bd:=adC_bd hS hT
  refine⟨⟨by omega,by omega⟩,by omega,by omega,by omega,by omega,⟨⟨⟨rfl,rfl,how (by rw[adR_len (by omega)];omega),rfl,rfl⟩,hrow (r0 s t).symm⟩,by omega,by omega⟩,?_⟩
  rintro i ⟨i0,i1⟩
  have l1:=@adR_len s t i.toNat (by omega)
  have b1:=bd i.toNat
  have d1:=dig_nth hS i.toNat
  have d2:=dig_nth hT i.toNat
  refine⟨fun ilt=>?_,fun ige=>?_⟩
  ·have l2:=@adR_len s t (i.toNat+1) (by omega)
   have e:(i+1).toNat=i.toNat+1:=by omega
   have hst:=adR_step (s:=s) (t:=t) (show i.toNat<s.length by omega)
   refine⟨i0,ilt,by omega,fun ht=>?_,fun ht=>?_⟩
   ·have hv:(((nthD s i.toNat 0 % 18446744073709551616+adC s t i.toNat) % 18446744073709551616+nthD t i.toNat 0 % 18446744073709551616) % 18446744073709551616)=nthD s i.toNat 0+adC s t i.toNat+nthD t i.toNat 0:=by omega
    rw[hv,e]
    exact⟨i0,ht,by omega,by omega,by omega,i0,by omega,by omega,by omega,⟨⟨how (by omega),rfl⟩,hrow hst.symm⟩,by omega,by omega⟩
   ·have hz:=nth_out (a:=t) (i:=i.toNat) (by omega)
    have hv:((nthD s i.toNat 0 % 18446744073709551616+adC s t i.toNat) % 18446744073709551616)=nthD s i.toNat 0+adC s t i.toNat+nthD t i.toNat 0:=by omega
    rw[hv,e]
    exact⟨by omega,by omega,i0,by omega,by omega,by omega,⟨⟨how (by omega),rfl⟩,hrow hst.symm⟩,by omega,by omega⟩
  ·have hi:i.toNat=s.length:=by omega
   have hc:adC s t i.toNat % 4294967296=adC s t i.toNat:=by omega
   rw[hc,Int.toNat_natCast,hi]
   rw[hi] at l1 b1
   refine⟨by omega,by omega,by omega,by simp,by simp;omega,?_⟩
   rw[adR_set (Nat.le_refl _),Nat.sub_self,List.replicate_zero,trim_eq ?_]
   ·rw[val_snoc]
    have hv:=@ad_val s t s.length
    rw[List.take_length,List.take_of_length_le hts] at hv
    have hl:((List.range s.length).map (adD s t)).length=s.length:=by simp
    rw[hl,hv]
    try rw[Int.add_comm]
   ·intro d hd
    rcases List.mem_append.1 hd with hd|hd
    ·obtain⟨j,_,rfl⟩:=List.mem_map.1 hd
     unfold adD
     omega
    ·rw[List.mem_singleton] at hd
     omega
end Go.Vi
