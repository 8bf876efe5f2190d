/-
  Contracts: whether offers satisfy all rows.
  Conditions: none.
-/
import Derived.Test.YtoifpgeocpjneaaDD06
import Derived.KernelRfl
set_option maxRecDepth 100000
set_option maxHeartbeats 4000000
set_option linter.unusedSimpArgs false
set_option linter.unusedVariables false
namespace Go.Vi
open Go.Proofs.Ytoifpgeocpjneaa.Ir
open Go.Proofs
def L2:List SCtr:=[r156,r157,r158]
theorem hL2:∀c∈L2,Holds Try.prog c:=by
 simp only[L2,List.forall_mem_cons,List.not_mem_nil,false_implies,implies_true,and_true]
 exact⟨h156,h157,h158⟩
def sumS (p:Prob) (l:List Off) (r:Int):Int:=(l.map (coefS p r)).sum
def fitsB (p:Prob) (l:List Off):Bool:=(List.range (p.classes.length+12)).all fun r=>decide (sumS p l r≤boundS p r)
def r134:SCtr:=⟨54,Prob×List Off,.cons codP (.one (codR .off)),fun a=>a.1.classes.length≤8∧a.2.length≤1000∧(∀x∈a.2,0≤x.bidder∧x.bidder<a.1.classes.length∧x.want.ok=true),fun a=> .sb (fitsB a.1 a.2)⟩
def Λ134 (a:Prob×List Off):Nat→LoopAnn
 |3=> .inv Int (fun i=>⟨[(1,.row .off a.2),(2,.ptr 0 0 20),(5,.fn (.func 62) [] []),(11,.si .i64 (nrows a.1)),(12,.si .i64 i)],[.cells a.1.ss 71 20 false]⟩) (fun s=>iS s 12)
  (fun i=>0≤i∧i≤nrows a.1∧∀r:Nat,r<i→sumS a.1 a.2 r≤boundS a.1 r) (fun i=>(nrows a.1 - i).toNat)
  fun i=>fun
   |7=> .inv (Int×Int) (fun x=>⟨[(1,.row .off a.2),(2,.ptr 0 0 20),(5,.fn (.func 62) [] []),(6,.si .i64 i),(7,.si .i64 x.2),(11,.si .i64 (nrows a.1)),(12,.si .i64 i),(15,.row .off a.2),(16,.si .i64 a.2.length),(17,.si .i64 x.1)],[.cells a.1.ss 71 20 false]⟩)
    (fun s=>(iS s 17,iS s 7))
    (fun x=>0≤x.1∧x.1≤a.2.length∧x.2=sumS a.1 (a.2.take x.1.toNat) i) (fun x=>(a.2.length - x.1).toNat) fun _ _=> .look
   |_=> .look
 |_=> .look
theorem bun_nth {b:Bun} (h:b.ok=true) (k:Nat):0≤nthD [b.a0,b.a1,b.a2,b.a3,b.a4,b.a5] k 0∧nthD [b.a0,b.a1,b.a2,b.a3,b.a4,b.a5] k 0≤4:=by
 have:=Bun.ok_iff.1 h
 match k with
 |0|1|2|3|4|5=>simp[nthD];omega
 |k+6=>simp[nthD]
theorem coef_bd {p:Prob} {r:Int} {o:Off} (h:o.want.ok=true):0≤coefS p r o∧coefS p r o≤4:=by
 unfold coefS
 have h1:=bun_nth h (r - p.classes.length).toNat
 have h2:=bun_nth h (r - p.classes.length - 6).toNat
 (repeat' split)<;>omega
theorem sum_bd {p:Prob} {r:Int}:∀{l:List Off},(∀x∈l,x.want.ok=true)→0≤sumS p l r∧sumS p l r≤4*l.length
 |[],_=>by simp[sumS]
 |x::l,h=>by
  have h1:=@coef_bd p r x (h x (by simp))
  have h2:=@sum_bd p r l fun y hy=>h y (by simp[hy])
  simp only[sumS,List.map_cons,List.sum_cons,List.length_cons] at h2 ⊢
  omega
theorem nthD_mem {α:Type} {l:List α} {i:Nat} {d:α} (h:i<l.length):nthD l i d∈l:=by rw[nthD_eq h];exact List.getElem_mem h
theorem take_nth {α:Type} {l:List α} {i:Int} {d:α} (h0:0≤i) (h:i<l.length):l.take (i+1).toNat=l.take i.toNat++[nthD l i.toNat d]:=by
 rw[show(i+1).toNat=i.toNat+1 from by omega,nthD_eq (by omega),List.take_succ_eq_append_getElem (by omega)]
theorem sum_take {p:Prob} {r:Int} {l:List Off} {i:Int} {d:Off} (h0:0≤i) (h:i<l.length):sumS p (l.take (i+1).toNat) r=sumS p (l.take i.toNat) r+coefS p r (nthD l i.toNat d):=by
 rw[take_nth (d:=d) h0 h]
 simp[sumS]
theorem fits_iff {p:Prob} {l:List Off}:fitsB p l=true↔∀r:Nat,r<nrows p→sumS p l r≤boundS p r:=by
 simp only[fitsB,nrows,List.all_eq_true,List.mem_range,decide_eq_true_eq]
 constructor
 ·intro h r hr;exact h r (by omega)
 ·intro h r hr;exact h r (by omega)
theorem h134:Holds Try.prog r134:=by
 refine con (L:=L2) r134 F134 Λ134 (OwnOK.none _) hL2 (by kernel_rfl) (by kernel_rfl) (fun _=>rfl) ?_
 rintro⟨p,l⟩ ⟨hp,hl,hb⟩
 simp only at hp hl hb
 refine vcOf (let z0:=SV.ptr 0 0 20;let z1:=SV.fn (Fn.func 62) [] [];let z2:=SV.si .i64 (nrows p);let z3:=SObj.cells (Prob.ss p) 71 20 false;let z4:=(↑l.length:Int);let z5:=SV.si .i64 z4;p.classes.length≤8∧((((SV.row SId.off l).same (SV.row SId.off l)∧z0.same z0∧z1.same z1∧z2.same z2∧(SV.il .i64 0).same (SV.si .i64 0)∧True)∧z3.same z3∧True)∧(0:Int)≤(0:Int)∧(0:Int)≤nrows p∧∀(r:Nat),(↑r:Int)<(0:Int)→sumS p l (↑r:Int)≤boundS p (↑r:Int))∧∀(x:Int),let z6:=decide (x<nrows p);let z7:=x+(1:Int);let z8:=SV.si .i64 z7;((0:Int)≤x∧x≤nrows p∧∀(r:Nat),(↑r:Int)<x→sumS p l (↑r:Int)≤boundS p (↑r:Int))→(z6=true→((((SV.row SId.off l).same (SV.row SId.off l)∧z0.same z0∧z1.same z1∧(SV.si .i64 x).same (SV.si .i64 x)∧(SV.il .i64 0).same (SV.si .i64 0)∧z2.same z2∧(SV.si .i64 x).same (SV.si .i64 x)∧(SV.row SId.off l).same (SV.row SId.off l)∧(SV.si .i64 (↑l.length:Int)).same z5∧(SV.il .i64 0).same (SV.si .i64 0)∧True)∧z3.same z3∧True)∧(0:Int)≤(0:Int)∧(0:Int)≤z4∧(0:Int)=sumS p [] x)∧∀(x_1:Int×Int),let z9:=nthD l x_1.fst.toNat SId.off.dflt;let z10:=x_1.snd+coefS p x z9;let z11:=x_1.fst+(1:Int);let z12:=SV.si .i64 x;let z13:=SV.si .i64 z10;let z14:=SV.si .i64 z11;let z15:=decide (boundS p x<x_1.snd);(0:Int)≤x_1.fst∧x_1.fst≤z4∧x_1.snd=sumS p (List.take x_1.fst.toNat l) x→(decide (x_1.fst<z4)=true→(0:Int)≤x_1.fst∧x_1.fst<(↑l.length:Int)∧x_1.fst.toNat<l.length∧(p.classes.length≤8∧(0:Int)≤x∧x<nrows p∧(0:Int)≤z9.bidder∧z9.bidder<(↑p.classes.length:Int))∧inR .i64 z10∧inR .i64 z11∧(((SV.row SId.off l).same (SV.row SId.off l)∧z0.same z0∧z1.same z1∧z12.same z12∧z13.same z13∧z2.same z2∧z12.same z12∧(SV.row SId.off l).same (SV.row SId.off l)∧z5.same z5∧z14.same z14∧True)∧z3.same z3∧True)∧((0:Int)≤z11∧z11≤z4∧z10=sumS p (List.take z11.toNat l) x)∧(z4 - z11).toNat<(z4 - x_1.fst).toNat)∧(decide (x_1.fst<z4)=false→(p.classes.length≤8∧(0:Int)≤x∧x<nrows p)∧(z15=true→(SV.bl false).same (SV.sb (fitsB p l)))∧(z15=false→inR .i64 z7∧(((SV.row SId.off l).same (SV.row SId.off l)∧z0.same z0∧z1.same z1∧z2.same z2∧z8.same z8∧True)∧z3.same z3∧True)∧((0:Int)≤z7∧z7≤nrows p∧∀(r:Nat),(↑r:Int)<z7→sumS p l (↑r:Int)≤boundS p (↑r:Int))∧(nrows p - z7).toNat<(nrows p - x).toNat)))∧(z6=false→(SV.bl true).same (SV.sb (fitsB p l)))) (by kernel_rfl) ?_
 simp only[vcs]
 have hn:nrows p=p.classes.length+12:=rfl
 have ho:∀x∈l,x.want.ok=true:=fun x hx=>(hb x hx).2.2
 refine⟨hp,⟨by omega,by omega,fun r hr=>by omega⟩,?_⟩
 rintro i ⟨hi0,hi1,hi⟩
 refine⟨fun hlt=>⟨⟨by omega,by omega,by simp[sumS]⟩,?_⟩,?_⟩
 ·rintro⟨j,s⟩ ⟨hj0,hj1,hs⟩
  simp only at hj0 hj1 hs ⊢
  have hsb:=@sum_bd p i (l.take j.toNat) fun x hx=>ho x (List.mem_of_mem_take hx)
  have hlen:(l.take j.toNat).length≤l.length:=by simp;omega
  refine⟨fun hjl=>?_,fun hjl=>?_⟩
  ·have hm:=hb _ (nthD_mem (d:=SId.off.dflt) (show j.toNat<l.length by omega))
   have hc:=@coef_bd p i _ hm.2.2
   have hst:=@sum_take p i l j SId.off.dflt hj0 hjl
   refine⟨by omega,by omega,by omega,⟨hp,by omega,by omega,hm.1,hm.2.1⟩,by omega,by omega,⟨by omega,by omega,by omega⟩,by omega⟩
  ·have:j.toNat=l.length:=by omega
   rw[this,List.take_length] at hs
   refine⟨⟨hp,by omega,by omega⟩,fun hgt=>?_,fun hle=>⟨by omega,⟨by omega,by omega,fun r hr=>?_⟩,by omega⟩⟩
   ·symm
    rw[Bool.eq_false_iff]
    intro hf
    have:=fits_iff.1 hf i.toNat (by omega)
    rw[show((i.toNat:Nat):Int)=i from by omega] at this
    omega
   ·by_cases hr2:(r:Int)<i
    ·exact hi r hr2
    ·have:(r:Int)=i:=by omega
     rw[this]
     omega
 ·intro hge
  symm
  exact fits_iff.2 fun r hr=>hi r (by omega)
def L3:List SCtr:=[r134,r146,r156,r157,r158]
theorem hL3:∀c∈L3,Holds Try.prog c:=by
 simp only[L3,List.forall_mem_cons,List.not_mem_nil,false_implies,implies_true,and_true]
 exact⟨h134,h146,h156,h157,h158⟩
def prodOk (p:Prob) (k:Nat):Prop:=
 let c:=nthD [p.cls.a0,p.cls.a1,p.cls.a2,p.cls.a3,p.cls.a4,p.cls.a5] k 0
 let o:=nthD [p.opn.a0,p.opn.a1,p.opn.a2,p.opn.a3,p.opn.a4,p.opn.a5] k 0
 let s:=nthD [p.supply.a0,p.supply.a1,p.supply.a2,p.supply.a3,p.supply.a4,p.supply.a5] k 0
 0≤c∧c≤4∧0≤o∧o≤s∧(c≠0∨o=s)
instance (p:Prob) (k:Nat):Decidable (prodOk p k):=by unfold prodOk;infer_instance
def prodsOk (p:Prob):Bool:=(List.range 6).all fun k=>decide (prodOk p k)
theorem prodOk_iff {p:Prob} {k:Nat}:prodOk p k↔(0≤nthD [p.cls.a0,p.cls.a1,p.cls.a2,p.cls.a3,p.cls.a4,p.cls.a5] k 0∧nthD [p.cls.a0,p.cls.a1,p.cls.a2,p.cls.a3,p.cls.a4,p.cls.a5] k 0≤4∧0≤nthD [p.opn.a0,p.opn.a1,p.opn.a2,p.opn.a3,p.opn.a4,p.opn.a5] k 0∧
  nthD [p.opn.a0,p.opn.a1,p.opn.a2,p.opn.a3,p.opn.a4,p.opn.a5] k 0≤nthD [p.supply.a0,p.supply.a1,p.supply.a2,p.supply.a3,p.supply.a4,p.supply.a5] k 0∧
  (nthD [p.cls.a0,p.cls.a1,p.cls.a2,p.cls.a3,p.cls.a4,p.cls.a5] k 0≠0∨nthD [p.opn.a0,p.opn.a1,p.opn.a2,p.opn.a3,p.opn.a4,p.opn.a5] k 0=nthD [p.supply.a0,p.supply.a1,p.supply.a2,p.supply.a3,p.supply.a4,p.supply.a5] k 0)):=Iff.rfl
attribute [irreducible] prodOk
theorem prods_iff {p:Prob}:prodsOk p=true↔∀k,k<6→prodOk p k:=by simp[prodsOk]
def frameE (p:Prob):Int:=
 if p.supply.ok=false then 4
 else if prodsOk p=false then 4
 else if 8<p.classes.length∨160<p.offers.length then 3
 else if ¬∀c∈p.classes,0≤c∧c≤4 then 4
 else 0
def r118:SCtr:=⟨35,Prob,.one codP,fun p=>True,fun p=> .si .i64 (frameE p)⟩
def Λ118 (p:Prob):Nat→LoopAnn
 |5=> .inv Int (fun k=>⟨[(1,.ptr 0 0 20),(16,.si .i64 k)],[.cells p.ss 71 20 false]⟩) (fun s=>iS s 16) (fun k=>0≤k∧k≤6∧∀j:Nat,j<k→prodOk p j) (fun k=>(6 - k).toNat) fun _ _=> .look
 |14=> .inv Int (fun k=>⟨[(76,.row (.i .i64) p.classes),(77,.si .i64 p.classes.length),(78,.si .i64 k)],[.cells p.ss 71 20 false]⟩) (fun s=>iS s 78)
  (fun k=>0≤k∧k≤p.classes.length∧∀c∈p.classes.take k.toNat,0≤c∧c≤4) (fun k=>(p.classes.length - k).toNat) fun _ _=> .look
 |_=> .look
theorem frame_sup {p:Prob} (h:p.supply.ok=false):frameE p=4:=by simp[frameE,h]
theorem frame_prod {p:Prob} (h:p.supply.ok=true) {k:Nat} (hk:k<6) (hn:¬prodOk p k):frameE p=4:=by
 have:prodsOk p=false:=by
  rw[Bool.eq_false_iff]
  exact fun hh=>hn (prods_iff.1 hh k hk)
 simp[frameE,h,this]
theorem frame_len {p:Prob} (h:p.supply.ok=true) (hp:∀j:Nat,j<6→prodOk p j) (hl:8<p.classes.length∨160<p.offers.length):frameE p=3:=by
 simp[frameE,h,prods_iff.2 hp,hl]
theorem frame_cls {p:Prob} (h:p.supply.ok=true) (hp:∀j:Nat,j<6→prodOk p j) (hl:¬(8<p.classes.length∨160<p.offers.length)) {c:Int} (hc:c∈p.classes) (hn:¬(0≤c∧c≤4)):frameE p=4:=by
 have:¬∀c∈p.classes,0≤c∧c≤4:=fun hh=>hn (hh c hc)
 simp only[frameE,h,prods_iff.2 hp,if_neg hl,this,Bool.true_eq_false,if_false,not_false_iff,if_true]
theorem frame_ok {p:Prob} (h:p.supply.ok=true) (hp:∀j:Nat,j<6→prodOk p j) (hl:¬(8<p.classes.length∨160<p.offers.length)) (hc:∀c∈p.classes,0≤c∧c≤4):frameE p=0:=by
 simp only[frameE,h,prods_iff.2 hp,if_neg hl,Bool.true_eq_false,if_false,if_neg (Classical.not_not.2 hc)]
theorem frame_zero {p:Prob} (h:frameE p=0):p.supply.ok=true∧(∀j:Nat,j<6→prodOk p j)∧p.classes.length≤8∧p.offers.length≤160∧∀c∈p.classes,0≤c∧c≤4:=by
 unfold frameE at h
 split at h
 ·cases h
 ·split at h
  ·cases h
  ·split at h
   ·cases h
   ·split at h
    ·cases h
    ·rename_i h1 h2 h3 h4
     have h4:=Classical.not_not.1 h4
     exact⟨by simpa using h1,prods_iff.1 (by simpa using h2),by omega,by omega,h4⟩
theorem mem_take_next {l:List Int} {i:Int} {P:Int→Prop} (h0:0≤i) (h:i<l.length) (h1:∀c∈l.take i.toNat,P c) (h2:P (nthD l i.toNat 0)):∀c∈l.take (i+1).toNat,P c:=by
 rw[take_nth (d:=0) h0 h]
 intro c hc
 rcases List.mem_append.1 hc with hc|hc
 ·exact h1 c hc
 ·rw[List.mem_singleton.1 hc];exact h2
theorem h118:Holds Try.prog r118:=by
 refine con (L:=L3) r118 F118 Λ118 (OwnOK.none _) hL3 (by kernel_rfl) (by kernel_rfl) (fun _=>rfl) ?_
 intro p _
 refine vcOf (let z0:=if p.supply.ok=true then(0:Int) else(4:Int);let z1:=decide (z0≠(0:Int));let z2:=SV.si .i64 (frameE p);let z3:=SV.ptr 0 0 20;let z4:=SV.il .i64 0;let z5:=SV.row (SId.i .i64) p.classes;let z6:=SObj.cells [SV.si .i64 p.supply.a0,SV.si .i64 p.supply.a1,SV.si .i64 p.supply.a2,SV.si .i64 p.supply.a3,SV.si .i64 p.supply.a4,SV.si .i64 p.supply.a5,SV.si .i64 p.opn.a0,SV.si .i64 p.opn.a1,SV.si .i64 p.opn.a2,SV.si .i64 p.opn.a3,SV.si .i64 p.opn.a4,SV.si .i64 p.opn.a5,SV.si .i64 p.cls.a0,SV.si .i64 p.cls.a1,SV.si .i64 p.cls.a2,SV.si .i64 p.cls.a3,SV.si .i64 p.cls.a4,SV.si .i64 p.cls.a5,z5,SV.row SId.off p.offers] 71 20 false;let z7:=[p.cls.a0,p.cls.a1,p.cls.a2,p.cls.a3,p.cls.a4,p.cls.a5];let z8:=[p.opn.a0,p.opn.a1,p.opn.a2,p.opn.a3,p.opn.a4,p.opn.a5];let z9:=[p.supply.a0,p.supply.a1,p.supply.a2,p.supply.a3,p.supply.a4,p.supply.a5];let z10:=(↑p.classes.length:Int);let z11:=decide ((8:Int)<z10);let z12:=decide ((160:Int)<(↑p.offers.length:Int));let z13:=(↑p.classes.length:Int);let z14:=SV.si .i64 z13;True∧(z1=true→(SV.si .i64 z0).same z2)∧(z1=false→(((z3.same z3∧z4.same (SV.si .i64 0)∧True)∧z6.same z6∧True)∧(0:Int)≤(0:Int)∧(0:Int)≤(6:Int)∧∀(j:Nat),(↑j:Int)<(0:Int)→prodOk p j)∧∀(x:Int),let z15:=decide (x<(6:Int));let z16:=nthD z7 x.toNat (0:Int);let z17:=decide (z16<(0:Int));let z18:=decide ((4:Int)<z16);let z19:=nthD z8 x.toNat (0:Int);let z20:=decide (z19<(0:Int));let z21:=nthD z9 x.toNat (0:Int);let z22:=decide (z16=(0:Int));let z23:=x+(1:Int);let z24:=SV.si .i64 z23;((0:Int)≤x∧x≤(6:Int)∧∀(j:Nat),(↑j:Int)<x→prodOk p j)→(z15=true→(0:Int)≤x∧x<(6:Int)∧x.toNat<6∧(0:Int)≤x∧x<(6:Int)∧x.toNat<6∧(z17=true→(SV.il .i64 4).same z2)∧(z17=false→(z18=true→(SV.il .i64 4).same z2)∧(z18=false→(z20=true→(SV.il .i64 4).same z2)∧(z20=false→(0:Int)≤x∧x<(6:Int)∧x.toNat<6∧(decide (z21<z19)=true→(SV.il .i64 4).same z2)∧(decide (z21<z19)=false→(z22=true→(0:Int)≤x∧x<(6:Int)∧x.toNat<6∧(decide (z19≠z21)=true→(SV.il .i64 4).same z2)∧(decide (z19≠z21)=false→inR .i64 z23∧((z3.same z3∧z24.same z24∧True)∧z6.same z6∧True)∧((0:Int)≤z23∧z23≤(6:Int)∧∀(j:Nat),(↑j:Int)<z23→prodOk p j)∧((6:Int) - z23).toNat<((6:Int) - x).toNat))∧(z22=false→inR .i64 z23∧((z3.same z3∧z24.same z24∧True)∧z6.same z6∧True)∧((0:Int)≤z23∧z23≤(6:Int)∧∀(j:Nat),(↑j:Int)<z23→prodOk p j)∧((6:Int) - z23).toNat<((6:Int) - x).toNat))))))∧(z15=false→(z11=true→(SV.il .i64 3).same z2)∧(z11=false→(z12=true→(SV.il .i64 3).same z2)∧(z12=false→(((z5.same z5∧(SV.si .i64 z10).same z14∧z4.same (SV.si .i64 0)∧True)∧z6.same z6∧True)∧(0:Int)≤(0:Int)∧(0:Int)≤z13∧∀(c:Int),c∈[]→(0:Int)≤c∧c≤(4:Int))∧∀(x:Int),let z25:=nthD p.classes x.toNat (0:Int);let z26:=decide (z25<(0:Int));let z27:=decide ((4:Int)<z25);let z28:=x+(1:Int);let z29:=SV.si .i64 z28;((0:Int)≤x∧x≤z13∧∀(c:Int),c∈List.take x.toNat p.classes→(0:Int)≤c∧c≤(4:Int))→(decide (x<z13)=true→(0:Int)≤x∧x<z10∧x.toNat<p.classes.length∧(z26=true→(SV.il .i64 4).same z2)∧(z26=false→(z27=true→(SV.il .i64 4).same z2)∧(z27=false→inR .i64 z28∧((z5.same z5∧z14.same z14∧z29.same z29∧True)∧z6.same z6∧True)∧((0:Int)≤z28∧z28≤z13∧∀(c:Int),c∈List.take z28.toNat p.classes→(0:Int)≤c∧c≤(4:Int))∧(z13 - z28).toNat<(z13 - x).toNat)))∧(decide (x<z13)=false→z4.same z2)))))) (by kernel_rfl) ?_
 simp only[vcs]
 by_cases hs:Bun.ok p.supply=true
 ·simp only[hs,if_true]
  refine⟨fun h=>absurd rfl h,fun _=>⟨⟨by omega,by omega,fun j hj=>by omega⟩,?_⟩⟩
  rintro k ⟨hk0,hk1,hk⟩
  refine⟨fun hlt=>?_,fun hge=>?_⟩
  ·have bad:¬prodOk p k.toNat→(4:Int)=frameE p:=fun h=>(frame_prod hs (by omega) h).symm
   have nxt:prodOk p k.toNat→∀(j:Nat),(j:Int)<k+1→prodOk p j:=fun h j hj=>by
    by_cases hj2:(j:Int)<k
    ·exact hk j hj2
    ·rw[show j=k.toNat from by omega];exact h
   repeat' (first|refine And.intro ?_ ?_|intro _)
   all_goals first
    |omega
    |exact bad fun hh=>by have h2:=prodOk_iff.1 hh;omega
    |exact nxt (prodOk_iff.2 (by omega)) _ (by assumption)
  ·have hall:∀j:Nat,j<6→prodOk p j:=fun j hj=>hk j (by omega)
   refine⟨fun h=>(frame_len hs hall (.inl (by omega))).symm,fun h8=>⟨fun h=>(frame_len hs hall (.inr (by omega))).symm,fun h160=>⟨⟨by omega,by omega,by simp⟩,?_⟩⟩⟩
   rintro i ⟨hi0,hi1,hi⟩
   refine⟨fun hlt=>?_,fun hge=>?_⟩
   ·have hm:=nthD_mem (d:=0) (show i.toNat<p.classes.length by omega)
    refine⟨by omega,by omega,by omega,fun h=>(frame_cls hs hall (by omega) hm (by omega)).symm,fun h1=>⟨fun h=>(frame_cls hs hall (by omega) hm (by omega)).symm,fun h2=>⟨by omega,⟨by omega,by omega,?_⟩,by omega⟩⟩⟩
    exact mem_take_next hi0 hlt hi (by omega)
   ·rw[show i.toNat=p.classes.length from by omega,List.take_length] at hi
    exact(frame_ok hs hall (by omega) hi).symm
 ·have hs2:Bun.ok p.supply=false:=by simpa using hs
  simp only[hs2,Bool.false_eq_true,if_false]
  exact⟨fun _=>(frame_sup hs2).symm,fun h=>absurd (by decide) h⟩
def simpleE (n:Int) (o:Off):Int:=
 if o.bidder<0∨n≤o.bidder then 6 else if o.value<1∨1000000<o.value then 4 else if o.want.ok then 0 else 4
def r147:SCtr:=⟨53,Int×Off,.cons (codI .i64) (.one (codE .off)),fun p=>True,fun p=> .si .i64 (simpleE p.1 p.2)⟩
theorem h147:Holds Try.prog r147:=by
 refine con (L:=L3) r147 F147 (fun p=>fun _=> .look) (OwnOK.none _) hL3 (by kernel_rfl) (by kernel_rfl) (fun _=>rfl) ?_
 rintro⟨n,x⟩ _
 refine vcOf (let z0:=decide (x.bidder<(0:Int));let z1:=SV.si .i64 (simpleE n x);let z2:=decide (n≤x.bidder);let z3:=decide (x.value<(1:Int));let z4:=decide ((1000000:Int)<x.value);(z0=true→(SV.il .i64 6).same z1)∧(z0=false→(z2=true→(SV.il .i64 6).same z1)∧(z2=false→(z3=true→(SV.il .i64 4).same z1)∧(z3=false→(z4=true→(SV.il .i64 4).same z1)∧(z4=false→True∧(SV.si .i64 (if x.want.ok=true then(0:Int) else(4:Int))).same z1))))) (by kernel_rfl) ?_
 simp only[vcs]
 repeat' (first|refine And.intro ?_ ?_|intro _)
 all_goals first
  |trivial
  |omega
  |(simp only[simpleE];(repeat' split)<;>first|rfl|omega|simp_all)
def offerE (p:Prob) (o:Off):Int:=
 if simpleE p.classes.length o≠0 then simpleE p.classes.length o else if o.want=Bun.zero then 4 else if fitsB p [o]=false then 14 else 0
def r119:SCtr:=⟨36,Prob×Off,.cons codP (.one (codE .off)),fun a=>a.1.classes.length≤8,fun a=> .si .i64 (offerE a.1 a.2)⟩
def L4:List SCtr:=r147::L3
theorem hL4:∀c∈L4,Holds Try.prog c:=by
 simp only[L4,List.forall_mem_cons]
 exact⟨h147,hL3⟩
theorem simple_zero {n:Int} {o:Off} (h:simpleE n o=0):0≤o.bidder∧o.bidder<n∧1≤o.value∧o.value≤1000000∧o.want.ok=true:=by
 unfold simpleE at h
 split at h
 ·cases h
 ·split at h
  ·cases h
  ·split at h
   ·exact⟨by omega,by omega,by omega,by omega,by assumption⟩
   ·cases h
theorem h119:Holds Try.prog r119:=by
 refine con (L:=L4) r119 F119 (fun p=>fun _=> .look) (OwnOK.none _) hL4 (by kernel_rfl) (by kernel_rfl) (fun _=>rfl) ?_
 rintro⟨p,x⟩ (hp:p.classes.length≤8)
 refine vcOf (let z0:=simpleE (↑p.classes.length:Int) x;let z1:=decide (z0≠(0:Int));let z2:=SV.si .i64 (offerE p x);let z3:=decide (x.want.a0=(0:Int))&&(decide (x.want.a1=(0:Int))&&(decide (x.want.a2=(0:Int))&&(decide (x.want.a3=(0:Int))&&(decide (x.want.a4=(0:Int))&&(decide (x.want.a5=(0:Int))&&true)))));True∧(z1=true→(SV.si .i64 z0).same z2)∧(z1=false→(z3=true→(SV.il .i64 4).same z2)∧(z3=false→(p.classes.length≤8∧1≤1000∧∀(x_1:Off),x_1∈[x]→(0:Int)≤x_1.bidder∧x_1.bidder<(↑p.classes.length:Int)∧x_1.want.ok=true)∧((!fitsB p [x])=true→(SV.il .i64 14).same z2)∧((!fitsB p [x])=false→(SV.il .i64 0).same z2)))) (by kernel_rfl) ?_
 conv=>zeta
 have hw:(decide (x.want.a0=0)&&(decide (x.want.a1=0)&&(decide (x.want.a2=0)&&(decide (x.want.a3=0)&&(decide (x.want.a4=0)&&decide (x.want.a5=0))))))=decide (x.want=Bun.zero):=by
  rw[Bool.eq_iff_iff]
  simp[bun_eq,Bun.zero]
 simp only[Bool.and_true,hw]
 simp only[vcs]
 refine⟨fun h=>by simp only[offerE,if_pos h],fun h=>?_⟩
 have hz:simpleE p.classes.length x=0:=Classical.not_not.1 h
 have hx:=simple_zero hz
 refine⟨fun h3=>by simp[offerE,hz,h3],fun h3=>⟨⟨hp,by omega,?_⟩,fun h4=>?_,fun h4=>?_⟩⟩
 ·intro y hy
  rw[List.mem_singleton.1 hy]
  exact⟨hx.1,hx.2.1,hx.2.2.2.2⟩
 ·simp[offerE,hz,h3,h4]
 ·simp[offerE,hz,h3,h4]
def L5:List SCtr:=r118::r119::L4
theorem hL5:∀c∈L5,Holds Try.prog c:=by
 simp only[L5,List.forall_mem_cons]
 exact⟨h118,h119,hL4⟩
def Off.key (o:Off):BKey:=⟨o.bidder,o.want⟩
def checkL (p:Prob) (seen:List BKey):List Off→Int
 |[]=>0
 |o::r=>if offerE p o≠0 then offerE p o else if o.key∈seen then 7 else checkL p (seen++[o.key]) r
def checkE (p:Prob):Int:=if frameE p≠0 then frameE p else checkL p [] p.offers
def r79:SCtr:=⟨23,Prob,.one codP,fun p=>True,fun p=> .si .i64 (checkE p)⟩
def Λ79 (p:Prob):Nat→LoopAnn
 |7=> .inv Int (fun i=>⟨[(3,.ptr 1 0 20),(5,.mp 2),(19,.row .off p.offers),(20,.si .i64 p.offers.length),(21,.si .i64 i)],
   [.cells p.ss 27 20 false,.cells p.ss 71 20 false,.map .key .b true ((p.offers.take i.toNat).map fun o=>(o.key,true)) ([0,0,0,0,0,0,0],true) true]⟩) (fun s=>iS s 21)
  (fun i=>0≤i∧i≤p.offers.length∧checkL p [] p.offers=checkL p ((p.offers.take i.toNat).map Off.key) (p.offers.drop i.toNat)) (fun i=>(p.offers.length - i).toNat) fun _ _=> .look
 |_=> .look
theorem drop_nth {α:Type} {l:List α} {i:Int} {d:α} (h0:0≤i) (h:i<l.length):l.drop i.toNat=nthD l i.toNat d::l.drop (i+1).toNat:=by
 rw[show(i+1).toNat=i.toNat+1 from by omega,nthD_eq (by omega),List.drop_eq_getElem_cons (by omega)]
theorem find_keys (k:BKey):∀(l:List Off),(findT .key .b k (l.map fun o=>(o.key,true))).getD false=decide (k∈l.map Off.key)
 |[]=>by simp[findT]
 |o::l=>by
  have:=find_keys k l
  simp only[findT] at this ⊢
  rw[List.map_cons,List.find?_cons]
  by_cases h:o.key=k
  ·simp[h]
  ·simp only[h,decide_false,List.map_cons,List.mem_cons]
   rw[this]
   have:¬k=o.key:=fun e=>h e.symm
   simp[this]
theorem omap_same {sk sv:SId} {ka:Bool} {es es':List (sk.T×sv.T)} {kt:List Nat×Bool} {pu:Bool} (h:es=es'):(SObj.map sk sv ka es kt pu).same (.map sk sv ka es' kt pu):=by rw[h];rfl
theorem set_keys {k:BKey} {l:List Off} (h:k∉l.map Off.key):setT .key .b k true (l.map fun o=>(o.key,true))=(l.map fun o=>(o.key,true))++[(k,true)]:=
 setT_none fun p hp=>by
  obtain⟨o,ho,rfl⟩:=List.mem_map.1 hp
  rintro rfl
  exact h (List.mem_map.2 ⟨o,ho,rfl⟩)
theorem h79:Holds Try.prog r79:=by
 refine con (L:=L5) r79 F79 Λ79 (OwnOK.none _) hL5 (by kernel_rfl) (by kernel_rfl) (fun _=>rfl) ?_
 intro p _
 refine vcOf (let z0:=decide (frameE p≠(0:Int));let z1:=SV.si .i64 (checkE p);let z2:=SV.ptr 1 0 20;let z3:=SV.row SId.off p.offers;let z4:=(↑p.offers.length:Int);let z5:=(↑p.offers.length:Int);let z6:=SV.si .i64 z5;let z7:=SV.il .i64 0;let z8:=[SV.si .i64 p.supply.a0,SV.si .i64 p.supply.a1,SV.si .i64 p.supply.a2,SV.si .i64 p.supply.a3,SV.si .i64 p.supply.a4,SV.si .i64 p.supply.a5,SV.si .i64 p.opn.a0,SV.si .i64 p.opn.a1,SV.si .i64 p.opn.a2,SV.si .i64 p.opn.a3,SV.si .i64 p.opn.a4,SV.si .i64 p.opn.a5,SV.si .i64 p.cls.a0,SV.si .i64 p.cls.a1,SV.si .i64 p.cls.a2,SV.si .i64 p.cls.a3,SV.si .i64 p.cls.a4,SV.si .i64 p.cls.a5,SV.row (SId.i .i64) p.classes,z3];let z9:=SObj.cells z8 27 20 false;let z10:=SObj.cells z8 71 20 false;let z11:=([0,0,0,0,0,0,0],true);let z12:=SObj.map SId.key SId.b true [] z11 true;let z13:=checkL p [] p.offers;let z14:=SId.off.dflt;True∧(z0=true→(SV.si .i64 (frameE p)).same z1)∧(z0=false→(((z2.same z2∧(SV.mp 2).same (SV.mp 2)∧z3.same z3∧(SV.si .i64 z4).same z6∧z7.same (SV.si .i64 0)∧True)∧z9.same z9∧z10.same z10∧z12.same z12∧True)∧(0:Int)≤(0:Int)∧(0:Int)≤z5∧z13=z13)∧∀(x:Int),let z15:=List.take x.toNat p.offers;let z16:=nthD p.offers x.toNat z14;let z17:=decide (offerE p z16≠(0:Int));let z18:=BKey.mk z16.bidder z16.want;let z19:=List.map (fun o ↦(o.key,true)) z15;let z20:=(findT SId.key SId.b z18 z19).getD false;let z21:=x+(1:Int);let z22:=SV.si .i64 z21;let z23:=List.take z21.toNat p.offers;(0:Int)≤x∧x≤z5∧z13=checkL p (List.map Off.key z15) (List.drop x.toNat p.offers)→(decide (x<z5)=true→(0:Int)≤x∧x<z4∧x.toNat<p.offers.length∧p.classes.length≤8∧(z17=true→(SV.si .i64 (offerE p z16)).same z1)∧(z17=false→(z20=true→(SV.il .i64 7).same z1)∧(z20=false→inR .i64 z21∧((z2.same z2∧(SV.mp 2).same (SV.mp 2)∧z3.same z3∧z6.same z6∧z22.same z22∧True)∧z9.same z9∧z10.same z10∧(SObj.map SId.key SId.b true (setT SId.key SId.b z18 true z19) z11 true).same (SObj.map SId.key SId.b true (List.map (fun o ↦(o.key,true)) z23) z11 true)∧True)∧((0:Int)≤z21∧z21≤z5∧z13=checkL p (List.map Off.key z23) (List.drop z21.toNat p.offers))∧(z5 - z21).toNat<(z5 - x).toNat)))∧(decide (x<z5)=false→z7.same z1))) (by kernel_rfl) ?_
 simp only[vcs]
 refine⟨fun h=>by simp[checkE,h],fun h=>?_⟩
 have hz:frameE p=0:=Classical.not_not.1 h
 obtain⟨f1,f2,f3,f4,f5⟩:=frame_zero hz
 refine⟨⟨by omega,by omega⟩,?_⟩
 rintro i ⟨hi0,hi1,hi⟩
 refine⟨fun hlt=>?_,fun hge=>?_⟩
 ·rw[drop_nth (d:=SId.off.dflt) hi0 hlt] at hi
  generalize hx:nthD p.offers i.toNat SId.off.dflt=x at hi ⊢
  refine⟨by omega,by omega,by omega,f3,fun he=>?_,fun he=>?_⟩
  ·simp only[checkL,if_pos he] at hi
   simp[checkE,hz,hi]
  ·simp only[checkL,if_neg he] at hi
   have hk:(⟨x.bidder,x.want⟩:BKey)=x.key:=rfl
   simp only[hk]
   refine⟨fun hm=>?_,fun hm=>⟨by omega,?_,⟨by omega,by omega,?_⟩,by omega⟩⟩
   ·have hm2:=of_decide_eq_true ((find_keys _ _).symm.trans hm)
    rw[if_pos hm2] at hi
    simp[checkE,hz,hi]
   ·have hm2:=of_decide_eq_false ((find_keys _ _).symm.trans hm)
    apply omap_same
    rw[set_keys hm2,take_nth (d:=SId.off.dflt) hi0 hlt,hx]
    simp
   ·have hm2:=of_decide_eq_false ((find_keys _ _).symm.trans hm)
    rw[if_neg hm2] at hi
    rw[hi,take_nth (d:=SId.off.dflt) hi0 hlt,hx]
    simp
 ·rw[show i.toNat=p.offers.length from by omega,List.drop_length] at hi
  simp only[checkL] at hi
  simp[checkE,hz,hi]
def pickGo (l:List Off) (last:Int):List Int→Option (List Off)
 |[]=>some []
 |i::r=>if i≤last∨l.length≤i then none else(pickGo l i r).map (nthD l i.toNat SId.off.dflt::·)
def pickOk (p:Prob) (c:List Int):Bool:=(pickGo p.offers (-1) c).isSome
def pickL (p:Prob) (c:List Int):List Off:=(pickGo p.offers (-1) c).getD []
theorem checkL_mem {p:Prob}:∀{l:List Off} {seen:List BKey},checkL p seen l=0→∀x∈l,offerE p x=0
 |[],_,_=>by simp
 |o::r,seen,h=>by
  simp only[checkL] at h
  split at h
  ·rename_i h1;exact absurd h h1
  ·rename_i h1
   split at h
   ·cases h
   ·intro x hx
    rcases List.mem_cons.1 hx with rfl|hx
    ·exact Classical.not_not.1 h1
    ·exact checkL_mem h x hx
theorem check_zero {p:Prob} (h:checkE p=0):frameE p=0∧∀x∈p.offers,offerE p x=0:=by
 unfold checkE at h
 split at h
 ·rename_i h1;exact absurd h h1
 ·rename_i h1;exact⟨Classical.not_not.1 h1,checkL_mem h⟩
theorem offer_zero {p:Prob} {o:Off} (h:offerE p o=0):simpleE p.classes.length o=0∧o.want≠Bun.zero∧fitsB p [o]=true:=by
 unfold offerE at h
 split at h
 ·rename_i h1;exact absurd h h1
 ·rename_i h1
  split at h
  ·cases h
  ·split at h
   ·cases h
   ·rename_i h2 h3
    exact⟨Classical.not_not.1 h1,h2,by simpa using h3⟩
def bitI (m f:Int):Int:=binK.andI .i64 (m / 2^f.toNat) 1
def delI (m f:Int):Int:=binK.andNotI .i64 m (2^f.toNat)
def memL (m:Int):List Int:=[0,1,2,3,4,5,6,7].filter fun f=>decide (bitI m f≠0)
def bitsChk:Bool:=(List.range 256).all fun m=>decide (0≤bitI m 0)&&[0,1,2,3,4,5,6,7].all fun f=>(decide (bitI m f=0)||decide (bitI m f=1))&&(decide (bitI m f=0)||(decide (0≤delI m f)&&decide (delI m f<256)&&decide (memL (delI m f)=(memL m).filter fun g=>decide (g≠f))))
theorem bits_chk:bitsChk=true:=by kernel_rfl
theorem bit_del {m f:Int} (h0:0≤m) (h1:m<256) (g0:0≤f) (g1:f<8):(bitI m f=0∨bitI m f=1)∧(bitI m f≠0→0≤delI m f∧delI m f<256∧memL (delI m f)=(memL m).filter fun g=>decide (g≠f)):=by
 have h:=bits_chk
 simp only[bitsChk,List.all_eq_true,List.mem_range] at h
 have h2:=h m.toNat (by omega)
 simp only[Bool.and_eq_true,List.all_eq_true] at h2
 have h3:=h2.2 f (by have:f=0∨f=1∨f=2∨f=3∨f=4∨f=5∨f=6∨f=7:=by omega
                     rcases this with rfl|rfl|rfl|rfl|rfl|rfl|rfl|rfl<;>simp)
 rw[show((m.toNat:Nat):Int)=m from by omega] at h3
 simp only[Bool.and_eq_true,Bool.or_eq_true,decide_eq_true_eq] at h3
 refine⟨h3.1,fun hb=>?_⟩
 rcases h3.2 with h4|h4
 ·exact absurd h4 hb
 ·exact⟨h4.1.1,h4.1.2,h4.2⟩
def Good (p:Prob):Prop:=p.classes.length≤8∧p.offers.length≤160∧p.supply.ok=true∧p.opn.ok=true∧∀x∈p.offers,0≤x.bidder∧x.bidder<p.classes.length∧x.want.ok=true∧1≤x.value∧x.value≤1000000
def SitOk (a:Sit):Prop:=0≤a.members∧a.members<256∧a.b
def valL (p:Prob):List Int→Bun→Bun→Int
 |[],_,_=>0
 |f::fs,l,o=>(byB p f).foldl (fun v x=>if x.want.le l&&(outS p x).le o then max v (x.value+valL p fs (l.sub x.want) (o.sub (outS p x))) else v) (valL p fs l o)
def bestS (p:Prob) (a:Sit):Int:=valL p (memL a.members) a.left a.opn
theorem sub_ok {a b:Bun} (ha:a.ok=true) (hb:b.ok=true) (h:b.le a=true):(a.sub b).ok=true:=by
 have ha:=Bun.ok_iff.1 ha
 have hb:=Bun.ok_iff.1 hb
 have h:=Bun.le_iff.1 h
 refine Bun.ok_iff.2 ?_
 simp only[Bun.sub]
 omega
theorem good_of {p:Prob} (h:checkE p=0):Good p:=by
 obtain⟨hf,ho⟩:=check_zero h
 obtain⟨f1,f2,f3,f4,f5⟩:=frame_zero hf
 refine⟨f3,f4,f1,?_,fun x hx=>?_⟩
 ·have hs:=Bun.ok_iff.1 f1
  have g0:=prodOk_iff.1 (f2 0 (by omega))
  have g1:=prodOk_iff.1 (f2 1 (by omega))
  have g2:=prodOk_iff.1 (f2 2 (by omega))
  have g3:=prodOk_iff.1 (f2 3 (by omega))
  have g4:=prodOk_iff.1 (f2 4 (by omega))
  have g5:=prodOk_iff.1 (f2 5 (by omega))
  simp[nthD] at g0 g1 g2 g3 g4 g5
  exact Bun.ok_iff.2 (by omega)
 ·have hs:=simple_zero (offer_zero (ho x hx)).1
  exact⟨hs.1,hs.2.1,hs.2.2.2.2,hs.2.2.1,hs.2.2.2.1⟩
def Prob.zero:Prob:=⟨Bun.zero,Bun.zero,Bun.zero,[],[]⟩
def r68:SCtr:=⟨33,Bun,.one (codE .bun),fun _=>True,fun b=> .sb b.ok⟩
theorem h68:Holds Try.prog r68:=by
 refine con (L:=[]) r68 F68 (fun _ _=> .unroll 7) (OwnOK.none _) (by simp) (by kernel_rfl) (by kernel_rfl) (fun _=>rfl) ?_
 intro b _
 refine vcOf (let z0:=decide (b.a0<(0:Int));let z1:=decide ((4:Int)<b.a0);let z2:=decide (b.a1<(0:Int));let z3:=decide ((4:Int)<b.a1);let z4:=decide (b.a2<(0:Int));let z5:=decide ((4:Int)<b.a2);let z6:=decide (b.a3<(0:Int));let z7:=decide ((4:Int)<b.a3);let z8:=decide (b.a4<(0:Int));let z9:=decide ((4:Int)<b.a4);let z10:=decide (b.a5<(0:Int));let z11:=decide ((4:Int)<b.a5);(z0=true→(SV.bl false).same (SV.sb (Bun.ok b)))∧(z0=false→(z1=true→(SV.bl false).same (SV.sb (Bun.ok b)))∧(z1=false→(z2=true→(SV.bl false).same (SV.sb (Bun.ok b)))∧(z2=false→(z3=true→(SV.bl false).same (SV.sb (Bun.ok b)))∧(z3=false→(z4=true→(SV.bl false).same (SV.sb (Bun.ok b)))∧(z4=false→(z5=true→(SV.bl false).same (SV.sb (Bun.ok b)))∧(z5=false→(z6=true→(SV.bl false).same (SV.sb (Bun.ok b)))∧(z6=false→(z7=true→(SV.bl false).same (SV.sb (Bun.ok b)))∧(z7=false→(z8=true→(SV.bl false).same (SV.sb (Bun.ok b)))∧(z8=false→(z9=true→(SV.bl false).same (SV.sb (Bun.ok b)))∧(z9=false→(z10=true→(SV.bl false).same (SV.sb (Bun.ok b)))∧(z10=false→(z11=true→(SV.bl false).same (SV.sb (Bun.ok b)))∧(z11=false→(SV.bl true).same (SV.sb (Bun.ok b))))))))))))))) (by kernel_rfl) ?_
 conv=>zeta
 have hb:=@Bun.ok_iff b
 by_cases h:b.ok=true
 ·have h2:=hb.1 h
  simp only[decide_eq_true_eq,decide_eq_false_iff_not,same_bl_sb,eq_self,true_and,h,if_true]
  repeat' (first|refine And.intro ?_ ?_|intro _)
  all_goals first|trivial|omega|(exfalso;omega)
 ·have h2:=mt hb.2 h
  have h3:b.ok=false:=by simpa using h
  simp only[decide_eq_true_eq,decide_eq_false_iff_not,same_bl_sb,eq_self,true_and,h3]
  repeat' (first|refine And.intro ?_ ?_|intro _)
  all_goals first|trivial|omega|(exfalso;omega)
def coefR (p:Prob) (r:Int) (o:Off):Int:=
 if r - p.classes.length<0 then(if o.bidder=r then 1 else 0)
 else if r - p.classes.length<6 then nthD [o.want.a0,o.want.a1,o.want.a2,o.want.a3,o.want.a4,o.want.a5] (r - p.classes.length).toNat 0
 else if nthD [p.cls.a0,p.cls.a1,p.cls.a2,p.cls.a3,p.cls.a4,p.cls.a5] (r - p.classes.length - 6).toNat 0=0∨p.classes.length≤o.bidder∨nthD [p.cls.a0,p.cls.a1,p.cls.a2,p.cls.a3,p.cls.a4,p.cls.a5] (r - p.classes.length - 6).toNat 0=nthD p.classes o.bidder.toNat 0 then 0
 else nthD [o.want.a0,o.want.a1,o.want.a2,o.want.a3,o.want.a4,o.want.a5] (r - p.classes.length - 6).toNat 0
theorem coefR_eq {p:Prob} {r:Int} {o:Off} (h:o.bidder<p.classes.length):coefR p r o=coefS p r o:=by
 unfold coefR coefS
 have:¬(p.classes.length:Int)≤o.bidder:=by omega
 simp only[this,false_or]
def r110:SCtr:=⟨51,Prob×Int×Off,.cons codP (.cons (codI .i64) (.one (codE .off))),fun a=>a.1.classes.length≤8∧0≤a.2.1∧a.2.1<nrows a.1∧0≤a.2.2.bidder,
 fun a=> .tup [.si .i64 (coefR a.1 a.2.1 a.2.2),.si .i64 (boundS a.1 a.2.1)]⟩
theorem h110:Holds Try.prog r110:=by
 refine con (L:=[]) r110 F110 (fun _ _=> .unroll 7) (OwnOK.none _) (by simp) (by kernel_rfl) (by kernel_rfl) (fun _=>rfl) ?_
 rintro⟨p,r,x⟩ ⟨hp,h1,h2,h3⟩
 simp only[nrows] at hp h1 h2 h3
 refine vcOf (let z0:=(↑p.classes.length:Int);let z1:=decide (x.bidder=r);let z2:=SV.il .i64 1;let z3:=SV.tup [SV.si .i64 (coefR p r x),SV.si .i64 (boundS p r)];let z4:=SV.il .i64 0;let z5:=decide (r<z0+(6:Int));let z6:=(r - z0).toNat;let z7:=[x.want.a0,x.want.a1,x.want.a2,x.want.a3,x.want.a4,x.want.a5];let z8:=r - z0 - (6:Int);let z9:=nthD [p.cls.a0,p.cls.a1,p.cls.a2,p.cls.a3,p.cls.a4,p.cls.a5] z8.toNat (0:Int);let z10:=decide (z9≠(0:Int));let z11:=decide (x.bidder<z0);let z12:=decide (z9≠nthD p.classes x.bidder.toNat (0:Int));let z13:=[SV.si .i64 (nthD [p.opn.a0,p.opn.a1,p.opn.a2,p.opn.a3,p.opn.a4,p.opn.a5] z8.toNat (0:Int))];(decide (r<z0)=true→(z1=true→(SV.tup [z2,z2]).same z3)∧(z1=false→(SV.tup [z4,z2]).same z3))∧(decide (r<z0)=false→inR .i64 (z0+(6:Int))∧(z5=true→inR .i64 (r - z0)∧(0:Int)≤r - z0∧r - z0<(6:Int)∧z6<6∧inR .i64 (r - z0)∧(0:Int)≤r - z0∧r - z0<(6:Int)∧z6<6∧(SV.tup [SV.si .i64 (nthD z7 z6 (0:Int)),SV.si .i64 (nthD [p.supply.a0,p.supply.a1,p.supply.a2,p.supply.a3,p.supply.a4,p.supply.a5] z6 (0:Int))]).same z3)∧(z5=false→inR .i64 (r - z0)∧inR .i64 z8∧(0:Int)≤z8∧z8<(6:Int)∧z8.toNat<6∧(z10=true→(z11=true→(0:Int)≤z8∧z8<(6:Int)∧z8.toNat<6∧(0:Int)≤x.bidder∧x.bidder<z0∧x.bidder.toNat<p.classes.length∧(z12=true→(0:Int)≤z8∧z8<(6:Int)∧z8.toNat<6∧(0:Int)≤z8∧z8<(6:Int)∧z8.toNat<6∧(SV.tup (SV.si .i64 (nthD z7 z8.toNat (0:Int))::z13)).same z3)∧(z12=false→(0:Int)≤z8∧z8<(6:Int)∧z8.toNat<6∧(SV.tup (z4::z13)).same z3))∧(z11=false→(0:Int)≤z8∧z8<(6:Int)∧z8.toNat<6∧(SV.tup (z4::z13)).same z3))∧(z10=false→(0:Int)≤z8∧z8<(6:Int)∧z8.toNat<6∧(SV.tup (z4::z13)).same z3)))) (by kernel_rfl) ?_
 simp only[vcs]
 have b1:r - p.classes.length<0→boundS p r=1:=fun h=>by unfold boundS;rw[if_pos h]
 have b2:¬r - p.classes.length<0→r - p.classes.length<6→boundS p r=nthD [p.supply.a0,p.supply.a1,p.supply.a2,p.supply.a3,p.supply.a4,p.supply.a5] (r - p.classes.length).toNat 0:=fun h h'=>by unfold boundS;rw[if_neg h,if_pos h']
 have b3:¬r - p.classes.length<0→¬r - p.classes.length<6→boundS p r=nthD [p.opn.a0,p.opn.a1,p.opn.a2,p.opn.a3,p.opn.a4,p.opn.a5] (r - p.classes.length - 6).toNat 0:=fun h h'=>by unfold boundS;rw[if_neg h,if_neg h']
 have c1:r - p.classes.length<0→coefR p r x=if x.bidder=r then 1 else 0:=fun h=>by unfold coefR;rw[if_pos h]
 have c2:¬r - p.classes.length<0→r - p.classes.length<6→coefR p r x=nthD [x.want.a0,x.want.a1,x.want.a2,x.want.a3,x.want.a4,x.want.a5] (r - p.classes.length).toNat 0:=fun h h'=>by unfold coefR;rw[if_neg h,if_pos h']
 have c3:=fun(h:¬r - p.classes.length<0) (h':¬r - p.classes.length<6)=>(show coefR p r x=_ by unfold coefR;rw[if_neg h,if_neg h'])
 refine⟨fun ha=>?_,fun ha=>⟨by omega,fun hb=>?_,fun hb=>?_⟩⟩
 ·rw[b1 (by omega),c1 (by omega)]
  exact⟨fun h=>by simp[h],fun h=>by simp[h]⟩
 ·rw[b2 (by omega) (by omega),c2 (by omega) (by omega)]
  refine⟨by omega,by omega,by omega,by omega,by omega,by omega,by omega,by omega,rfl,rfl⟩
 ·rw[b3 (by omega) (by omega),c3 (by omega) (by omega)]
  refine⟨by omega,by omega,by omega,by omega,by omega,fun h4=>⟨fun h5=>⟨by omega,by omega,by omega,by omega,by omega,by omega,fun h6=>⟨by omega,by omega,by omega,by omega,by omega,by omega,(if_neg (by omega)).symm,rfl⟩,fun h6=>⟨by omega,by omega,by omega,(if_pos (by omega)).symm,rfl⟩⟩,fun h5=>⟨by omega,by omega,by omega,(if_pos (by omega)).symm,rfl⟩⟩,fun h4=>⟨by omega,by omega,by omega,(if_pos (by omega)).symm,rfl⟩⟩
def M1:List SCtr:=[r110,r68]
theorem hM1:∀c∈M1,Holds Try.prog c:=by
 simp only[M1,List.forall_mem_cons,List.not_mem_nil,false_implies,implies_true,and_true]
 exact⟨h110,h68⟩
def r69:SCtr:=⟨34,Prob×List Off,.cons codP (.one (codR .off)),fun a=>a.1.classes.length≤8∧a.2.length≤1000∧(∀x∈a.2,0≤x.bidder∧x.bidder<a.1.classes.length∧x.want.ok=true),fun a=> .sb (fitsB a.1 a.2)⟩
def Λ69 (a:Prob×List Off):Nat→LoopAnn
 |2=> .inv Int (fun i=>⟨[(1,.row .off a.2),(2,.ptr 0 0 20),(5,.si .i64 i)],[.cells a.1.ss 27 20 false]⟩) (fun s=>iS s 5)
  (fun i=>0≤i∧i≤nrows a.1∧∀r:Nat,r<i→sumS a.1 a.2 r≤boundS a.1 r) (fun i=>(nrows a.1 - i).toNat)
  fun i=>fun
   |6=> .inv (Int×Int) (fun x=>⟨[(1,.row .off a.2),(2,.ptr 0 0 20),(5,.si .i64 i),(6,.si .i64 x.2),(7,.si .i64 x.1)],[.cells a.1.ss 27 20 false]⟩)
    (fun s=>(iS s 7,iS s 6))
    (fun x=>0≤x.1∧x.1≤a.2.length∧x.2=sumS a.1 (a.2.take x.1.toNat) i) (fun x=>(a.2.length - x.1).toNat) fun _ _=> .look
   |_=> .look
 |_=> .look
theorem h69:Holds Try.prog r69:=by
 refine con (L:=M1) r69 F69 Λ69 (OwnOK.none _) hM1 (by kernel_rfl) (by kernel_rfl) (fun _=>rfl) ?_
 rintro⟨p,l⟩ ⟨hp,hl,hb⟩
 simp only at hp hl hb
 refine vcOf (let z0:=SV.ptr 0 0 20;let z1:=SObj.cells (Prob.ss p) 27 20 false;let z2:=(↑p.classes.length:Int)+(12:Int);let z3:=(↑l.length:Int);((((SV.row SId.off l).same (SV.row SId.off l)∧z0.same z0∧(SV.il .i64 0).same (SV.si .i64 0)∧True)∧z1.same z1∧True)∧(0:Int)≤(0:Int)∧(0:Int)≤nrows p∧∀(r:Nat),(↑r:Int)<(0:Int)→sumS p l (↑r:Int)≤boundS p (↑r:Int))∧∀(x:Int),let z4:=x+(1:Int);let z5:=SV.si .i64 z4;((0:Int)≤x∧x≤nrows p∧∀(r:Nat),(↑r:Int)<x→sumS p l (↑r:Int)≤boundS p (↑r:Int))→inR .i64 z2∧(decide (x<z2)=true→((((SV.row SId.off l).same (SV.row SId.off l)∧z0.same z0∧(SV.si .i64 x).same (SV.si .i64 x)∧(SV.il .i64 0).same (SV.si .i64 0)∧(SV.il .i64 0).same (SV.si .i64 0)∧True)∧z1.same z1∧True)∧(0:Int)≤(0:Int)∧(0:Int)≤z3∧(0:Int)=sumS p [] x)∧∀(x_1:Int×Int),let z6:=decide (x_1.fst<(↑l.length:Int));let z7:=nthD l x_1.fst.toNat SId.off.dflt;let z8:=x_1.snd+coefR p x z7;let z9:=x_1.fst+(1:Int);let z10:=SV.si .i64 x;let z11:=SV.si .i64 z8;let z12:=SV.si .i64 z9;let z13:=decide (boundS p x<x_1.snd);(0:Int)≤x_1.fst∧x_1.fst≤z3∧x_1.snd=sumS p (List.take x_1.fst.toNat l) x→(z6=true→(0:Int)≤x_1.fst∧x_1.fst<(↑l.length:Int)∧x_1.fst.toNat<l.length∧(p.classes.length≤8∧(0:Int)≤x∧x<nrows p∧(0:Int)≤z7.bidder)∧inR .i64 z8∧inR .i64 z9∧(((SV.row SId.off l).same (SV.row SId.off l)∧z0.same z0∧z10.same z10∧z11.same z11∧z12.same z12∧True)∧z1.same z1∧True)∧((0:Int)≤z9∧z9≤z3∧z8=sumS p (List.take z9.toNat l) x)∧(z3 - z9).toNat<(z3 - x_1.fst).toNat)∧(z6=false→(p.classes.length≤8∧(0:Int)≤x∧x<nrows p∧(0:Int)≤(0:Int))∧(z13=true→(SV.bl false).same (SV.sb (fitsB p l)))∧(z13=false→inR .i64 z4∧(((SV.row SId.off l).same (SV.row SId.off l)∧z0.same z0∧z5.same z5∧True)∧z1.same z1∧True)∧((0:Int)≤z4∧z4≤nrows p∧∀(r:Nat),(↑r:Int)<z4→sumS p l (↑r:Int)≤boundS p (↑r:Int))∧(nrows p - z4).toNat<(nrows p - x).toNat)))∧(decide (x<z2)=false→(SV.bl true).same (SV.sb (fitsB p l)))) (by kernel_rfl) ?_
 simp only[vcs]
 have hn:nrows p=p.classes.length+12:=rfl
 have ho:∀x∈l,x.want.ok=true:=fun x hx=>(hb x hx).2.2
 refine⟨⟨by omega,by omega,fun r hr=>by omega⟩,?_⟩
 rintro i ⟨hi0,hi1,hi⟩
 refine⟨by omega,fun hlt=>⟨⟨by omega,by omega,by simp[sumS]⟩,?_⟩,?_⟩
 ·rintro⟨j,s⟩ ⟨hj0,hj1,hs⟩
  simp only at hj0 hj1 hs ⊢
  have hsb:=@sum_bd p i (l.take j.toNat) fun x hx=>ho x (List.mem_of_mem_take hx)
  have hlen:(l.take j.toNat).length≤l.length:=by simp;omega
  refine⟨fun hjl=>?_,fun hjl=>?_⟩
  ·have hm:=hb _ (nthD_mem (d:=SId.off.dflt) (show j.toNat<l.length by omega))
   have hc:=@coef_bd p i _ hm.2.2
   have hst:=@sum_take p i l j SId.off.dflt hj0 hjl
   rw[coefR_eq hm.2.1]
   refine⟨by omega,by omega,by omega,⟨hp,by omega,by omega,hm.1⟩,by omega,by omega,⟨by omega,by omega,by omega⟩,by omega⟩
  ·have:j.toNat=l.length:=by omega
   rw[this,List.take_length] at hs
   refine⟨⟨hp,by omega,by omega,by omega⟩,fun hgt=>?_,fun hle=>⟨by omega,⟨by omega,by omega,fun r hr=>?_⟩,by omega⟩⟩
   ·symm
    rw[Bool.eq_false_iff]
    intro hf
    have:=fits_iff.1 hf i.toNat (by omega)
    rw[show((i.toNat:Nat):Int)=i from by omega] at this
    omega
   ·by_cases hr2:(r:Int)<i
    ·exact hi r hr2
    ·have:(r:Int)=i:=by omega
     rw[this]
     omega
 ·intro hge
  symm
  exact fits_iff.2 fun r hr=>hi r (by omega)
def r24:SCtr:=⟨21,Prob,.one codP,fun p=>True,fun p=> .si .i64 (checkE p)⟩
def Λ24 (p:Prob):Nat→LoopAnn
 |11=> .inv Int (fun k=>⟨[(1,.ptr 0 0 20),(4,.si .i64 k)],[.cells p.ss 27 20 false]⟩) (fun s=>iS s 4) (fun k=>0≤k∧k≤p.classes.length∧∀c∈p.classes.take k.toNat,0≤c∧c≤4) (fun k=>(p.classes.length - k).toNat) fun _ _=> .look
 |16=> .inv Int (fun i=>⟨[(1,.ptr 0 0 20),(5,.si .i64 i)],[.cells p.ss 27 20 false]⟩) (fun s=>iS s 5)
  (fun i=>0≤i∧i≤p.offers.length∧checkL p [] p.offers=checkL p ((p.offers.take i.toNat).map Off.key) (p.offers.drop i.toNat)) (fun i=>(p.offers.length - i).toNat)
  fun i=>fun
   |26=> .inv Int (fun k=>⟨[(1,.ptr 0 0 20),(5,.si .i64 i),(6,.ptr 1 0 8),(7,.si .i64 k)],[.cells p.ss 27 20 false,.cells (encS .off (nthD p.offers i.toNat SId.off.dflt)) 48 8 false]⟩) (fun s=>iS s 7)
    (fun k=>0≤k∧k≤i∧∀j:Nat,j<k→(nthD p.offers j SId.off.dflt).key≠(nthD p.offers i.toNat SId.off.dflt).key) (fun k=>(i - k).toNat) fun _ _=> .look
   |_=> .look
 |4=> .inv Int (fun k=>⟨[(1,.ptr 0 0 20),(3,.si .i64 k)],[.cells p.ss 27 20 false]⟩) (fun s=>iS s 3) (fun k=>0≤k∧k≤6∧∀j:Nat,j<k→prodOk p j) (fun k=>(6 - k).toNat) fun _ _=> .look
 |_=> .look
theorem bun_z {b:Bun}:(decide (b.a0=0)&&(decide (b.a1=0)&&(decide (b.a2=0)&&(decide (b.a3=0)&&(decide (b.a4=0)&&(decide (b.a5=0)&&true))))))=decide (b=Bun.zero):=by
 rw[Bool.eq_iff_iff]
 simp[bun_eq,Bun.zero]
theorem bun_d {b c:Bun}:(decide (b.a0=c.a0)&&(decide (b.a1=c.a1)&&(decide (b.a2=c.a2)&&(decide (b.a3=c.a3)&&(decide (b.a4=c.a4)&&(decide (b.a5=c.a5)&&true))))))=decide (b=c):=by
 rw[Bool.eq_iff_iff]
 simp[bun_eq]
theorem mem_take_nth {α:Type} {l:List α} {i:Int} {d x:α} (h1:i≤l.length) (h:x∈l.take i.toNat):∃j:Nat,(j:Int)<i∧nthD l j d=x:=by
 obtain⟨j,hj,rfl⟩:=List.mem_iff_getElem.1 h
 have hj2:=hj
 simp only[List.length_take] at hj2
 refine⟨j,by omega,?_⟩
 rw[nthD_eq (by omega),List.getElem_take]
theorem h24:Holds Try.prog r24:=by
 refine con (L:=r69::M1) r24 F24 Λ24 (OwnOK.none _) (by simp only[List.forall_mem_cons];exact⟨h69,hM1⟩) (by kernel_rfl) (by kernel_rfl) (fun _=>rfl) ?_
 intro p _
 refine vcOf (let z0:=SV.si .i64 (checkE p);let z1:=SV.ptr 0 0 20;let z2:=SV.il .i64 0;let z3:=SObj.cells (Prob.ss p) 27 20 false;let z4:=[p.cls.a0,p.cls.a1,p.cls.a2,p.cls.a3,p.cls.a4,p.cls.a5];let z5:=[p.opn.a0,p.opn.a1,p.opn.a2,p.opn.a3,p.opn.a4,p.opn.a5];let z6:=[p.supply.a0,p.supply.a1,p.supply.a2,p.supply.a3,p.supply.a4,p.supply.a5];let z7:=p.classes.length;let z8:=(↑z7:Int);let z9:=decide ((8:Int)<z8);let z10:=p.offers.length;let z11:=(↑z10:Int);let z12:=decide ((160:Int)<z11);let z13:=(↑p.classes.length:Int);let z14:=(↑p.offers.length:Int);let z15:=checkL p [] p.offers;let z16:=SId.off.dflt;let z17:=SV.ptr 1 0 8;True∧((!p.supply.ok)=true→(SV.il .i64 4).same z0)∧((!p.supply.ok)=false→(((z1.same z1∧z2.same (SV.si .i64 0)∧True)∧z3.same z3∧True)∧(0:Int)≤(0:Int)∧(0:Int)≤(6:Int)∧∀(j:Nat),(↑j:Int)<(0:Int)→prodOk p j)∧∀(x:Int),let z18:=decide (x<(6:Int));let z19:=nthD z4 x.toNat (0:Int);let z20:=decide (z19<(0:Int));let z21:=decide ((4:Int)<z19);let z22:=nthD z5 x.toNat (0:Int);let z23:=decide (z22<(0:Int));let z24:=nthD z6 x.toNat (0:Int);let z25:=decide (z19=(0:Int));let z26:=x+(1:Int);let z27:=SV.si .i64 z26;((0:Int)≤x∧x≤(6:Int)∧∀(j:Nat),(↑j:Int)<x→prodOk p j)→(z18=true→(0:Int)≤x∧x<(6:Int)∧x.toNat<6∧(z20=true→(SV.il .i64 4).same z0)∧(z20=false→(0:Int)≤x∧x<(6:Int)∧x.toNat<6∧(z21=true→(SV.il .i64 4).same z0)∧(z21=false→(0:Int)≤x∧x<(6:Int)∧x.toNat<6∧(z23=true→(SV.il .i64 4).same z0)∧(z23=false→(0:Int)≤x∧x<(6:Int)∧x.toNat<6∧(0:Int)≤x∧x<(6:Int)∧x.toNat<6∧(decide (z24<z22)=true→(SV.il .i64 4).same z0)∧(decide (z24<z22)=false→(0:Int)≤x∧x<(6:Int)∧x.toNat<6∧(z25=true→(0:Int)≤x∧x<(6:Int)∧x.toNat<6∧(0:Int)≤x∧x<(6:Int)∧x.toNat<6∧(decide (z22≠z24)=true→(SV.il .i64 4).same z0)∧(decide (z22≠z24)=false→inR .i64 z26∧((z1.same z1∧z27.same z27∧True)∧z3.same z3∧True)∧((0:Int)≤z26∧z26≤(6:Int)∧∀(j:Nat),(↑j:Int)<z26→prodOk p j)∧((6:Int) - z26).toNat<((6:Int) - x).toNat))∧(z25=false→inR .i64 z26∧((z1.same z1∧z27.same z27∧True)∧z3.same z3∧True)∧((0:Int)≤z26∧z26≤(6:Int)∧∀(j:Nat),(↑j:Int)<z26→prodOk p j)∧((6:Int) - z26).toNat<((6:Int) - x).toNat))))))∧(z18=false→(z9=true→(SV.il .i64 3).same z0)∧(z9=false→(z12=true→(SV.il .i64 3).same z0)∧(z12=false→(((z1.same z1∧z2.same (SV.si .i64 0)∧True)∧z3.same z3∧True)∧(0:Int)≤(0:Int)∧(0:Int)≤z13∧∀(c:Int),c∈[]→(0:Int)≤c∧c≤(4:Int))∧∀(x:Int),let z28:=nthD p.classes x.toNat (0:Int);let z29:=decide (z28<(0:Int));let z30:=decide ((4:Int)<z28);let z31:=x+(1:Int);let z32:=SV.si .i64 z31;((0:Int)≤x∧x≤z13∧∀(c:Int),c∈List.take x.toNat p.classes→(0:Int)≤c∧c≤(4:Int))→(decide (x<z8)=true→(0:Int)≤x∧x<z8∧x.toNat<z7∧(z29=true→(SV.il .i64 4).same z0)∧(z29=false→(0:Int)≤x∧x<z8∧x.toNat<z7∧(z30=true→(SV.il .i64 4).same z0)∧(z30=false→inR .i64 z31∧((z1.same z1∧z32.same z32∧True)∧z3.same z3∧True)∧((0:Int)≤z31∧z31≤z13∧∀(c:Int),c∈List.take z31.toNat p.classes→(0:Int)≤c∧c≤(4:Int))∧(z13 - z31).toNat<(z13 - x).toNat)))∧(decide (x<z8)=false→(((z1.same z1∧z2.same (SV.si .i64 0)∧True)∧z3.same z3∧True)∧(0:Int)≤(0:Int)∧(0:Int)≤z14∧z15=z15)∧∀(x:Int),let z33:=nthD p.offers x.toNat z16;let z34:=z33.bidder;let z35:=decide (z34<(0:Int));let z36:=decide (z33.value<(1:Int));let z37:=decide ((1000000:Int)<z33.value);let z38:=z33.want;let z39:=decide (z38.a0=(0:Int))&&(decide (z38.a1=(0:Int))&&(decide (z38.a2=(0:Int))&&(decide (z38.a3=(0:Int))&&(decide (z38.a4=(0:Int))&&(decide (z38.a5=(0:Int))&&true)))));let z40:=SObj.cells [SV.si .i64 z34,SV.si .i64 z38.a0,SV.si .i64 z38.a1,SV.si .i64 z38.a2,SV.si .i64 z38.a3,SV.si .i64 z38.a4,SV.si .i64 z38.a5,SV.si .i64 z33.value] 48 8 false;let z41:=x+(1:Int);let z42:=SV.si .i64 z41;(0:Int)≤x∧x≤z14∧z15=checkL p (List.map Off.key (List.take x.toNat p.offers)) (List.drop x.toNat p.offers)→(decide (x<z11)=true→(0:Int)≤x∧x<z11∧x.toNat<z10∧(z35=true→(SV.il .i64 6).same z0)∧(z35=false→(decide (z8≤z34)=true→(SV.il .i64 6).same z0)∧(decide (z8≤z34)=false→(z36=true→(SV.il .i64 4).same z0)∧(z36=false→(z37=true→(SV.il .i64 4).same z0)∧(z37=false→True∧((!z38.ok)=true→(SV.il .i64 4).same z0)∧((!z38.ok)=false→(z39=true→(SV.il .i64 4).same z0)∧(z39=false→(p.classes.length≤8∧1≤1000∧∀(x:Off),x∈[z33]→(0:Int)≤x.bidder∧x.bidder<z13∧x.want.ok=true)∧((!fitsB p [z33])=true→(SV.il .i64 14).same z0)∧((!fitsB p [z33])=false→(((z1.same z1∧(SV.si .i64 x).same (SV.si .i64 x)∧z17.same z17∧z2.same (SV.si .i64 0)∧True)∧z3.same z3∧z40.same z40∧True)∧(0:Int)≤(0:Int)∧(0:Int)≤x∧∀(j:Nat),(↑j:Int)<(0:Int)→(nthD p.offers j z16).key≠z33.key)∧∀(x_1:Int),let z43:=nthD p.offers x_1.toNat z16;let z44:=decide (z43.bidder=z34);let z45:=z43.want;let z46:=decide (z45.a0=z38.a0)&&(decide (z45.a1=z38.a1)&&(decide (z45.a2=z38.a2)&&(decide (z45.a3=z38.a3)&&(decide (z45.a4=z38.a4)&&(decide (z45.a5=z38.a5)&&true)))));let z47:=x_1+(1:Int);let z48:=SV.si .i64 x;let z49:=SV.si .i64 z47;((0:Int)≤x_1∧x_1≤x∧∀(j:Nat),(↑j:Int)<x_1→(nthD p.offers j z16).key≠z33.key)→(decide (x_1<x)=true→(0:Int)≤x_1∧x_1<z11∧x_1.toNat<z10∧(z44=true→(0:Int)≤x_1∧x_1<z11∧x_1.toNat<z10∧(z46=true→(SV.il .i64 7).same z0)∧(z46=false→inR .i64 z47∧((z1.same z1∧z48.same z48∧z17.same z17∧z49.same z49∧True)∧z3.same z3∧z40.same z40∧True)∧((0:Int)≤z47∧z47≤x∧∀(j:Nat),(↑j:Int)<z47→(nthD p.offers j z16).key≠z33.key)∧(x - z47).toNat<(x - x_1).toNat))∧(z44=false→inR .i64 z47∧((z1.same z1∧z48.same z48∧z17.same z17∧z49.same z49∧True)∧z3.same z3∧z40.same z40∧True)∧((0:Int)≤z47∧z47≤x∧∀(j:Nat),(↑j:Int)<z47→(nthD p.offers j z16).key≠z33.key)∧(x - z47).toNat<(x - x_1).toNat))∧(decide (x_1<x)=false→inR .i64 z41∧((z1.same z1∧z42.same z42∧True)∧z3.same z3∧True)∧((0:Int)≤z41∧z41≤z14∧z15=checkL p (List.map Off.key (List.take z41.toNat p.offers)) (List.drop z41.toNat p.offers))∧(z14 - z41).toNat<(z14 - x).toNat)))))))))∧(decide (x<z11)=false→z2.same z0))))))) (by kernel_rfl) ?_
 simp only[bun_z,bun_d]
 simp only[vcs]
 have e4:frameE p=4→(4:Int)=checkE p:=fun h=>by simp[checkE,h]
 have e3:frameE p=3→(3:Int)=checkE p:=fun h=>by simp[checkE,h]
 refine⟨fun hs=>e4 (frame_sup hs),fun hs=>⟨⟨by omega,by omega,fun j hj=>by omega⟩,?_⟩⟩
 rintro k ⟨hk0,hk1,hk⟩
 refine⟨fun hlt=>?_,fun hge=>?_⟩
 ·have bad:¬prodOk p k.toNat→(4:Int)=checkE p:=fun h=>e4 (frame_prod hs (by omega) h)
  have nxt:prodOk p k.toNat→∀(j:Nat),(j:Int)<k+1→prodOk p j:=fun h j hj=>by
   by_cases hj2:(j:Int)<k
   ·exact hk j hj2
   ·rw[show j=k.toNat from by omega];exact h
  repeat' (first|refine And.intro ?_ ?_|intro _)
  all_goals first
   |omega
   |exact bad fun hh=>by have h2:=prodOk_iff.1 hh;omega
   |exact nxt (prodOk_iff.2 (by omega)) _ (by assumption)
 ·have hall:∀j:Nat,j<6→prodOk p j:=fun j hj=>hk j (by omega)
  refine⟨fun h=>e3 (frame_len hs hall (.inl (by omega))),fun h8=>⟨fun h=>e3 (frame_len hs hall (.inr (by omega))),fun h160=>⟨⟨by omega,by omega,by simp⟩,?_⟩⟩⟩
  rintro i ⟨hi0,hi1,hi⟩
  refine⟨fun hlt=>?_,fun hge=>?_⟩
  ·have hm:=nthD_mem (d:=0) (show i.toNat<p.classes.length by omega)
   refine⟨by omega,by omega,by omega,fun h=>e4 (frame_cls hs hall (by omega) hm (by omega)),fun h1=>⟨by omega,by omega,by omega,fun h=>e4 (frame_cls hs hall (by omega) hm (by omega)),fun h2=>⟨by omega,⟨by omega,by omega,?_⟩,by omega⟩⟩⟩
   exact mem_take_next hi0 hlt hi (by omega)
  ·rw[show i.toNat=p.classes.length from by omega,List.take_length] at hi
   have hz:frameE p=0:=frame_ok hs hall (by omega) hi
   have ce:checkE p=checkL p [] p.offers:=by simp[checkE,hz]
   refine⟨⟨by omega,by omega⟩,?_⟩
   rintro i ⟨hi0,hi1,hi⟩
   refine⟨fun hlt=>?_,fun hge=>?_⟩
   ·rw[drop_nth (d:=SId.off.dflt) hi0 hlt] at hi
    generalize hx:nthD p.offers i.toNat SId.off.dflt=x at hi ⊢
    have oe:∀c:Int,c≠0→offerE p x=c→c=checkE p:=fun c hc h=>by
     rw[ce,hi]
     simp only[checkL,h]
     rw[if_pos hc]
    have se:∀c:Int,c≠0→simpleE p.classes.length x=c→c=checkE p:=fun c hc h=>oe c hc (by
     unfold offerE
     rw[if_pos (by omega),h])
    refine⟨by omega,by omega,by omega,fun h1=>?_,fun h1=>⟨fun h2=>?_,fun h2=>⟨fun h3=>?_,fun h3=>⟨fun h4=>?_,fun h4=>⟨fun h5=>?_,fun h5=>⟨fun h6=>?_,fun h6=>?_⟩⟩⟩⟩⟩⟩
    ·exact se 6 (by decide) (by unfold simpleE;rw[if_pos (by omega)])
    ·exact se 6 (by decide) (by unfold simpleE;rw[if_pos (by omega)])
    ·exact se 4 (by decide) (by unfold simpleE;rw[if_neg (by omega),if_pos (by omega)])
    ·exact se 4 (by decide) (by unfold simpleE;rw[if_neg (by omega),if_pos (by omega)])
    ·exact se 4 (by decide) (by unfold simpleE;rw[if_neg (by omega),if_neg (by omega),h5];rfl)
    ·have hs0:simpleE p.classes.length x=0:=by unfold simpleE;rw[if_neg (by omega),if_neg (by omega),h5];rfl
     exact oe 4 (by decide) (by simp[offerE,hs0,h6])
    ·have hs0:simpleE p.classes.length x=0:=by unfold simpleE;rw[if_neg (by omega),if_neg (by omega),h5];rfl
     refine⟨⟨by omega,by omega,fun y hy=>?_⟩,fun h7=>?_,fun h7=>⟨⟨by omega,by omega,fun j hj=>by omega⟩,?_⟩⟩
     ·rw[List.mem_singleton.1 hy]
      exact⟨by omega,by omega,h5⟩
     ·exact oe 14 (by decide) (by simp[offerE,hs0,h6,h7])
     ·have ho0:offerE p x=0:=by simp[offerE,hs0,h6,h7]
      rintro k ⟨hk0,hk1,hk⟩
      have hnx:(nthD p.offers k.toNat SId.off.dflt).key≠x.key→∀j:Nat,(j:Int)<k+1→(nthD p.offers j SId.off.dflt).key≠x.key:=fun h j hj=>by
       by_cases hj2:(j:Int)<k
       ·exact hk j hj2
       ·rw[show j=k.toNat from by omega];exact h
      refine⟨fun hlt2=>⟨by omega,by omega,by omega,fun h8=>⟨by omega,by omega,by omega,fun h9=>?_,fun h9=>⟨by omega,⟨by omega,by omega,?_⟩,by omega⟩⟩,fun h8=>⟨by omega,⟨by omega,by omega,?_⟩,by omega⟩⟩,fun hge2=>⟨by omega,⟨by omega,by omega,?_⟩,by omega⟩⟩
      ·have hk9:(nthD p.offers k.toNat SId.off.dflt).key=x.key:=by
        show BKey.mk _ _=BKey.mk _ _
        rw[h8,h9]
       have hmem:x.key∈(p.offers.take i.toNat).map Off.key:=by
        rw[←hk9]
        refine List.mem_map.2 ⟨_,?_,rfl⟩
        rw[nthD_eq (by omega)]
        exact List.mem_take_iff_getElem.2 ⟨k.toNat,by omega,rfl⟩
       rw[ce,hi]
       simp only[checkL,ho0,ne_eq,not_true,if_false,if_pos hmem]
      ·refine hnx fun e=>h9 ?_
       injection e
      ·refine hnx fun e=>h8 ?_
       injection e
      ·have hnm:x.key∉(p.offers.take i.toNat).map Off.key:=by
        intro hmem
        obtain⟨o,ho,he⟩:=List.mem_map.1 hmem
        obtain⟨j,hj,rfl⟩:=mem_take_nth (d:=SId.off.dflt) hi1 ho
        exact hk j (by omega) he
       rw[hi,take_nth (d:=SId.off.dflt) hi0 hlt,hx]
       simp only[checkL,ho0,ne_eq,not_true,if_false,if_neg hnm,List.map_append,List.map_cons,List.map_nil]
   ·rw[show i.toNat=p.offers.length from by omega,List.drop_length] at hi
    rw[ce,hi]
    rfl
def M2:List SCtr:=r24::r69::M1
theorem hM2:∀c∈M2,Holds Try.prog c:=by
 simp only[M2,List.forall_mem_cons]
 exact⟨h24,h69,hM1⟩
def r109:SCtr:=⟨27,Prob×List Int,.cons codP (.one (codR (.i .i64))),fun a=>a.2.length≤9223372036854775807∧a.1.offers.length≤1000,fun a=> .tup [.row .off (pickL a.1 a.2),.sb (pickOk a.1 a.2)]⟩
def lastI (c:List Int) (i:Int):Int:=if i=0 then -1 else nthD c (i - 1).toNat 0
def Λ109 (a:Prob×List Int):Nat→LoopAnn
 |3=> .inv (Int×List Off) (fun x=>⟨[(1,.row (.i .i64) a.2),(2,.ptr 0 0 20),(6,.ow 1 x.2.length 8),(7,.si .i64 x.1)],
   [.cells a.1.ss 27 20 false,.row .off x.2 48 true]⟩) (fun s=>(iS s 7,oS .off s 1))
  (fun x=>0≤x.1∧x.1≤a.2.length∧(x.2.length≤lastI a.2 x.1+1∧lastI a.2 x.1<1000)∧ -1≤lastI a.2 x.1∧pickGo a.1.offers (-1) a.2=(pickGo a.1.offers (lastI a.2 x.1) (a.2.drop x.1.toNat)).map (x.2++·)) (fun x=>(a.2.length - x.1).toNat) fun _ _=> .look
 |_=> .look
theorem h109:Holds Try.prog r109:=by
 refine con (L:=M2) r109 F109 Λ109 (OwnOK.none _) hM2 (by kernel_rfl) (by kernel_rfl) (fun _=>rfl) ?_
 rintro⟨p,c⟩ ⟨hc,hof⟩
 have hc:c.length≤9223372036854775807:=hc
 have hof:p.offers.length≤1000:=hof
 refine vcOf (let z0:=SId.i .i64;let z1:=SV.ptr 0 0 20;let z2:=SV.ow 1 0 8;let z3:=SObj.cells [SV.si .i64 p.supply.a0,SV.si .i64 p.supply.a1,SV.si .i64 p.supply.a2,SV.si .i64 p.supply.a3,SV.si .i64 p.supply.a4,SV.si .i64 p.supply.a5,SV.si .i64 p.opn.a0,SV.si .i64 p.opn.a1,SV.si .i64 p.opn.a2,SV.si .i64 p.opn.a3,SV.si .i64 p.opn.a4,SV.si .i64 p.opn.a5,SV.si .i64 p.cls.a0,SV.si .i64 p.cls.a1,SV.si .i64 p.cls.a2,SV.si .i64 p.cls.a3,SV.si .i64 p.cls.a4,SV.si .i64 p.cls.a5,SV.row z0 p.classes,SV.row SId.off p.offers] 27 20 false;let z4:=SObj.row SId.off [] 48 true;let z5:=(↑c.length:Int);let z6:=lastI c (0:Int);let z7:=pickGo p.offers (-1:Int) c;let z8:=(↑c.length:Int);let z9:=SV.tup [SV.row SId.off (pickL p c),SV.sb (pickOk p c)];let z10:=p.offers.length;let z11:=(↑z10:Int);let z12:=SId.off.dflt;((((SV.row z0 c).same (SV.row z0 c)∧z1.same z1∧z2.same z2∧(SV.il .i64 0).same (SV.si .i64 0)∧True)∧z3.same z3∧z4.same z4∧True)∧(0:Int)≤(0:Int)∧(0:Int)≤z5∧((0:Int)≤z6+(1:Int)∧z6<(1000:Int))∧(-1:Int)≤z6∧z7=Option.map (fun x ↦((0:Int),[]).snd++x) (pickGo p.offers z6 c))∧∀(x:Int×List Off),let z13:=lastI c x.fst;let z14:=nthD c x.fst.toNat (0:Int);let z15:=decide (z14<(0:Int));let z16:=decide ((0:Int)<x.fst);let z17:=x.fst - (1:Int);let z18:=decide (z14≤nthD c z17.toNat (0:Int));let z19:=x.snd.length+1;let z20:=x.fst+(1:Int);let z21:=x.snd++[nthD p.offers z14.toNat z12];let z22:=SV.si .i64 z20;let z23:=SObj.row SId.off z21 48 true;let z24:=lastI c z20;(0:Int)≤x.fst∧x.fst≤z5∧((↑x.snd.length:Int)≤z13+(1:Int)∧z13<(1000:Int))∧(-1:Int)≤z13∧z7=Option.map (fun x_1 ↦x.snd++x_1) (pickGo p.offers z13 (List.drop x.fst.toNat c))→(decide (x.fst<z8)=true→(0:Int)≤x.fst∧x.fst<z8∧x.fst.toNat<c.length∧(z15=true→(SV.tup [SV.row z0 [],SV.bl false]).same z9)∧(z15=false→(0:Int)≤x.fst∧x.fst<z8∧x.fst.toNat<c.length∧(decide (z11≤z14)=true→(SV.tup [SV.row z0 [],SV.bl false]).same z9)∧(decide (z11≤z14)=false→(z16=true→(0:Int)≤x.fst∧x.fst<z8∧x.fst.toNat<c.length∧inR .i64 z17∧(0:Int)≤z17∧z17<z8∧z17.toNat<c.length∧(z18=true→(SV.tup [SV.row z0 [],SV.bl false]).same z9)∧(z18=false→(0:Int)≤x.fst∧x.fst<z8∧x.fst.toNat<c.length∧(0:Int)≤z14∧z14<z11∧z14.toNat<z10∧x.snd.length=x.snd.length∧z19*64≤140737488355328∧z19≤1000000000000∧inR .i64 z20∧(((SV.row z0 c).same (SV.row z0 c)∧z1.same z1∧(SV.ow 1 z21.length 8).same (SV.ow 1 z21.length 8)∧z22.same z22∧True)∧z3.same z3∧z23.same z23∧True)∧((0:Int)≤z20∧z20≤z5∧((↑z21.length:Int)≤z24+(1:Int)∧z24<(1000:Int))∧(-1:Int)≤z24∧z7=Option.map (fun x ↦(z20,z21).snd++x) (pickGo p.offers z24 (List.drop z20.toNat c)))∧(z5 - z20).toNat<(z5 - x.fst).toNat))∧(z16=false→(0:Int)≤x.fst∧x.fst<z8∧x.fst.toNat<c.length∧(0:Int)≤z14∧z14<z11∧z14.toNat<z10∧x.snd.length=x.snd.length∧z19*64≤140737488355328∧z19≤1000000000000∧inR .i64 z20∧(((SV.row z0 c).same (SV.row z0 c)∧z1.same z1∧(SV.ow 1 z21.length 8).same (SV.ow 1 z21.length 8)∧z22.same z22∧True)∧z3.same z3∧z23.same z23∧True)∧((0:Int)≤z20∧z20≤z5∧((↑z21.length:Int)≤z24+(1:Int)∧z24<(1000:Int))∧(-1:Int)≤z24∧z7=Option.map (fun x ↦(z20,z21).snd++x) (pickGo p.offers z24 (List.drop z20.toNat c)))∧(z5 - z20).toNat<(z5 - x.fst).toNat))))∧(decide (x.fst<z8)=false→x.snd.length=x.snd.length∧(SV.tup [SV.row SId.off x.snd,SV.bl true]).same z9)) (by kernel_rfl) ?_
 simp only[vcs]
 have hbad:pickGo p.offers (-1) c=none→(SV.row (.i .i64) []).same (SV.row .off (pickL p c))∧false=pickOk p c:=fun h=>⟨same_row_nil.2 (by simp[pickL,h]),by simp[pickOk,h]⟩
 refine⟨⟨by omega,by omega,by simp[lastI],by simp[lastI]⟩,?_⟩
 rintro⟨i,out⟩ ⟨hi0,hi1,hlen,hla,hi⟩
 simp only at hi0 hi1 hlen hla hi ⊢
 refine⟨fun hlt=>?_,fun hge=>?_⟩
 ·rw[drop_nth (d:=0) hi0 hlt] at hi
  have hl1:lastI c (i+1)=nthD c i.toNat 0:=by unfold lastI;rw[if_neg (by omega),show i+1 - 1=i by omega]
  have hl2:i≠0→lastI c i=nthD c (i - 1).toNat 0:=fun h=>by unfold lastI;rw[if_neg h]
  have hl3:i=0→lastI c i= -1:=fun h=>by unfold lastI;rw[if_pos h]
  generalize hx:nthD c i.toNat 0=x at hi hl1 ⊢
  simp only[pickGo] at hi
  have hgood:¬(x≤lastI c i∨p.offers.length≤x)→pickGo p.offers (-1) c=(pickGo p.offers (lastI c (i+1)) (c.drop (i+1).toNat)).map fun r=>(out++[nthD p.offers x.toNat SId.off.dflt])++r:=fun h=>by
   rw[if_neg h] at hi
   rw[hi,hl1,Option.map_map]
   congr 1
   funext r
   simp
  have bad:(x≤lastI c i∨p.offers.length≤x)→(SV.row (.i .i64) []).same (SV.row .off (pickL p c))∧false=pickOk p c:=fun h=>hbad (by rw[hi,if_pos h];rfl)
  have hlen2:¬(x≤lastI c i∨p.offers.length≤x)→((out++[nthD p.offers x.toNat SId.off.dflt]).length:Int)≤lastI c (i+1)+1∧lastI c (i+1)<1000:=fun h=>by
   rw[hl1]
   simp only[List.length_append,List.length_singleton]
   omega
  refine⟨by omega,by omega,by omega,fun h1=>bad (.inl (by omega)),fun h1=>⟨by omega,by omega,by omega,fun h2=>bad (.inr (by omega)),fun h2=>⟨fun h3=>⟨by omega,by omega,by omega,by omega,by omega,by omega,by omega,fun h4=>bad (.inl (by rw[hl2 (by omega)];omega)),fun h4=>?_⟩,fun h3=>?_⟩⟩⟩
  ·have:=hl2 (by omega)
   refine⟨by omega,by omega,by omega,by omega,by omega,by omega,by omega,by omega,by omega,⟨by omega,by omega,hlen2 (by omega),by omega,hgood (by omega)⟩,by omega⟩
  ·have:=hl3 (by omega)
   refine⟨by omega,by omega,by omega,by omega,by omega,by omega,by omega,by omega,by omega,⟨by omega,by omega,hlen2 (by omega),by omega,hgood (by omega)⟩,by omega⟩
 ·rw[show i.toNat=c.length from by omega,List.drop_length] at hi
  simp only[pickGo,Option.map_some,List.append_nil] at hi
  exact⟨by simp[pickL,hi],by simp[pickOk,hi]⟩
def sumV:List Off→Int
 |[]=>0
 |x::l=>x.value+sumV l
theorem sumV_append:∀{l m:List Off},sumV (l++m)=sumV l+sumV m
 |[],m=>by simp[sumV]
 |x::l,m=>by simp only[List.cons_append,sumV,@sumV_append l m];omega
theorem sum_val_bd {p:Prob} (hg:Good p):∀{l:List Off},(∀x∈l,x∈p.offers)→0≤sumV l∧sumV l≤1000000*l.length
 |[],_=>by simp[sumV]
 |x::l,h=>by
  have h1:=hg.2.2.2.2 x (h x (by simp))
  have h2:=@sum_val_bd p hg l fun y hy=>h y (by simp[hy])
  simp only[sumV,List.length_cons]
  omega
def cmpL:List Int→List Int→Int
 |[],[]=>0
 |[],_::_=> -1
 |_::_,[]=>1
 |a::l,b::m=>if a<b then -1 else if b<a then 1 else cmpL l m
def r32:SCtr:=⟨11,List Int×List Int,.cons (codR (.i .i64)) (.one (codR (.i .i64))),fun a=>a.1.length≤1000000000000∧a.2.length≤1000000000000,fun a=> .si .i64 (cmpL a.1 a.2)⟩
def Λ32 (a:List Int×List Int):Nat→LoopAnn
 |2=> .inv Int (fun i=>⟨[(0,.row (.i .i64) a.1),(1,.row (.i .i64) a.2),(5,.si .i64 i)],[]⟩) (fun s=>iS s 5)
  (fun i=>0≤i∧i≤a.1.length∧i≤a.2.length∧cmpL a.1 a.2=cmpL (a.1.drop i.toNat) (a.2.drop i.toNat)) (fun i=>(a.1.length - i).toNat) fun _ _=> .look
 |_=> .look
theorem h32:Holds Try.prog r32:=by
 refine con (L:=[]) r32 F32 Λ32 (OwnOK.none _) (by simp) (by kernel_rfl) (by kernel_rfl) (fun _=>rfl) ?_
 rintro⟨a,b⟩ ⟨ha,hb⟩
 refine vcOf (let z0:=SV.row (SId.i .i64) a;let z1:=SV.row (SId.i .i64) b;let z2:=SV.il .i64 0;let z3:=(↑a.length:Int);let z4:=(↑b.length:Int);let z5:=(↑a.length:Int);let z6:=(↑b.length:Int);let z7:=SV.si .i64 (cmpL a b);(((z0.same z0∧z1.same z1∧z2.same (SV.si .i64 0)∧True)∧True)∧(0:Int)≤(0:Int)∧(0:Int)≤z3∧(0:Int)≤z4∧cmpL a b=cmpL a b)∧∀(x:Int),let z8:=nthD a x.toNat (0:Int);let z9:=nthD b x.toNat (0:Int);let z10:=x+(1:Int);let z11:=SV.si .i64 z10;(0:Int)≤x∧x≤z3∧x≤z4∧cmpL a b=cmpL (List.drop x.toNat a) (List.drop x.toNat b)→(decide (x<z5)=true→(decide (x<z6)=true→(0:Int)≤x∧x<z5∧x.toNat<a.length∧(0:Int)≤x∧x<z6∧x.toNat<b.length∧(decide (z8<z9)=true→(SV.il .i64 (-1:Int)).same z7)∧(decide (z8<z9)=false→(0:Int)≤x∧x<z5∧x.toNat<a.length∧(0:Int)≤x∧x<z6∧x.toNat<b.length∧(decide (z9<z8)=true→(SV.il .i64 1).same z7)∧(decide (z9<z8)=false→inR .i64 z10∧((z0.same z0∧z1.same z1∧z11.same z11∧True)∧True)∧((0:Int)≤z10∧z10≤z3∧z10≤z4∧cmpL a b=cmpL (List.drop z10.toNat a) (List.drop z10.toNat b))∧(z3 - z10).toNat<(z3 - x).toNat)))∧(decide (x<z6)=false→(decide (z5<z6)=true→(SV.il .i64 (-1:Int)).same z7)∧(decide (z5<z6)=false→(decide (z6<z5)=true→(SV.il .i64 1).same z7)∧(decide (z6<z5)=false→z2.same z7))))∧(decide (x<z5)=false→(decide (z5<z6)=true→(SV.il .i64 (-1:Int)).same z7)∧(decide (z5<z6)=false→(decide (z6<z5)=true→(SV.il .i64 1).same z7)∧(decide (z6<z5)=false→z2.same z7)))) (by kernel_rfl) ?_
 conv=>zeta
 simp only at ha hb
 simp only[vcs]
 refine⟨⟨by omega,by omega,by omega⟩,?_⟩
 rintro i ⟨hi0,hia,hib,hi⟩
 refine⟨fun h1=>⟨fun h2=>?_,fun h2=>?_⟩,fun h1=>?_⟩
 ·rw[drop_nth (d:=0) hi0 h1,drop_nth (d:=0) hi0 h2] at hi
  simp only[cmpL] at hi
  refine⟨by omega,by omega,by omega,by omega,by omega,by omega,fun h3=>?_,fun h3=>⟨by omega,by omega,by omega,by omega,by omega,by omega,fun h4=>?_,fun h4=>⟨by omega,⟨by omega,by omega,by omega,?_⟩,by omega⟩⟩⟩
  ·rw[if_pos h3] at hi
   exact hi.symm
  ·rw[if_neg h3,if_pos h4] at hi
   exact hi.symm
  ·rw[if_neg h3,if_neg h4] at hi
   exact hi
 ·rw[drop_nth (d:=0) hi0 h1,show i.toNat=b.length from by omega,List.drop_length] at hi
  simp only[cmpL] at hi
  refine⟨by omega,fun h3=>⟨by omega,by omega⟩⟩
 ·rw[show i.toNat=a.length from by omega,List.drop_length] at hi
  refine⟨fun h2=>?_,fun h2=>⟨fun h3=>by omega,fun h3=>?_⟩⟩
  ·rw[←Int.toNat_natCast a.length,drop_nth (d:=0) (by omega) h2] at hi
   exact hi.symm
  ·rw[show a.length=b.length from by omega,List.drop_length] at hi
   exact hi.symm
def sumB (l:List Bun):Bun:=⟨(l.map Bun.a0).sum,(l.map Bun.a1).sum,(l.map Bun.a2).sum,(l.map Bun.a3).sum,(l.map Bun.a4).sum,(l.map Bun.a5).sum⟩
def offsI (p:Prob) (l:List Int):List Off:=l.map fun i=>nthD p.offers i.toNat SId.off.dflt
def FeasL (p:Prob) (L:List Off):Prop:=(L.map Off.bidder).Nodup∧(sumB (L.map Off.want)).le p.supply=true∧(sumB (L.map (outS p))).le p.opn=true
instance (p:Prob) (L:List Off):Decidable (FeasL p L):=by unfold FeasL;infer_instance
def Bun.add (a b:Bun):Bun:=⟨a.a0+b.a0,a.a1+b.a1,a.a2+b.a2,a.a3+b.a3,a.a4+b.a4,a.a5+b.a5⟩
theorem sumB_cons {b:Bun} {l:List Bun}:sumB (b::l)=b.add (sumB l):=by simp[sumB,Bun.add]
def Bun.bd (b:Bun) (n:Int):Prop:=(0≤b.a0∧b.a0≤n)∧(0≤b.a1∧b.a1≤n)∧(0≤b.a2∧b.a2≤n)∧(0≤b.a3∧b.a3≤n)∧(0≤b.a4∧b.a4≤n)∧(0≤b.a5∧b.a5≤n)
structure FitL (p:Prob) (fs:List Int) (l o:Bun) (L:List Off):Prop where
 nd:(L.map Off.bidder).Nodup
 mem:∀x∈L,x∈p.offers∧x.bidder∈fs
 w:(sumB (L.map Off.want)).le l=true
 o:(sumB (L.map (outS p))).le o=true
theorem offsI_append {p:Prob} {l m:List Int}:offsI p (l++m)=offsI p l++offsI p m:=by simp[offsI]
def IncR (i:Int) (k:Nat) (t:List Int):Prop:=t.Pairwise (·<·)∧∀j∈t,i≤j∧j<i+k
def Bun.at (b:Bun) (k:Nat):Int:=nthD [b.a0,b.a1,b.a2,b.a3,b.a4,b.a5] k 0
def r78:SCtr:=⟨19,List Int×Int,.cons (codR (.i .i64)) (.one (codI .i64)),fun a=>a.1.length≤1000000000000,fun a=> .sb (decide (a.2∈a.1))⟩
def Λ78 (a:List Int×Int):Nat→LoopAnn
 |2=> .inv Int (fun i=>⟨[(0,.row (.i .i64) a.1),(1,.si .i64 a.2),(5,.si .i64 i)],[]⟩) (fun s=>iS s 5) (fun i=>0≤i∧i≤a.1.length∧a.2∉a.1.take i.toNat) (fun i=>(a.1.length - i).toNat) fun _ _=> .look
 |_=> .look
theorem h78:Holds Try.prog r78:=by
 refine con (L:=[]) r78 F78 Λ78 (OwnOK.none _) (by simp) (by kernel_rfl) (by kernel_rfl) (fun _=>rfl) ?_
 rintro⟨l,k⟩ (hl:l.length≤1000000000000)
 refine vcOf (let z0:=SV.row (SId.i .i64) l;let z1:=(↑l.length:Int);let z2:=SV.sb (decide (k∈l));(((z0.same z0∧(SV.si .i64 k).same (SV.si .i64 k)∧(SV.il .i64 0).same (SV.si .i64 0)∧True)∧True)∧(0:Int)≤(0:Int)∧(0:Int)≤z1∧(k∈[]→False))∧∀(x:Int),let z3:=decide (x<(↑l.length:Int));let z4:=decide (nthD l x.toNat (0:Int)=k);let z5:=x+(1:Int);let z6:=SV.si .i64 z5;(0:Int)≤x∧x≤z1∧(k∈List.take x.toNat l→False)→(z3=true→(0:Int)≤x∧x<(↑l.length:Int)∧x.toNat<l.length∧(z4=true→(SV.bl true).same z2)∧(z4=false→inR .i64 z5∧((z0.same z0∧(SV.si .i64 k).same (SV.si .i64 k)∧z6.same z6∧True)∧True)∧((0:Int)≤z5∧z5≤z1∧(k∈List.take z5.toNat l→False))∧(z1 - z5).toNat<(z1 - x).toNat))∧(z3=false→(SV.bl false).same z2)) (by kernel_rfl) ?_
 simp only[vcs]
 refine⟨⟨by omega,by omega,by simp⟩,?_⟩
 rintro i ⟨i0,i1,hi⟩
 refine⟨fun hlt=>⟨i0,hlt,by omega,fun he=>?_,fun he=>⟨by omega,⟨by omega,by omega,?_⟩,by omega⟩⟩,fun hge=>?_⟩
 ·have:k∈l:=he▸nthD_mem (show i.toNat<l.length by omega)
  simp[this]
 ·rw[take_nth (d:=0) i0 hlt]
  intro hm
  rcases List.mem_append.1 hm with hm|hm
  ·exact hi hm
  ·rw[List.mem_singleton] at hm
   exact he hm.symm
 ·rw[show i.toNat=l.length by omega,List.take_length] at hi
  symm
  exact decide_eq_false hi
def oI (p:Prob) (i:Int):Off:=nthD p.offers i.toNat SId.off.dflt
def lenT (a:List Int):Nat→Nat
 |0=>0
 |n+1=>if nthD a n 0=0 then lenT a n else n+1
def trimN (a:List Int):List Int:=a.take (lenT a a.length)
def r152:SCtr:=⟨59,List Int,.one (codR (.i .u32)),fun a=>a.length≤1000000000000,fun a=> .row (.i .u32) (trimN a)⟩
def Λ152 (a:List Int):Nat→LoopAnn
 |2=> .inv Int (fun n=>⟨[(0,.row (.i .u32) a),(3,.si .i64 n)],[]⟩) (fun s=>iS s 3) (fun n=>0≤n∧n≤a.length∧lenT a n.toNat=lenT a a.length) (fun n=>n.toNat) fun _ _=> .look
 |_=> .look
theorem h152:Holds Try.prog r152:=by
 refine con (L:=[]) r152 F152 Λ152 (OwnOK.none _) (by simp) (by kernel_rfl) (by kernel_rfl) (fun _=>rfl) ?_
 intro(a:List Int) (h:a.length≤1000000000000)
 refine vcOf (let z0:=SId.i .u32;let z1:=(↑a.length:Int);let z2:=SV.si .i64 z1;let z3:=(↑a.length:Int);let z4:=lenT a a.length;((((SV.row z0 a).same (SV.row z0 a)∧z2.same z2∧True)∧True)∧(0:Int)≤z1∧z1≤z3∧lenT a z1.toNat=z4)∧∀(x:Int),let z5:=decide ((0:Int)<x);let z6:=x - (1:Int);let z7:=decide (nthD a z6.toNat (0:Int)=(0:Int));let z8:=SV.si .i64 z6;(0:Int)≤x∧x≤z3∧lenT a x.toNat=z4→(z5=true→inR .i64 z6∧(0:Int)≤z6∧z6<z1∧z6.toNat<a.length∧(z7=true→inR .i64 z6∧(((SV.row z0 a).same (SV.row z0 a)∧z8.same z8∧True)∧True)∧((0:Int)≤z6∧z6≤z3∧lenT a z6.toNat=z4)∧z6.toNat<x.toNat)∧(z7=false→(0:Int)≤x∧(0:Int)≤x∧0≤x.toNat∧x.toNat≤x.toNat∧x.toNat≤a.length∧(SV.row z0 (List.take (x.toNat - 0) a)).same (SV.row z0 (trimN a))))∧(z5=false→(0:Int)≤x∧(0:Int)≤x∧0≤x.toNat∧x.toNat≤x.toNat∧x.toNat≤a.length∧(SV.row z0 (List.take (x.toNat - 0) a)).same (SV.row z0 (trimN a)))) (by kernel_rfl) ?_
 simp only[vcs]
 refine⟨⟨by omega,by omega,by simp⟩,?_⟩
 rintro n ⟨n0,n1,hn⟩
 have stop:(n.toNat=0∨0<n.toNat∧¬nthD a (n.toNat - 1) 0=0)→List.take (n.toNat - 0) a=trimN a:=fun h=>by
  unfold trimN
  rw[←hn]
  congr 1
  rcases h with h|h
  ·rw[h];rfl
  ·obtain⟨h1,h⟩:=h
   obtain⟨m,hm⟩:∃m,n.toNat=m+1:=⟨n.toNat - 1,by omega⟩
   rw[hm] at h ⊢
   simp only[Nat.add_sub_cancel] at h
   unfold lenT
   rw[if_neg h]
   rfl
 refine⟨fun h0=>⟨by omega,by omega,by omega,by omega,fun hz=>⟨by omega,⟨by omega,by omega,?_⟩,by omega⟩,fun hz=>⟨n0,n0,by omega,by omega,by omega,?_⟩⟩,fun h0=>⟨n0,n0,by omega,by omega,by omega,stop (.inl (by omega))⟩⟩
 ·rw[←hn,show n.toNat=(n - 1).toNat+1 by omega]
  rw[lenT,if_pos hz]
 ·exact stop (.inr ⟨by omega,by rw[show n.toNat - 1=(n - 1).toNat by omega];exact hz⟩)
def valN:List Int→Int
 |[]=>0
 |d::l=>d+4294967296*valN l
def Dig (a:List Int):Prop:=∀d∈a,0≤d∧d<4294967296
def Nrm:List Int→Prop
 |[]=>True
 |d::l=>(l=[]→d≠0)∧Nrm l
theorem dig_cons {d:Int} {l:List Int}:Dig (d::l)↔(0≤d∧d<4294967296)∧Dig l:=by simp[Dig]
theorem dig_take {a:List Int} (h:Dig a) (n:Nat):Dig (a.take n):=fun d hd=>h d (List.mem_of_mem_take hd)
theorem val_nonneg:∀{a:List Int},Dig a→0≤valN a
 |[],_=>Int.le_refl _
 |d::l,h=>by
  obtain⟨h1,h2⟩:=dig_cons.1 h
  have:=val_nonneg h2
  simp only[valN]
  omega
theorem val_zero:∀{a:List Int},Dig a→Nrm a→valN a=0→a=[]
 |[],_,_,_=>rfl
 |d::l,h,hn,hz=>by
  obtain⟨h1,h2⟩:=dig_cons.1 h
  have:=val_nonneg h2
  simp only[valN] at hz
  have hl:=val_zero h2 hn.2 (by omega)
  have:=hn.1 hl
  omega
theorem val_inj:∀{a b:List Int},Dig a→Dig b→Nrm a→Nrm b→valN a=valN b→a=b
 |[],b,_,hb,_,nb,h=>(val_zero hb nb h.symm).symm
 |d::l,[],ha,_,na,_,h=>val_zero ha na h
 |d::l,e::m,ha,hb,na,nb,h=>by
  obtain⟨h1,h2⟩:=dig_cons.1 ha
  obtain⟨h3,h4⟩:=dig_cons.1 hb
  have p1:=val_nonneg h2
  have p2:=val_nonneg h4
  simp only[valN] at h
  have hd:d=e:=by omega
  have hv:valN l=valN m:=by omega
  rw[hd,val_inj h2 h4 na.2 nb.2 hv]
theorem val_snoc:∀{a:List Int} {x:Int},valN (a++[x])=valN a+4294967296^a.length*x
 |[],x=>by simp[valN]
 |d::l,x=>by
  simp only[List.cons_append,valN,val_snoc,List.length_cons,Int.pow_succ,Int.mul_add]
  rw[←Int.mul_assoc,Int.mul_comm 4294967296 (4294967296^l.length)]
  omega
theorem nrm_snoc:∀{a:List Int} {x:Int},x≠0→Nrm (a++[x])
 |[],x,h=>⟨fun _=>h,trivial⟩
 |d::l,x,h=>⟨fun he=>by simp at he,nrm_snoc h⟩
theorem take_snoc {a:List Int} {n:Nat} (h:n<a.length):a.take (n+1)=a.take n++[nthD a n 0]:=by
 rw[List.take_succ_eq_append_getElem h,nthD_eq h]
theorem lenT_val {a:List Int}:∀{n:Nat},n≤a.length→valN (a.take (lenT a n))=valN (a.take n)∧Nrm (a.take (lenT a n))
 |0,_=>by simp[lenT,Nrm]
 |n+1,h=>by
  obtain⟨k1,k2⟩:=@lenT_val a n (by omega)
  have ht:=take_snoc (show n<a.length by omega)
  unfold lenT
  split
  ·rename_i hz
   rw[ht,val_snoc,hz]
   exact⟨by simp[k1],k2⟩
  ·rename_i hz
   rw[ht]
   exact⟨rfl,nrm_snoc hz⟩
theorem trim_val {a:List Int}:valN (trimN a)=valN a∧Nrm (trimN a):=by
 have:=@lenT_val a a.length (Nat.le_refl _)
 rw[List.take_length] at this
 exact this
theorem trim_dig {a:List Int} (h:Dig a):Dig (trimN a):=dig_take h _
theorem trim_len {a:List Int}:(trimN a).length≤a.length:=by unfold trimN;simp;omega
def natF:Nat→Int→List Int
 |0,_=>[]
 |k+1,n=>if n≤0 then[] else(n % 4294967296)::natF k (n / 4294967296)
def natL (n:Int):List Int:=natF n.toNat n
theorem natF_ok:∀{k:Nat} {n:Int},0≤n→n.toNat≤k→valN (natF k n)=n∧Dig (natF k n)∧Nrm (natF k n)
 |0,n,h0,h=>by
  have:n=0:=by omega
  subst this
  exact⟨rfl,by simp[natF,Dig],trivial⟩
 |k+1,n,h0,h=>by
  unfold natF
  split
  ·have:n=0:=by omega
   subst this
   exact⟨rfl,by simp[Dig],trivial⟩
  ·obtain⟨k1,k2,k3⟩:=@natF_ok k (n / 4294967296) (by omega) (by omega)
   refine⟨by simp only[valN,k1];omega,dig_cons.2 ⟨by omega,k2⟩,fun he hz=>?_,k3⟩
   rw[he] at k1
   simp only[valN] at k1
   omega
theorem natL_ok {n:Int} (h:0≤n):valN (natL n)=n∧Dig (natL n)∧Nrm (natL n):=natF_ok h (Nat.le_refl _)
theorem natL_val {a:List Int} (h:Dig a) (hn:Nrm a):natL (valN a)=a:=by
 obtain⟨h1,h2,h3⟩:=natL_ok (val_nonneg h)
 exact val_inj h2 h h3 hn h1
theorem trim_eq {a:List Int} (h:Dig a):trimN a=natL (valN a):=by
 obtain⟨h1,h2⟩:=@trim_val a
 rw[←natL_val (trim_dig h) h2,h1]
theorem val_bdN:∀{a:List Int},Dig a→valN a<4294967296^a.length
 |[],_=>by simp[valN]
 |d::l,h=>by
  obtain⟨h1,h2⟩:=dig_cons.1 h
  have:=val_bdN h2
  simp only[valN,List.length_cons,Int.pow_succ]
  omega
def adC (s t:List Int):Nat→Int
 |0=>0
 |i+1=>(nthD s i 0+adC s t i+nthD t i 0) / 4294967296
def adD (s t:List Int) (i:Nat):Int:=(nthD s i 0+adC s t i+nthD t i 0) % 4294967296
def adR (s t:List Int) (i:Nat):List Int:=(List.range i).map (adD s t)++List.replicate (s.length+1 - i) 0
def big (a:List Int×List Int):List Int:=if a.1.length<a.2.length then a.2 else a.1
def sml (a:List Int×List Int):List Int:=if a.1.length<a.2.length then a.1 else a.2
def r154:SCtr:=⟨72,List Int×List Int,.cons (codR (.i .u32)) (.one (codR (.i .u32))),fun a=>(Dig a.1∧Dig a.2)∧a.1.length≤100000000000∧a.2.length≤100000000000,fun a=> .row (.i .u32) (natL (valN a.1+valN a.2))⟩
def Λ154 (a:List Int×List Int):Nat→LoopAnn
 |6=> .inv Int (fun i=>⟨[(0,.row (.i .u32) (big a)),(1,.row (.i .u32) (sml a)),(5,.ow 0 (adR (big a) (sml a) i.toNat).length 1),(6,.si .u64 (adC (big a) (sml a) i.toNat)),(21,.si .i64 (big a).length),(22,.si .i64 i)],[.row (.i .u32) (adR (big a) (sml a) i.toNat) 110 true]⟩) (fun s=>iS s 22)
  (fun i=>0≤i∧i≤(big a).length) (fun i=>((big a).length - i).toNat) fun _ _=> .look
 |_=> .look
theorem dig_nth {a:List Int} (h:Dig a) (i:Nat):0≤nthD a i 0∧nthD a i 0<4294967296:=by
 by_cases hi:i<a.length
 ·rw[nthD_eq hi];exact h _ (List.getElem_mem hi)
 ·simp[nthD,List.getElem?_eq_none (by omega:a.length≤i)]
theorem nth_out {a:List Int} {i:Nat} (h:a.length≤i):nthD a i 0=0:=by simp[nthD,List.getElem?_eq_none h]
theorem adC_bd {s t:List Int} (hs:Dig s) (ht:Dig t):∀i,0≤adC s t i∧adC s t i≤1
 |0=>by simp[adC]
 |i+1=>by
  have h:=adC_bd hs ht i
  have h1:=dig_nth hs i
  have h2:=dig_nth ht i
  simp only[adC]
  omega
theorem adR_len {s t:List Int} {i:Nat} (h:i≤s.length):(adR s t i).length=s.length+1:=by simp[adR];omega
theorem adR_set {s t:List Int} {i:Nat} {v:Int} (h:i≤s.length):(adR s t i).set i v=(List.range i).map (adD s t)++v::List.replicate (s.length - i) 0:=by
 unfold adR
 have h2:s.length+1 - i=(s.length - i)+1:=by omega
 rw[h2,List.replicate_succ]
 have hl:((List.range i).map (adD s t)).length=i:=by simp
 rw[List.set_append_right _ _ (by omega),hl,Nat.sub_self,List.set_cons_zero]
theorem adR_step {s t:List Int} {i:Nat} (h:i<s.length):adR s t (i+1)=(adR s t i).set i (adD s t i):=by
 rw[adR_set (by omega)]
 unfold adR
 rw[List.range_succ,List.map_append,List.append_assoc]
 congr 1
 have h2:s.length+1 - (i+1)=s.length - i:=by omega
 rw[h2]
 rfl
theorem take_snoc0 {a:List Int} {i:Nat}:valN (a.take (i+1))=valN (a.take i)+4294967296^i*nthD a i 0:=by
 by_cases h:i<a.length
 ·rw[take_snoc h,val_snoc]
  simp[Nat.min_eq_left (Nat.le_of_lt h)]
 ·rw[nth_out (by omega),List.take_of_length_le (by omega),List.take_of_length_le (by omega)]
  simp
theorem ad_val {s t:List Int}:∀i,valN ((List.range i).map (adD s t))+4294967296^i*adC s t i=valN (s.take i)+valN (t.take i)
 |0=>by simp[adC,valN]
 |i+1=>by
  have ih:=@ad_val s t i
  rw[List.range_succ,List.map_append,List.map_cons,List.map_nil,val_snoc,take_snoc0,take_snoc0,Int.pow_succ]
  have hl:((List.range i).map (adD s t)).length=i:=by simp
  rw[hl]
  have hd:adD s t i+4294967296*adC s t (i+1)=nthD s i 0+adC s t i+nthD t i 0:=by
   simp only[adD,adC];omega
  have hm:(4294967296:Int)^i*(adD s t i+4294967296*adC s t (i+1))=4294967296^i*(nthD s i 0+adC s t i+nthD t i 0):=by rw[hd]
  simp only[Int.mul_add] at hm
  rw[←Int.mul_assoc] at hm
  omega
theorem h154:Holds Try.prog r154:=by
 refine con (L:=[r152]) r154 F154 Λ154 (OwnOK.none _) (by simpa using h152) (by kernel_rfl) (by kernel_rfl) (fun _=>rfl) ?_
 rintro⟨a,b⟩ ⟨⟨ha,hb⟩,hla,hlb⟩
 simp only at ha hb hla hlb
 refine vcOf (let z0:=(↑a.length:Int);let z1:=(↑b.length:Int);let z2:=z1+(1:Int);let z3:=SId.i .u32;let z4:=SV.row z3 (big (a,b));let z5:=SV.row z3 (sml (a,b));let z6:=adR (big (a,b)) (sml (a,b)) 0;let z7:=SV.ow 0 z6.length 1;let z8:=(↑(big (a,b)).length:Int);let z9:=SV.si .i64 z8;let z10:=SObj.row z3 z6 110 true;let z11:=(↑(big (a,b)).length:Int);let z12:=(↑(sml (a,b)).length:Int);let z13:=z0+(1:Int);(decide (z0<z1)=true→inR .i64 z2∧(0:Int)≤z2∧z2≤z2∧z2*(4:Int)≤(140737488355328:Int)∧z2≤(1000000000000:Int)∧((((SV.row z3 b).same z4∧(SV.row z3 a).same z5∧(SV.ow 0 z2.toNat 1).same z7∧(SV.il .u64 0).same (SV.si .u64 (adC (big (a,b)) (sml (a,b)) 0))∧(SV.si .i64 z1).same z9∧(SV.il .i64 0).same (SV.si .i64 0)∧True)∧(SObj.row z3 ((0:Int)::List.replicate b.length (0:Int)) 110 true).same z10∧True)∧(0:Int)≤(0:Int)∧(0:Int)≤z8)∧∀(x:Int),let z14:=adR (big (a,b)) (sml (a,b)) x.toNat;let z15:=z14.length;let z16:=x+(1:Int);let z17:=adR (big (a,b)) (sml (a,b)) z16.toNat;let z18:=adC (big (a,b)) (sml (a,b)) x.toNat;let z19:=(nthD (big (a,b)) x.toNat (0:Int) % (18446744073709551616:Int)+z18) % (18446744073709551616:Int);let z20:=(z19+nthD (sml (a,b)) x.toNat (0:Int) % (18446744073709551616:Int)) % (18446744073709551616:Int);let z21:=SV.si .u64 (adC (big (a,b)) (sml (a,b)) z16.toNat);let z22:=SV.si .i64 z16;let z23:=SObj.row z3 z17 110 true;let z24:=z14.set z11.toNat (z18 % (4294967296:Int));(0:Int)≤x∧x≤z8→(decide (x<z8)=true→(0:Int)≤x∧x<z11∧x.toNat<(big (a,b)).length∧(decide (x<z12)=true→(0:Int)≤x∧x<z12∧x.toNat<(sml (a,b)).length∧(0:Int)≤(32:Int)∧(32:Int)≤(64:Int)∧z14.length=z15∧(0:Int)≤x∧x<(↑z15:Int)∧z14.length=z15∧x.toNat<z15∧inR .i64 z16∧((z4.same z4∧z5.same z5∧(SV.ow 0 z14.length 1).same (SV.ow 0 z17.length 1)∧(SV.si .u64 (z20 / (4294967296:Int))).same z21∧z9.same z9∧z22.same z22∧True)∧(SObj.row z3 (z14.set x.toNat (z20 % (4294967296:Int))) 110 true).same z23∧True)∧((0:Int)≤z16∧z16≤z8)∧(z8 - z16).toNat<(z8 - x).toNat)∧(decide (x<z12)=false→(0:Int)≤(32:Int)∧(32:Int)≤(64:Int)∧z14.length=z15∧(0:Int)≤x∧x<(↑z15:Int)∧z14.length=z15∧x.toNat<z15∧inR .i64 z16∧((z4.same z4∧z5.same z5∧(SV.ow 0 z14.length 1).same (SV.ow 0 z17.length 1)∧(SV.si .u64 (z19 / (4294967296:Int))).same z21∧z9.same z9∧z22.same z22∧True)∧(SObj.row z3 (z14.set x.toNat (z19 % (4294967296:Int))) 110 true).same z23∧True)∧((0:Int)≤z16∧z16≤z8)∧(z8 - z16).toNat<(z8 - x).toNat))∧(decide (x<z8)=false→z14.length=z15∧(0:Int)≤z11∧z11<(↑z15:Int)∧z14.length=z15∧z11.toNat<z15∧z14.length=z24.length∧z24.length≤1000000000000∧(SV.row z3 (trimN z24)).same (SV.row z3 (natL (valN a+valN b)))))∧(decide (z0<z1)=false→inR .i64 z13∧(0:Int)≤z13∧z13≤z13∧z13*(4:Int)≤(140737488355328:Int)∧z13≤(1000000000000:Int)∧((((SV.row z3 a).same z4∧(SV.row z3 b).same z5∧(SV.ow 0 z13.toNat 1).same z7∧(SV.il .u64 0).same (SV.si .u64 (adC (big (a,b)) (sml (a,b)) 0))∧(SV.si .i64 z0).same z9∧(SV.il .i64 0).same (SV.si .i64 0)∧True)∧(SObj.row z3 ((0:Int)::List.replicate a.length (0:Int)) 110 true).same z10∧True)∧(0:Int)≤(0:Int)∧(0:Int)≤z8)∧∀(x:Int),let z25:=adR (big (a,b)) (sml (a,b)) x.toNat;let z26:=z25.length;let z27:=x+(1:Int);let z28:=adR (big (a,b)) (sml (a,b)) z27.toNat;let z29:=adC (big (a,b)) (sml (a,b)) x.toNat;let z30:=(nthD (big (a,b)) x.toNat (0:Int) % (18446744073709551616:Int)+z29) % (18446744073709551616:Int);let z31:=(z30+nthD (sml (a,b)) x.toNat (0:Int) % (18446744073709551616:Int)) % (18446744073709551616:Int);let z32:=SV.si .u64 (adC (big (a,b)) (sml (a,b)) z27.toNat);let z33:=SV.si .i64 z27;let z34:=SObj.row z3 z28 110 true;let z35:=z25.set z11.toNat (z29 % (4294967296:Int));(0:Int)≤x∧x≤z8→(decide (x<z8)=true→(0:Int)≤x∧x<z11∧x.toNat<(big (a,b)).length∧(decide (x<z12)=true→(0:Int)≤x∧x<z12∧x.toNat<(sml (a,b)).length∧(0:Int)≤(32:Int)∧(32:Int)≤(64:Int)∧z25.length=z26∧(0:Int)≤x∧x<(↑z26:Int)∧z25.length=z26∧x.toNat<z26∧inR .i64 z27∧((z4.same z4∧z5.same z5∧(SV.ow 0 z25.length 1).same (SV.ow 0 z28.length 1)∧(SV.si .u64 (z31 / (4294967296:Int))).same z32∧z9.same z9∧z33.same z33∧True)∧(SObj.row z3 (z25.set x.toNat (z31 % (4294967296:Int))) 110 true).same z34∧True)∧((0:Int)≤z27∧z27≤z8)∧(z8 - z27).toNat<(z8 - x).toNat)∧(decide (x<z12)=false→(0:Int)≤(32:Int)∧(32:Int)≤(64:Int)∧z25.length=z26∧(0:Int)≤x∧x<(↑z26:Int)∧z25.length=z26∧x.toNat<z26∧inR .i64 z27∧((z4.same z4∧z5.same z5∧(SV.ow 0 z25.length 1).same (SV.ow 0 z28.length 1)∧(SV.si .u64 (z30 / (4294967296:Int))).same z32∧z9.same z9∧z33.same z33∧True)∧(SObj.row z3 (z25.set x.toNat (z30 % (4294967296:Int))) 110 true).same z34∧True)∧((0:Int)≤z27∧z27≤z8)∧(z8 - z27).toNat<(z8 - x).toNat))∧(decide (x<z8)=false→z25.length=z26∧(0:Int)≤z11∧z11<(↑z26:Int)∧z25.length=z26∧z11.toNat<z26∧z25.length=z35.length∧z35.length≤1000000000000∧(SV.row z3 (trimN z35)).same (SV.row z3 (natL (valN a+valN b)))))) (by kernel_rfl) ?_
 simp only[vcs]
 have hbs:(a.length<b.length∧big (a,b)=b∧sml (a,b)=a)∨(¬a.length<b.length∧big (a,b)=a∧sml (a,b)=b):=by
  by_cases h:a.length<b.length
  ·exact .inl ⟨h,if_pos h,if_pos h⟩
  ·exact .inr ⟨h,if_neg h,if_neg h⟩
 generalize big (a,b)=s at*
 generalize sml (a,b)=t at*
 have hrow:∀{u v:List Int},u=v→(SObj.row (.i .u32) u 110 true).same (SObj.row (.i .u32) v 110 true):=by rintro _ _ rfl;rfl
 have how:∀{u v:Nat},u=v→(SV.ow 0 u 1).same (SV.ow 0 v 1):=by rintro _ _ rfl;rfl
 have r0:∀u v:List Int,adR u v 0=0::List.replicate u.length 0:=fun u v=>rfl
 refine⟨fun h=>?_,fun h=>?_⟩
 ·obtain⟨h1,e1,e2⟩:a.length<b.length∧s=b∧t=a:=by
   rcases hbs with h2|h2
   ·exact h2
   ·exact absurd (by omega) h2.1
  subst e1 e2
  have hS:Dig s:=by assumption
  have hT:Dig t:=by assumption
  have hts:t.length≤s.length:=by omega
  have bd:=adC_bd hS hT
  refine⟨⟨by omega,by omega⟩,by omega,by omega,by omega,by omega,⟨⟨⟨rfl,rfl,how (by rw[adR_len (by omega)];omega),rfl,rfl⟩,hrow (r0 s t).symm⟩,by omega,by omega⟩,?_⟩
  rintro i ⟨i0,i1⟩
  have l1:=@adR_len s t i.toNat (by omega)
  have b1:=bd i.toNat
  have d1:=dig_nth hS i.toNat
  have d2:=dig_nth hT i.toNat
  refine⟨fun ilt=>?_,fun ige=>?_⟩
  ·have l2:=@adR_len s t (i.toNat+1) (by omega)
   have e:(i+1).toNat=i.toNat+1:=by omega
   have hst:=adR_step (s:=s) (t:=t) (show i.toNat<s.length by omega)
   refine⟨i0,ilt,by omega,fun ht=>?_,fun ht=>?_⟩
   ·have hv:(((nthD s i.toNat 0 % 18446744073709551616+adC s t i.toNat) % 18446744073709551616+nthD t i.toNat 0 % 18446744073709551616) % 18446744073709551616)=nthD s i.toNat 0+adC s t i.toNat+nthD t i.toNat 0:=by omega
    rw[hv,e]
    exact⟨i0,ht,by omega,by omega,by omega,i0,by omega,by omega,by omega,⟨⟨how (by omega),rfl⟩,hrow hst.symm⟩,by omega,by omega⟩
   ·have hz:=nth_out (a:=t) (i:=i.toNat) (by omega)
    have hv:((nthD s i.toNat 0 % 18446744073709551616+adC s t i.toNat) % 18446744073709551616)=nthD s i.toNat 0+adC s t i.toNat+nthD t i.toNat 0:=by omega
    rw[hv,e]
    exact⟨by omega,by omega,i0,by omega,by omega,by omega,⟨⟨how (by omega),rfl⟩,hrow hst.symm⟩,by omega,by omega⟩
  ·have hi:i.toNat=s.length:=by omega
   have hc:adC s t i.toNat % 4294967296=adC s t i.toNat:=by omega
   rw[hc,Int.toNat_natCast,hi]
   rw[hi] at l1 b1
   refine⟨by omega,by omega,by omega,by simp,by simp;omega,?_⟩
   rw[adR_set (Nat.le_refl _),Nat.sub_self,List.replicate_zero,trim_eq ?_]
   ·rw[val_snoc]
    have hv:=@ad_val s t s.length
    rw[List.take_length,List.take_of_length_le hts] at hv
    have hl:((List.range s.length).map (adD s t)).length=s.length:=by simp
    rw[hl,hv]
    try rw[Int.add_comm]
   ·intro d hd
    rcases List.mem_append.1 hd with hd|hd
    ·obtain⟨j,_,rfl⟩:=List.mem_map.1 hd
     unfold adD
     omega
    ·rw[List.mem_singleton] at hd
     omega
 ·obtain⟨h1,e1,e2⟩:¬a.length<b.length∧s=a∧t=b:=by
   rcases hbs with h2|h2
   ·exact absurd h2.1 (by omega)
   ·exact h2
  subst e1 e2
  have hS:Dig s:=by assumption
  have hT:Dig t:=by assumption
  have hts:t.length≤s.length:=by omega
  have bd:=adC_bd hS hT
  refine⟨⟨by omega,by omega⟩,by omega,by omega,by omega,by omega,⟨⟨⟨rfl,rfl,how (by rw[adR_len (by omega)];omega),rfl,rfl⟩,hrow (r0 s t).symm⟩,by omega,by omega⟩,?_⟩
  rintro i ⟨i0,i1⟩
  have l1:=@adR_len s t i.toNat (by omega)
  have b1:=bd i.toNat
  have d1:=dig_nth hS i.toNat
  have d2:=dig_nth hT i.toNat
  refine⟨fun ilt=>?_,fun ige=>?_⟩
  ·have l2:=@adR_len s t (i.toNat+1) (by omega)
   have e:(i+1).toNat=i.toNat+1:=by omega
   have hst:=adR_step (s:=s) (t:=t) (show i.toNat<s.length by omega)
   refine⟨i0,ilt,by omega,fun ht=>?_,fun ht=>?_⟩
   ·have hv:(((nthD s i.toNat 0 % 18446744073709551616+adC s t i.toNat) % 18446744073709551616+nthD t i.toNat 0 % 18446744073709551616) % 18446744073709551616)=nthD s i.toNat 0+adC s t i.toNat+nthD t i.toNat 0:=by omega
    rw[hv,e]
    exact⟨i0,ht,by omega,by omega,by omega,i0,by omega,by omega,by omega,⟨⟨how (by omega),rfl⟩,hrow hst.symm⟩,by omega,by omega⟩
   ·have hz:=nth_out (a:=t) (i:=i.toNat) (by omega)
    have hv:((nthD s i.toNat 0 % 18446744073709551616+adC s t i.toNat) % 18446744073709551616)=nthD s i.toNat 0+adC s t i.toNat+nthD t i.toNat 0:=by omega
    rw[hv,e]
    exact⟨by omega,by omega,i0,by omega,by omega,by omega,⟨⟨how (by omega),rfl⟩,hrow hst.symm⟩,by omega,by omega⟩
  ·have hi:i.toNat=s.length:=by omega
   have hc:adC s t i.toNat % 4294967296=adC s t i.toNat:=by omega
   rw[hc,Int.toNat_natCast,hi]
   rw[hi] at l1 b1
   refine⟨by omega,by omega,by omega,by simp,by simp;omega,?_⟩
   rw[adR_set (Nat.le_refl _),Nat.sub_self,List.replicate_zero,trim_eq ?_]
   ·rw[val_snoc]
    have hv:=@ad_val s t s.length
    rw[List.take_length,List.take_of_length_le hts] at hv
    have hl:((List.range s.length).map (adD s t)).length=s.length:=by simp
    rw[hl,hv]
    try rw[Int.add_comm]
   ·intro d hd
    rcases List.mem_append.1 hd with hd|hd
    ·obtain⟨j,_,rfl⟩:=List.mem_map.1 hd
     unfold adD
     omega
    ·rw[List.mem_singleton] at hd
     omega
theorem len_lt:∀{a b:List Int},Dig a→Dig b→Nrm b→a.length<b.length→valN a<valN b
 |[],b,_,hb,nb,h=>by
  have h0:=val_nonneg hb
  have hz:valN b≠0:=fun hz=>by rw[val_zero hb nb hz] at h;simp at h
  simp only[valN]
  omega
 |d::l,[],_,_,_,h=>by simp at h
 |d::l,e::m,ha,hb,nb,h=>by
  obtain⟨h1,h2⟩:=dig_cons.1 ha
  obtain⟨h3,h4⟩:=dig_cons.1 hb
  simp only[List.length_cons] at h
  have:=len_lt h2 h4 nb.2 (by omega)
  simp only[valN]
  omega
theorem dig_lt:∀{k:Nat} {a b:List Int},Dig a→Dig b→k<a.length→k<b.length→a.drop (k+1)=b.drop (k+1)→nthD a k 0<nthD b k 0→valN a<valN b
 |_,[],_,_,_,h,_,_,_=>by simp at h
 |_,_::_,[],_,_,_,h,_,_=>by simp at h
 |0,d::l,e::m,ha,hb,_,_,h,hk=>by
  simp only[List.drop_succ_cons,List.drop_zero] at h
  subst h
  simp only[nthD,List.getElem?_cons_zero,Option.getD_some] at hk
  simp only[valN]
  omega
 |k+1,d::l,e::m,ha,hb,h1,h2,h,hk=>by
  obtain⟨a1,a2⟩:=dig_cons.1 ha
  obtain⟨b1,b2⟩:=dig_cons.1 hb
  simp only[List.drop_succ_cons] at h
  simp only[nthD,List.getElem?_cons_succ] at hk
  have:=dig_lt (k:=k) a2 b2 (by simpa using h1) (by simpa using h2) h hk
  simp only[valN]
  omega
theorem drop_nthN {a:List Int} {k:Nat} (h:k<a.length):a.drop k=nthD a k 0::a.drop (k+1):=by rw[nthD_eq h];exact List.drop_eq_getElem_cons h
def cmpN (x y:Int):Int:=if x<y then -1 else if y<x then 1 else 0
def r132:SCtr:=⟨49,List Int×List Int,.cons (codR (.i .u32)) (.one (codR (.i .u32))),fun a=>(Dig a.1∧Dig a.2)∧a.1.length≤1000000000000∧a.2.length≤1000000000000,fun a=> .si .i64 (cmpN (valN a.1) (valN a.2))⟩
def Λ132 (a:List Int×List Int):Nat→LoopAnn
 |7=> .inv Int (fun i=>⟨[(0,.row (.i .u32) (trimN a.1)),(1,.row (.i .u32) (trimN a.2)),(22,.si .i64 (trimN a.1).length),(23,.si .i64 i)],[]⟩) (fun s=>iS s 23)
  (fun i=>0≤i∧i≤(trimN a.1).length∧(trimN a.1).drop ((trimN a.1).length - i.toNat)=(trimN a.2).drop ((trimN a.1).length - i.toNat)) (fun i=>((trimN a.1).length - i).toNat) fun _ _=> .look
 |_=> .look
theorem h132:Holds Try.prog r132:=by
 refine con (L:=[r152]) r132 F132 Λ132 (OwnOK.none _) (by simpa using h152) (by kernel_rfl) (by kernel_rfl) (fun _=>rfl) ?_
 rintro⟨a,b⟩ ⟨⟨ha,hb⟩,hla,hlb⟩
 simp only at ha hb hla hlb
 refine vcOf (let z0:=(trimN a).length;let z1:=(↑z0:Int);let z2:=(trimN b).length;let z3:=(↑z2:Int);let z4:=SV.si .i64 (cmpN (valN a) (valN b));let z5:=SV.row (SId.i .u32) (trimN a);let z6:=SV.row (SId.i .u32) (trimN b);let z7:=(trimN a).length;let z8:=(↑z7:Int);let z9:=SV.si .i64 z8;let z10:=SV.il .i64 0;let z11:=z1 - (1:Int);a.length≤1000000000000∧b.length≤1000000000000∧(decide (z1≠z3)=true→(decide (z1<z3)=true→(SV.il .i64 (-1:Int)).same z4)∧(decide (z1<z3)=false→(SV.il .i64 1).same z4))∧(decide (z1≠z3)=false→(((z5.same z5∧z6.same z6∧(SV.si .i64 z1).same z9∧z10.same (SV.si .i64 0)∧True)∧True)∧(0:Int)≤(0:Int)∧(0:Int)≤z8∧List.drop (z7 - 0) (trimN a)=List.drop (z7 - 0) (trimN b))∧∀(x:Int),let z12:=(z11 - x).toNat;let z13:=nthD (trimN a) z12 (0:Int);let z14:=nthD (trimN b) z12 (0:Int);let z15:=x+(1:Int);let z16:=SV.si .i64 z15;(0:Int)≤x∧x≤z8∧List.drop (z7 - x.toNat) (trimN a)=List.drop (z7 - x.toNat) (trimN b)→(decide (x<z8)=true→inR .i64 z11∧inR .i64 (z11 - x)∧(0:Int)≤z11 - x∧z11 - x<z1∧z12<z0∧(0:Int)≤z11 - x∧z11 - x<z3∧z12<z2∧(decide (z13<z14)=true→(SV.il .i64 (-1:Int)).same z4)∧(decide (z13<z14)=false→(0:Int)≤z11 - x∧z11 - x<z1∧z12<z0∧(0:Int)≤z11 - x∧z11 - x<z3∧z12<z2∧(decide (z14<z13)=true→(SV.il .i64 1).same z4)∧(decide (z14<z13)=false→inR .i64 z15∧((z5.same z5∧z6.same z6∧z9.same z9∧z16.same z16∧True)∧True)∧((0:Int)≤z15∧z15≤z8∧List.drop (z7 - z15.toNat) (trimN a)=List.drop (z7 - z15.toNat) (trimN b))∧(z8 - z15).toNat<(z8 - x).toNat)))∧(decide (x<z8)=false→z10.same z4))) (by kernel_rfl) ?_
 simp only[vcs]
 obtain⟨va,na⟩:=@trim_val a
 obtain⟨vb,nb⟩:=@trim_val b
 have da:=trim_dig ha
 have db:=trim_dig hb
 have la:=@trim_len a
 rw[←va,←vb]
 generalize trimN a=s at*
 generalize trimN b=t at*
 have lt:valN s<valN t→ -1=cmpN (valN s) (valN t):=fun h=>by unfold cmpN;rw[if_pos h]
 have gt:valN t<valN s→1=cmpN (valN s) (valN t):=fun h=>by unfold cmpN;rw[if_neg (by omega),if_pos h]
 refine⟨hla,hlb,fun hne=>⟨fun h=>lt (len_lt da db nb (by omega)),fun h=>gt (len_lt db da na (by omega))⟩,fun he=>⟨⟨by omega,by omega,?_⟩,?_⟩⟩
 ·rw[List.drop_of_length_le (by omega),List.drop_of_length_le (by omega)]
 rintro i ⟨i0,i1,hd⟩
 refine⟨fun hlt=>?_,fun hge=>?_⟩
 ·have hk:((s.length:Int) - 1 - i).toNat=s.length - 1 - i.toNat:=by omega
  have hk2:s.length - i.toNat=s.length - 1 - i.toNat+1:=by omega
  rw[hk]
  rw[hk2] at hd
  generalize hm:s.length - 1 - i.toNat=m at*
  refine⟨by omega,by omega,by omega,by omega,by omega,by omega,by omega,by omega,fun h=>lt (dig_lt da db (by omega) (by omega) hd h),fun h=>⟨by omega,by omega,by omega,by omega,by omega,by omega,fun h2=>gt (dig_lt db da (by omega) (by omega) hd.symm h2),fun h2=>⟨by omega,⟨by omega,by omega,?_⟩,by omega⟩⟩⟩
  rw[show s.length - (i+1).toNat=m by omega,drop_nthN (show m<s.length by omega),drop_nthN (show m<t.length by omega),hd,show nthD s m 0=nthD t m 0 by omega]
 ·have hz:s.length - i.toNat=0:=by omega
  rw[hz,List.drop_zero,List.drop_zero] at hd
  subst hd
  unfold cmpN
  rw[if_neg (by omega),if_neg (by omega)]
def smQ (d:Int):List Int→List Int×Int
 |[]=>([],0)
 |x::l=>(((smQ d l).2*4294967296+x) / d::(smQ d l).1,((smQ d l).2*4294967296+x) % d)
theorem smQ_len {d:Int}:∀{a:List Int},(smQ d a).1.length=a.length
 |[]=>rfl
 |x::l=>by simp[smQ,smQ_len]
theorem smQ_ok {d:Int} (h0:0<d) (h1:d<4294967296):∀{a:List Int},Dig a→Dig (smQ d a).1∧(0≤(smQ d a).2∧(smQ d a).2<d)∧valN (smQ d a).1*d+(smQ d a).2=valN a
 |[],_=>by simp[smQ,Dig,valN,h0]
 |x::l,h=>by
  obtain⟨h2,h3⟩:=dig_cons.1 h
  obtain⟨i1,⟨i2,i3⟩,i4⟩:=smQ_ok h0 h1 h3
  simp only[smQ]
  generalize (smQ d l).1=q at*
  generalize (smQ d l).2=r at*
  have hm:=Int.emod_nonneg (r*4294967296+x) (show d≠0 by omega)
  have hl:=Int.emod_lt_of_pos (r*4294967296+x) h0
  have hq0:0≤(r*4294967296+x) / d:=Int.ediv_nonneg (by omega) (by omega)
  have hq1:(r*4294967296+x) / d<4294967296:=by
   refine Int.ediv_lt_of_lt_mul h0 ?_
   have:(r+1)*4294967296≤d*4294967296:=by omega
   rw[Int.mul_comm]
   omega
  refine⟨dig_cons.2 ⟨⟨hq0,hq1⟩,i1⟩,⟨hm,hl⟩,?_⟩
  simp only[valN]
  have he:=Int.mul_ediv_add_emod (r*4294967296+x) d
  rw[Int.add_mul,Int.mul_assoc,Int.mul_comm ((r*4294967296+x) / d) d]
  rw[←i4]
  omega
theorem smQ_div {d:Int} (h0:0<d) (h1:d<4294967296) {a:List Int} (ha:Dig a):trimN (smQ d a).1=natL (valN a / d)∧(smQ d a).2=valN a % d:=by
 obtain⟨k1,⟨k2,k3⟩,k4⟩:=smQ_ok h0 h1 ha
 rw[trim_eq k1]
 have hv:=val_nonneg k1
 have e1:valN a / d=valN (smQ d a).1:=by
  rw[←k4,Int.add_comm,Int.add_mul_ediv_right _ _ (by omega),Int.ediv_eq_zero_of_lt k2 k3,Int.zero_add]
 have e2:valN a % d=(smQ d a).2:=by
  rw[←k4,Int.add_comm,Int.add_mul_emod_self_right,Int.emod_eq_of_lt k2 k3]
 rw[e1,e2]
 exact⟨rfl,rfl⟩
theorem or_add {r x:Int} (r0:0≤r) (r1:r<4294967296) (x0:0≤x) (x1:x<4294967296):binK.orI .u64 (r*4294967296) x=r*4294967296+x:=by
 obtain⟨m,rfl⟩:=Int.eq_ofNat_of_zero_le r0
 obtain⟨k,rfl⟩:=Int.eq_ofNat_of_zero_le x0
 have h1:(BitVec.ofInt 64 ((m:Int)*4294967296)).toNat=2^32*m:=by
  simp only[BitVec.toNat_ofInt]
  omega
 have h2:(BitVec.ofInt 64 (k:Int)).toNat=k:=by
  simp only[BitVec.toNat_ofInt]
  omega
 have h3:(BitVec.ofInt 64 ((m:Int)*4294967296) |||BitVec.ofInt 64 (k:Int)).toNat=2^32*m+k:=by
  rw[BitVec.toNat_or,h1,h2,Nat.two_pow_add_eq_or_of_lt (by omega)]
 show wrapI .u64 ((BitVec.ofInt 64 ((m:Int)*4294967296) |||BitVec.ofInt 64 (k:Int)).toNat:Nat)=_
 rw[h3,wrapI_eq]
 simp only[IntKind.wrap,IntKind.bits,IntKind.signed]
 simp
 omega
def r167:SCtr:=⟨89,List Int×Int,.cons (codR (.i .u32)) (.one (codI .u32)),fun a=>Dig a.1∧a.1.length≤100000000000∧0<a.2∧a.2<4294967296,fun a=> .tup [.row (.i .u32) (natL (valN a.1 / a.2)),.si .u32 (valN a.1 % a.2)]⟩
def smR (a:List Int) (d:Int) (i:Nat):List Int:=List.replicate (a.length - i) 0++(smQ d (a.drop (a.length - i))).1
def smC (a:List Int) (d:Int) (i:Nat):Int:=(smQ d (a.drop (a.length - i))).2
def Λ167 (a:List Int×Int):Nat→LoopAnn
 |4=> .inv Int (fun i=>⟨[(0,.row (.i .u32) a.1),(1,.si .u32 a.2),(6,.ow 0 (smR a.1 a.2 i.toNat).length 1),(7,.si .u64 (smC a.1 a.2 i.toNat)),(15,.si .i64 a.1.length),(16,.si .i64 i)],[.row (.i .u32) (smR a.1 a.2 i.toNat) 110 true]⟩) (fun s=>iS s 16)
  (fun i=>0≤i∧i≤a.1.length) (fun i=>(a.1.length - i).toNat) fun _ _=> .look
 |_=> .look
theorem smR_len {a:List Int} {d:Int} {i:Nat} (h:i≤a.length):(smR a d i).length=a.length:=by
 simp only[smR,smQ_len,List.length_append,List.length_replicate,List.length_drop]
 omega
theorem drop_cons {a:List Int} {k:Nat} (h:k<a.length):a.drop k=nthD a k 0::a.drop (k+1):=drop_nthN h
theorem rep_set {q:List Int} {y:Int}:∀k,(List.replicate (k+1) 0++q).set k y=List.replicate k 0++y::q
 |0=>by simp
 |k+1=>by
  have:=@rep_set q y k
  rw[List.replicate_succ,List.cons_append,List.set_cons_succ,this,List.replicate_succ,List.cons_append]
theorem u64_in {n:Int} (h0:0≤n) (h1:n<18446744073709551616):inR .u64 n:=by
 show IntKind.u64.wrap n=n
 simp only[IntKind.wrap,IntKind.bits,IntKind.signed]
 simp
 omega
theorem h167:Holds Try.prog r167:=by
 refine con (L:=[r152]) r167 F167 Λ167 (OwnOK.none _) (by simpa using h152) (by kernel_rfl) (by kernel_rfl) (fun _=>rfl) ?_
 rintro⟨a,d⟩ ⟨ha,hla,d0,d1⟩
 simp only at ha hla d0 d1
 refine vcOf (let z0:=(↑a.length:Int);let z1:=SId.i .u32;let z2:=(↑a.length:Int);let z3:=SV.si .i64 z2;let z4:=d % (18446744073709551616:Int);(0:Int)≤z0∧z0≤z0∧z0*(4:Int)≤(140737488355328:Int)∧z0≤(1000000000000:Int)∧((((SV.row z1 a).same (SV.row z1 a)∧(SV.si .u32 d).same (SV.si .u32 d)∧(SV.ow 0 z0.toNat 1).same (SV.ow 0 (smR a d 0).length 1)∧(SV.il .u64 0).same (SV.si .u64 (smC a d 0))∧(SV.si .i64 z0).same z3∧(SV.il .i64 0).same (SV.si .i64 0)∧True)∧(SObj.row z1 (List.replicate z0.toNat (0:Int)) 110 true).same (SObj.row z1 (smR a d 0) 110 true)∧True)∧(0:Int)≤(0:Int)∧(0:Int)≤z2)∧∀(x:Int),let z5:=z0 - (1:Int) - x;let z6:=binK.orI .u64 (smC a d x.toNat*(4294967296:Int) % (18446744073709551616:Int)) (nthD a z5.toNat (0:Int) % (18446744073709551616:Int));let z7:=smR a d x.toNat;let z8:=x+(1:Int);let z9:=SV.si .i64 z8;(0:Int)≤x∧x≤z2→(decide (x<z2)=true→inR .i64 (z0 - (1:Int))∧inR .i64 z5∧(0:Int)≤(32:Int)∧(32:Int)≤(64:Int)∧(0:Int)≤z5∧z5<z0∧z5.toNat<a.length∧z4≠(0:Int)∧inR .u64 (z6.tdiv z4)∧z4≠(0:Int)∧z7.length=z7.length∧(0:Int)≤z5∧z5<(↑z7.length:Int)∧z7.length=z7.length∧z5.toNat<z7.length∧inR .i64 z8∧(((SV.row z1 a).same (SV.row z1 a)∧(SV.si .u32 d).same (SV.si .u32 d)∧(SV.ow 0 z7.length 1).same (SV.ow 0 (smR a d z8.toNat).length 1)∧(SV.si .u64 (z6.tmod z4)).same (SV.si .u64 (smC a d z8.toNat))∧z3.same z3∧z9.same z9∧True)∧(SObj.row z1 (z7.set z5.toNat (z6.tdiv z4 % (4294967296:Int))) 110 true).same (SObj.row z1 (smR a d z8.toNat) 110 true)∧True)∧((0:Int)≤z8∧z8≤z2)∧(z2 - z8).toNat<(z2 - x).toNat)∧(decide (x<z2)=false→z7.length=z7.length∧z7.length≤1000000000000∧(SV.tup [SV.row z1 (trimN z7),SV.si .u32 (smC a d x.toNat % (4294967296:Int))]).same (SV.tup [SV.row z1 (natL (valN a / d)),SV.si .u32 (valN a % d)]))) (by kernel_rfl) ?_
 simp only[vcs]
 have hrow:∀{u v:List Int},u=v→(SObj.row (.i .u32) u 110 true).same (SObj.row (.i .u32) v 110 true):=by rintro _ _ rfl;rfl
 have how:∀{u v:Nat},u=v→(SV.ow 0 u 1).same (SV.ow 0 v 1):=by rintro _ _ rfl;rfl
 have z1:smR a d 0=List.replicate a.length 0:=by simp[smR,smQ]
 have z2:smC a d 0=0:=by simp[smC,smQ]
 refine⟨by omega,by omega,by omega,by omega,⟨⟨⟨how (by rw[smR_len (by omega)];omega),z2.symm⟩,hrow (by rw[z1,Int.toNat_natCast])⟩,by omega,by omega⟩,?_⟩
 rintro i ⟨i0,i1⟩
 have l1:=@smR_len a d i.toNat (by omega)
 have l2:=fun h=>@smR_len a d (i+1).toNat h
 have dd:d % 18446744073709551616=d:=by omega
 refine⟨fun ilt=>?_,fun ige=>?_⟩
 ·have hx:((a.length:Int) - 1 - i).toNat=a.length - 1 - i.toNat:=by omega
  have hk1:a.length - i.toNat=a.length - 1 - i.toNat+1:=by omega
  have hk2:a.length - (i+1).toNat=a.length - 1 - i.toNat:=by omega
  have hR:smR a d i.toNat=List.replicate (a.length - 1 - i.toNat+1) 0++(smQ d (a.drop (a.length - 1 - i.toNat+1))).1:=by unfold smR;rw[hk1]
  have hC:smC a d i.toNat=(smQ d (a.drop (a.length - 1 - i.toNat+1))).2:=by unfold smC;rw[hk1]
  have hR2:smR a d (i+1).toNat=List.replicate (a.length - 1 - i.toNat) 0++(smQ d (a.drop (a.length - 1 - i.toNat))).1:=by unfold smR;rw[hk2]
  have hC2:smC a d (i+1).toNat=(smQ d (a.drop (a.length - 1 - i.toNat))).2:=by unfold smC;rw[hk2]
  have hlt:a.length - 1 - i.toNat<a.length:=by omega
  rw[hx]
  have l3:=l2 (by omega)
  generalize a.length - 1 - i.toNat=k at*
  have hdr:=drop_cons hlt
  have hdig:Dig (a.drop k):=fun z hz=>ha z (List.mem_of_mem_drop hz)
  obtain⟨q1,q2,q3⟩:=smQ_ok d0 d1 (a:=a.drop (k+1)) (fun z hz=>ha z (List.mem_of_mem_drop hz))
  obtain⟨p1,p2,p3⟩:=smQ_ok d0 d1 hdig
  rw[hdr] at hR2 hC2 p1 p2
  simp only[smQ] at hR2 hC2 p1 p2
  have hxd:=dig_nth ha k
  rw[←hC] at hR2 hC2 p1 p2 q2
  have e1:smC a d i.toNat*4294967296 % 18446744073709551616=smC a d i.toNat*4294967296:=by omega
  have e2:nthD a k 0 % 18446744073709551616=nthD a k 0:=by omega
  rw[e1,e2,dd,or_add (by omega) (by omega) hxd.1 hxd.2]
  have hv0:0≤smC a d i.toNat*4294967296+nthD a k 0:=by omega
  rw[Int.tdiv_eq_ediv_of_nonneg hv0,Int.tmod_eq_emod_of_nonneg hv0]
  have hq:=(dig_cons.1 p1).1
  have hqm:(smC a d i.toNat*4294967296+nthD a k 0) / d % 4294967296=(smC a d i.toNat*4294967296+nthD a k 0) / d:=Int.emod_eq_of_lt hq.1 hq.2
  rw[hqm]
  refine⟨by omega,by omega,by omega,by omega,by omega,by omega,by omega,by omega,u64_in hq.1 (by omega),by omega,by omega,by omega,by omega,by omega,⟨⟨how (by omega),hC2.symm⟩,hrow ?_⟩,by omega,by omega⟩
  rw[hR2,hR,rep_set]
 ·have hi:a.length - i.toNat=0:=by omega
  have hR:smR a d i.toNat=(smQ d a).1:=by unfold smR;rw[hi];simp
  have hC:smC a d i.toNat=(smQ d a).2:=by unfold smC;rw[hi];simp
  obtain⟨k1,k2⟩:=smQ_div d0 d1 ha
  have hm:=Int.emod_nonneg (valN a) (show d≠0 by omega)
  have hl:=Int.emod_lt_of_pos (valN a) d0
  refine⟨by omega,by rw[hR,k1],?_⟩
  rw[hC,k2]
  omega
def digK:Nat→Int→List Int
 |0,_=>[]
 |k+1,x=>x % 4294967296::digK k (x / 4294967296)
theorem digK_len:∀{k:Nat} {x:Int},(digK k x).length=k
 |0,_=>rfl
 |k+1,x=>by simp[digK,digK_len]
theorem digK_dig:∀{k:Nat} {x:Int},Dig (digK k x)
 |0,_=>by simp[digK,Dig]
 |k+1,x=>dig_cons.2 ⟨by omega,digK_dig⟩
theorem digK_eq:∀{l:List Int},Dig l→digK l.length (valN l)=l
 |[],_=>rfl
 |d::l,h=>by
  obtain⟨h1,h2⟩:=dig_cons.1 h
  simp only[List.length_cons,digK,valN]
  have e1:(d+4294967296*valN l) % 4294967296=d:=by omega
  have e2:(d+4294967296*valN l) / 4294967296=valN l:=by omega
  rw[e1,e2,digK_eq h2]
theorem digK_of {l:List Int} {k:Nat} {x:Int} (h:Dig l) (hk:l.length=k) (hx:valN l=x):l=digK k x:=by
 subst hk hx
 exact(digK_eq h).symm
theorem pow_pos (k:Nat):(0:Int)<4294967296^k:=Int.pow_pos (by decide)
theorem digK_val:∀{k:Nat} {x:Int},0≤x→x<4294967296^k→valN (digK k x)=x
 |0,x,h0,h1=>by simp only[Int.pow_zero] at h1;simp only[digK,valN];omega
 |k+1,x,h0,h1=>by
  rw[Int.pow_succ] at h1
  simp only[digK,valN]
  rw[digK_val (k:=k) (x:=x / 4294967296) (by omega) (by omega)]
  omega
theorem val_app:∀{a b:List Int},valN (a++b)=valN a+4294967296^a.length*valN b
 |[],b=>by simp[valN]
 |d::l,b=>by
  simp only[List.cons_append,valN,val_app,List.length_cons,Int.pow_succ,Int.mul_add]
  rw[←Int.mul_assoc,Int.mul_comm 4294967296 (4294967296^l.length)]
  omega
theorem val_set:∀{l:List Int} {j:Nat} {v:Int},j<l.length→valN (l.set j v)=valN l+4294967296^j*(v - nthD l j 0)
 |[],_,_,h=>by simp at h
 |d::l,0,v,_=>by simp[valN,nthD];omega
 |d::l,j+1,v,h=>by
  have ih:=@val_set l j v (by simpa using h)
  have hn:nthD (d::l) (j+1) 0=nthD l j 0:=by simp[nthD]
  simp only[List.set_cons_succ,valN,ih,hn,Int.pow_succ,Int.mul_add]
  rw[←Int.mul_assoc,Int.mul_comm 4294967296 (4294967296^j)]
  omega
theorem dig_set {l:List Int} {j:Nat} {v:Int} (h:Dig l) (h0:0≤v) (h1:v<4294967296):Dig (l.set j v):=by
 intro d hd
 rcases List.mem_or_eq_of_mem_set hd with hd|rfl
 ·exact h d hd
 ·exact⟨h0,h1⟩
theorem dig_drop {a:List Int} (h:Dig a) (n:Nat):Dig (a.drop n):=fun d hd=>h d (List.mem_of_mem_drop hd)
theorem dig_app {a b:List Int} (ha:Dig a) (hb:Dig b):Dig (a++b):=fun d hd=>by
 rcases List.mem_append.1 hd with h|h
 ·exact ha d h
 ·exact hb d h
theorem nth_set_self {l:List Int} {j:Nat} {v:Int} (h:j<l.length):nthD (l.set j v) j 0=v:=by
 unfold nthD
 rw[List.getElem?_set_self h];rfl
theorem nth_set_ne {l:List Int} {i j:Nat} {v:Int} (h:i≠j):nthD (l.set i v) j 0=nthD l j 0:=by
 unfold nthD
 rw[List.getElem?_set_ne h]
theorem nth_small:∀{l:List Int} {i j:Nat},Dig l→valN l<4294967296^i→i≤j→nthD l j 0=0
 |[],_,_,_,_,_=>by simp[nthD]
 |d::l,0,j,h,hv,hj=>by
  obtain⟨h1,h2⟩:=dig_cons.1 h
  have:=val_nonneg h2
  simp only[valN,Int.pow_zero] at hv
  have hd:d=0:=by omega
  have hl:valN l=0:=by omega
  cases j with
  |zero=>simp[nthD,hd]
  |succ j=>
   have:=nth_small (l:=l) (i:=0) (j:=j) h2 (by simp;omega) (by omega)
   simpa[nthD] using this
 |d::l,i+1,j,h,hv,hj=>by
  obtain⟨h1,h2⟩:=dig_cons.1 h
  cases j with
  |zero=>omega
  |succ j=>
   rw[Int.pow_succ] at hv
   simp only[valN] at hv
   have:=nth_small (l:=l) (i:=i) (j:=j) h2 (by omega) (by omega)
   simpa[nthD] using this
def mulI (o b:List Int) (x:Int) (i:Nat):Nat→List Int×Int
 |0=>(o,0)
 |k+1=>((mulI o b x i k).1.set (i+k) ((x*nthD b k 0+nthD (mulI o b x i k).1 (i+k) 0+(mulI o b x i k).2) % 4294967296),(x*nthD b k 0+nthD (mulI o b x i k).1 (i+k) 0+(mulI o b x i k).2) / 4294967296)
theorem mulI_ok {o b:List Int} {x:Int} {i:Nat} (ho:Dig o) (hb:Dig b) (x0:0≤x) (x1:x<4294967296):∀{k:Nat},i+k≤o.length→
  Dig (mulI o b x i k).1∧(mulI o b x i k).1.length=o.length∧(0≤(mulI o b x i k).2∧(mulI o b x i k).2<4294967296)∧(∀j,i+k≤j→nthD (mulI o b x i k).1 j 0=nthD o j 0)∧
  valN (mulI o b x i k).1+4294967296^(i+k)*(mulI o b x i k).2=valN o+4294967296^i*(x*valN (b.take k))
 |0,h=>by simp[mulI,ho,valN]
 |k+1,h=>by
  obtain⟨h1,h2,⟨h3,h4⟩,h5,h6⟩:=@mulI_ok o b x i ho hb x0 x1 k (by omega)
  simp only[mulI]
  generalize (mulI o b x i k).1=p at*
  generalize (mulI o b x i k).2=c at*
  have b1:=dig_nth hb k
  have p1:=dig_nth h1 (i+k)
  have hxb:0≤x*nthD b k 0:=Int.mul_nonneg x0 b1.1
  have hxb2:x*nthD b k 0≤4294967295*4294967295:=Int.mul_le_mul (by omega) (by omega) b1.1 (by omega)
  have hlt:i+k<p.length:=by omega
  refine⟨dig_set h1 (by omega) (by omega),by simp[h2],⟨by omega,by omega⟩,fun j hj=>?_,?_⟩
  ·rw[nth_set_ne (by omega)];exact h5 j (by omega)
  ·rw[val_set hlt,take_snoc0,show i+(k+1)=i+k+1 by omega,Int.pow_succ]
   generalize ht:x*nthD b k 0+nthD p (i+k) 0+c=t at*
   have ht2:x*nthD b k 0=t - nthD p (i+k) 0 - c:=by omega
   have e1:4294967296^i*(x*(valN (b.take k)+4294967296^k*nthD b k 0))=4294967296^i*(x*valN (b.take k))+4294967296^(i+k)*(x*nthD b k 0):=by
    rw[Int.pow_add,Int.mul_add,Int.mul_add]
    congr 1
    rw[Int.mul_left_comm x,Int.mul_assoc]
   rw[e1,ht2]
   generalize (4294967296:Int)^(i+k)=B at*
   have e2:B*4294967296*(t / 4294967296)=B*(t - t % 4294967296):=by
    rw[Int.mul_assoc];congr 1;omega
   rw[e2]
   simp only[Int.mul_sub]
   omega
def three:Prob:=⟨⟨1,1,0,0,0,0⟩,⟨1,1,0,0,0,0⟩,Bun.zero,[0,0,0],[⟨0,⟨1,1,0,0,0,0⟩,10⟩,⟨1,⟨1,0,0,0,0,0⟩,6⟩,⟨2,⟨0,1,0,0,0,0⟩,6⟩]⟩
def prt (U:List Int) (j k:Nat):List Int:=(U.drop j).take k
theorem nth_drop {U:List Int} {j k:Nat}:nthD (U.drop j) k 0=nthD U (j+k) 0:=by
 unfold nthD
 rw[List.getElem?_drop]
theorem prt_succ {U:List Int} {j k:Nat}:valN (prt U j (k+1))=valN (prt U j k)+4294967296^k*nthD U (j+k) 0:=by
 unfold prt
 rw[take_snoc0,nth_drop]
theorem prt_set {U:List Int} {j k i:Nat} {d:Int} (h:k≤i):prt (U.set (j+i) d) j k=prt U j k:=by
 unfold prt
 apply List.ext_getElem?
 intro m
 rw[List.getElem?_take,List.getElem?_take]
 split
 ·rw[List.getElem?_drop,List.getElem?_drop,List.getElem?_set_ne (by omega)]
 ·rfl
theorem prt_dig {U:List Int} (h:Dig U) {j k:Nat}:Dig (prt U j k):=dig_take (dig_drop h j) k
theorem prt_len {U:List Int} {j k:Nat} (h:j+k≤U.length):(prt U j k).length=k:=by
 unfold prt
 simp
 omega
theorem prt_bd {U:List Int} (h:Dig U) {j k:Nat}:valN (prt U j k)<4294967296^k:=by
 have h1:=val_bdN (prt_dig h (j:=j) (k:=k))
 have h2:(prt U j k).length≤k:=by unfold prt;simp;omega
 have h3:(4294967296:Int)^(prt U j k).length≤4294967296^k:=by
  have hp:∀{a b:Nat},a≤b→(4294967296:Int)^a≤4294967296^b:=fun {a b} hab=>by
   obtain⟨m,rfl⟩:=Nat.exists_eq_add_of_le hab
   rw[Int.pow_add]
   have q1:=pow_pos a
   have q2:=pow_pos m
   have:=Int.mul_le_mul_of_nonneg_left (show(1:Int)≤4294967296^m by omega) (Int.le_of_lt q1)
   rwa [Int.mul_one] at this
  exact hp h2
 omega
def wth (U:List Int) (j:Nat) (l:List Int):List Int:=U.take j++(l++U.drop (j+l.length))
theorem nth_ext {a b:List Int} (hl:a.length=b.length) (h:∀m,nthD a m 0=nthD b m 0):a=b:=by
 apply List.ext_getElem hl
 intro m h1 h2
 have:=h m
 rwa [nthD_eq h1,nthD_eq h2] at this
theorem wth_len {U l:List Int} {j:Nat} (h:j+l.length≤U.length):(wth U j l).length=U.length:=by
 unfold wth
 simp
 omega
theorem wth_nth {U l:List Int} {j m:Nat} (h:j+l.length≤U.length):nthD (wth U j l) m 0=if m<j then nthD U m 0 else if m<j+l.length then nthD l (m - j) 0 else nthD U m 0:=by
 unfold wth nthD
 split
 ·rename_i h1
  rw[List.getElem?_append_left (by simp;omega),List.getElem?_take,if_pos h1]
 ·rename_i h1
  rw[List.getElem?_append_right (by simp;omega)]
  have hm:min j U.length=j:=by omega
  simp only[List.length_take,hm]
  split
  ·rename_i h2
   rw[List.getElem?_append_left (by omega)]
  ·rename_i h2
   rw[List.getElem?_append_right (by omega),List.getElem?_drop]
   congr 2
   omega
theorem wth_of {U W:List Int} {j k:Nat} {x:Int} (hW:Dig W) (hl:W.length=U.length) (hj:j+k≤U.length) (ho:∀m,(m<j∨j+k≤m)→nthD W m 0=nthD U m 0) (hx:valN (prt W j k)=x):W=wth U j (digK k x):=by
 have hp:prt W j k=digK k x:=digK_of (prt_dig hW) (prt_len (by omega)) hx
 have hk:=@digK_len k x
 apply nth_ext
 ·rw[wth_len (by rw[hk];exact hj),hl]
 ·intro m
  rw[wth_nth (by rw[hk];exact hj),hk]
  split
  ·exact ho m (.inl (by assumption))
  ·split
   ·rw[←hp]
    unfold prt
    have:nthD ((W.drop j).take k) (m - j) 0=nthD (W.drop j) (m - j) 0:=by
     unfold nthD
     rw[List.getElem?_take,if_pos (by omega)]
    rw[this,nth_drop]
    congr 1
    omega
   ·exact ho m (.inr (by omega))
section
variable {P V X v1 v2 u2 top rv ru g r:Int}
theorem kn_gt (hP:0<P) (hV:V=rv+P*(v2+4294967296*v1)) (hX:X=ru+P*(u2+4294967296*top)) (hrv:0≤rv) (hru:ru<P) (hXV:X<4294967296*V) (hV0:0≤V)
  (hg0:0≤g) (hg:g*v1+r=top) (h:4294967296≤g∨r*4294967296+u2<g*v2):X<g*V:=by
 rcases h with h|h
 ·exact Int.lt_of_lt_of_le hXV (Int.mul_le_mul_of_nonneg_right h hV0)
 ·have e1:g*V=g*rv+P*(g*v2+4294967296*(top - r)):=by
   rw[hV,←hg,Int.mul_add,Int.mul_left_comm g P,Int.mul_add g,Int.mul_left_comm g 4294967296 v1]
   congr 3
   omega
  have e2:P*(u2+1+4294967296*top)≤P*(g*v2+4294967296*(top - r)):=Int.mul_le_mul_of_nonneg_left (by omega) (Int.le_of_lt hP)
  have e3:0≤g*rv:=Int.mul_nonneg hg0 hrv
  have e4:P*(u2+1+4294967296*top)=P*(u2+4294967296*top)+P:=by
   rw[show u2+1+4294967296*top=(u2+4294967296*top)+1 by omega,Int.mul_add,Int.mul_one]
  omega
theorem kn_le (hP:0<P) (hV:V=rv+P*(v2+4294967296*v1)) (hX:X=ru+P*(u2+4294967296*top)) (hrv:0≤rv) (hrv2:rv<P) (hru:0≤ru) (hv1:2147483648≤v1) (hv2:0≤v2)
  (hg0:0≤g) (hg1:g<4294967296) (hg:g*v1+r=top) (h:g*v2≤r*4294967296+u2):g*V<X+V:=by
 have e1:g*V=g*rv+P*(g*v2+4294967296*(top - r)):=by
  rw[hV,←hg,Int.mul_add,Int.mul_left_comm g P,Int.mul_add g,Int.mul_left_comm g 4294967296 v1]
  congr 3
  omega
 have e2:P*(g*v2+4294967296*(top - r))≤P*(u2+4294967296*top):=Int.mul_le_mul_of_nonneg_left (by omega) (Int.le_of_lt hP)
 have e3:g*rv≤4294967295*rv:=Int.mul_le_mul_of_nonneg_right (by omega) hrv
 have e4:P*4294967296≤P*(v2+4294967296*v1):=Int.mul_le_mul_of_nonneg_left (by omega) (Int.le_of_lt hP)
 omega
theorem kn_start (hP:0<P) (hV:V=rv+P*(v2+4294967296*v1)) (hX:X=ru+P*(u2+4294967296*top)) (hrv:0≤rv) (hru:ru<P) (hv2:0≤v2) (hu2:u2<4294967296)
  (hg0:0≤g) (hg:g*v1+r=top) (hr:r<v1):X<(g+1)*V:=by
 have e1:(g+1)*V=(g+1)*rv+((g+1)*(P*v2)+P*(4294967296*((g+1)*v1))):=by
  rw[hV,Int.mul_add,Int.mul_add P,Int.mul_add (g+1),Int.mul_left_comm (g+1) P (4294967296*v1),Int.mul_left_comm (g+1) 4294967296]
 have e2:0≤(g+1)*rv:=Int.mul_nonneg (by omega) hrv
 have e3:0≤(g+1)*(P*v2):=Int.mul_nonneg (by omega) (Int.mul_nonneg (Int.le_of_lt hP) hv2)
 have e4:top+1≤(g+1)*v1:=by rw[Int.add_mul,Int.one_mul];omega
 have e5:P*(u2+1+4294967296*top)≤P*(4294967296*((g+1)*v1)):=Int.mul_le_mul_of_nonneg_left (by omega) (Int.le_of_lt hP)
 have e6:P*(u2+1+4294967296*top)=P*(u2+4294967296*top)+P:=by
  rw[show u2+1+4294967296*top=(u2+4294967296*top)+1 by omega,Int.mul_add,Int.mul_one]
 omega
theorem kn_top {u1 un:Int} (hP:0<P) (hV:V=rv+P*(v2+4294967296*v1)) (hX:X=ru+P*(u2+4294967296*(u1+4294967296*un))) (hrv:rv<P) (hru:0≤ru) (hu2:0≤u2) (hu1:0≤u1) (hv2:v2<4294967296)
  (hXV:X<4294967296*V):un≤v1:=by
 by_cases h:un≤v1
 ·exact h
 ·exfalso
  have e1:P*(4294967296*(4294967296*(v1+1)))≤P*(u2+4294967296*(u1+4294967296*un)):=Int.mul_le_mul_of_nonneg_left (by omega) (Int.le_of_lt hP)
  have e2:P*(v2+4294967296*v1)≤P*(4294967296*(v1+1) - 1):=Int.mul_le_mul_of_nonneg_left (by omega) (Int.le_of_lt hP)
  have e3:P*(4294967296*(v1+1) - 1)=P*(4294967296*(v1+1)) - P:=by rw[Int.mul_sub,Int.mul_one]
  have e4:P*(4294967296*(4294967296*(v1+1)))=4294967296*(P*(4294967296*(v1+1))):=by rw[Int.mul_left_comm]
  omega
theorem qr_of {X V q:Int} (h0:q*V≤X) (h1:X<(q+1)*V):X / V=q∧X % V=X - q*V:=by
 rw[Int.add_mul,Int.one_mul] at h1
 have hV:0<V:=by omega
 have hx:X=(X - q*V)+V*q:=by rw[Int.mul_comm V q];omega
 have e1:X / V=q:=by
  conv=>lhs;rw[hx]
  rw[Int.add_mul_ediv_left _ _ (by omega),Int.ediv_eq_zero_of_lt (by omega) (by omega),Int.zero_add]
 refine⟨e1,?_⟩
 rw[Int.emod_def,e1,Int.mul_comm]
end
theorem and_mask {p:Int} (p0:0≤p) (p1:p<18446744073709551616):binK.andI .u64 p 4294967295=p % 4294967296:=by
 obtain⟨m,rfl⟩:=Int.eq_ofNat_of_zero_le p0
 have h1:(BitVec.ofInt 64 ((m:Nat):Int)).toNat=m:=by rw[BitVec.toNat_ofInt];omega
 have h2:(BitVec.ofInt 64 4294967295).toNat=4294967295:=by rw[BitVec.toNat_ofInt];rfl
 have h3:(BitVec.ofInt 64 ((m:Nat):Int) &&&BitVec.ofInt 64 4294967295).toNat=m % 4294967296:=by
  rw[BitVec.toNat_and,h1,h2]
  exact Nat.and_two_pow_sub_one_eq_mod m 32
 show wrapI .u64 ((BitVec.ofInt 64 ((m:Nat):Int) &&&BitVec.ofInt 64 4294967295).toNat:Nat)=_
 rw[h3,wrapI_eq]
 simp only[IntKind.wrap,IntKind.bits,IntKind.signed]
 simp
 omega
theorem ms_step {U W v:List Int} {j i:Nat} {g c b d e:Int} (hW:Dig W) (hl:W.length=U.length) (hv:Dig v) (g0:0≤g) (g1:g<4294967296) (c0:0≤c) (c1:c<4294967296) (b0:0≤b) (b1:b≤1) (hj:j+i<U.length)
  (ho:∀m,(m<j∨j+i≤m)→nthD W m 0=nthD U m 0)
  (he:valN (prt W j i)=valN (prt U j i) - g*valN (v.take i)+4294967296^i*(c+b))
  (hd0:0≤d∧d<4294967296) (hd:d - 4294967296*e=nthD W (j+i) 0 - (g*nthD v i 0+c) % 4294967296 - b):
  Dig (W.set (j+i) d)∧(W.set (j+i) d).length=U.length∧(0≤(g*nthD v i 0+c) / 4294967296∧(g*nthD v i 0+c) / 4294967296<4294967296)∧
  (∀m,(m<j∨j+(i+1)≤m)→nthD (W.set (j+i) d) m 0=nthD U m 0)∧
  valN (prt (W.set (j+i) d) j (i+1))=valN (prt U j (i+1)) - g*valN (v.take (i+1))+4294967296^(i+1)*((g*nthD v i 0+c) / 4294967296+e):=by
 have x:=dig_nth hv i
 have t0:0≤g*nthD v i 0:=Int.mul_nonneg g0 x.1
 have t1:g*nthD v i 0≤4294967295*4294967295:=Int.mul_le_mul (by omega) (by omega) x.1 (by omega)
 refine⟨dig_set hW hd0.1 hd0.2,by simp[hl],by omega,fun m hm=>by rw[nth_set_ne (by omega)];exact ho m (by omega),?_⟩
 have hu:=ho (j+i) (.inr (Nat.le_refl _))
 rw[prt_succ,prt_succ,prt_set (Nat.le_refl _),nth_set_self (by omega),he,take_snoc0,Int.pow_succ]
 rw[hu] at hd
 generalize hp:g*nthD v i 0=p at*
 have e1:g*(valN (v.take i)+4294967296^i*nthD v i 0)=g*valN (v.take i)+4294967296^i*p:=by
  rw[Int.mul_add,Int.mul_left_comm,hp]
 rw[e1]
 generalize (4294967296:Int)^i=B at*
 have e2:B*4294967296*((p+c) / 4294967296+e)=B*(4294967296*((p+c) / 4294967296+e)):=Int.mul_assoc _ _ _
 have e3:4294967296*((p+c) / 4294967296+e)=p+c - (p+c) % 4294967296+4294967296*e:=by omega
 have e4:p+c - (p+c) % 4294967296+4294967296*e=p+(c+b)+d - nthD U (j+i) 0:=by omega
 rw[e2,e3,e4]
 simp only[Int.mul_add,Int.mul_sub]
 omega
theorem ab_step {U W v:List Int} {j i:Nat} {c s:Int} (hW:Dig W) (hl:W.length=U.length) (hv:Dig v) (c0:0≤c) (c1:c≤1) (hj:j+i<U.length) (hU:Dig U)
  (ho:∀m,(m<j∨j+i≤m)→nthD W m 0=nthD U m 0)
  (he:valN (prt W j i)+4294967296^i*c=valN (prt U j i)+valN (v.take i)) (hs:s=nthD W (j+i) 0+nthD v i 0+c):
  Dig (W.set (j+i) (s % 4294967296))∧(W.set (j+i) (s % 4294967296)).length=U.length∧(0≤s / 4294967296∧s / 4294967296≤1)∧
  (∀m,(m<j∨j+(i+1)≤m)→nthD (W.set (j+i) (s % 4294967296)) m 0=nthD U m 0)∧
  valN (prt (W.set (j+i) (s % 4294967296)) j (i+1))+4294967296^(i+1)*(s / 4294967296)=valN (prt U j (i+1))+valN (v.take (i+1)):=by
 have x:=dig_nth hv i
 have y:=dig_nth hW (j+i)
 refine⟨dig_set hW (by omega) (by omega),by simp[hl],by omega,fun m hm=>by rw[nth_set_ne (by omega)];exact ho m (by omega),?_⟩
 have hu:=ho (j+i) (.inr (Nat.le_refl _))
 rw[prt_succ,prt_succ,prt_set (Nat.le_refl _),nth_set_self (by omega),take_snoc0,Int.pow_succ]
 rw[hu] at hs
 generalize (4294967296:Int)^i=B at*
 have e2:B*4294967296*(s / 4294967296)=B*(s - s % 4294967296):=by rw[Int.mul_assoc];congr 1;omega
 rw[e2,hs]
 simp only[Int.mul_add,Int.mul_sub]
 omega
theorem top_two {v:List Int} {n:Nat} (hn:2≤n) (hl:v.length=n):valN v=valN (v.take (n - 2))+4294967296^(n - 2)*(nthD v (n - 2) 0+4294967296*nthD v (n - 1) 0):=by
 obtain⟨m,rfl⟩:∃m,n=m+2:=⟨n - 2,by omega⟩
 have h1:=@take_snoc0 v (m+1)
 have h2:=@take_snoc0 v m
 rw[show m+1+1=v.length by omega,List.take_length] at h1
 rw[h1,h2,show m+2 - 2=m by omega,show m+2 - 1=m+1 by omega,Int.pow_succ,Int.mul_add,Int.mul_assoc]
 omega
theorem top_three {U:List Int} {j n:Nat} (hn:2≤n):valN (prt U j (n+1))=valN (prt U j (n - 2))+4294967296^(n - 2)*(nthD U (j+(n - 2)) 0+4294967296*(nthD U (j+(n - 1)) 0+4294967296*nthD U (j+n) 0)):=by
 obtain⟨m,rfl⟩:∃m,n=m+2:=⟨n - 2,by omega⟩
 rw[prt_succ,prt_succ,prt_succ,show m+2 - 2=m by omega,show m+2 - 1=m+1 by omega,show(4294967296:Int)^(m+2)=4294967296^m*4294967296*4294967296 from rfl,Int.pow_succ]
 generalize (4294967296:Int)^m=B
 simp only[Int.mul_add,Int.mul_assoc]
 omega
end Go.Vi
