/-
  Contracts: Fix, Reduce.
  Conditions: none.
-/
import Derived.Test.YtgejbpobaicgfaaGreatRX11
import Derived.Test.YtgejbpobaicgfaaGreatRX06
import Derived.Test.YtgejbpobaicgfaaGreatRX07
import Derived.Test.YtgejbpobaicgfaaGreatRX08
import Derived.Test.YtgejbpobaicgfaaGreatRX09
import Derived.Test.YtgejbpobaicgfaaGreatRX10
set_option maxRecDepth 100000
set_option maxHeartbeats 4000000
set_option linter.unusedSimpArgs false
set_option linter.unusedVariables false
namespace Go.Vi
open Go.Proofs.YtgejbpobaicgfaaGreat.Ir
open Go.Proofs
def dN (p:aE) (i d:Int):List Int:=(List.replicate p.offers.length 0).set i.toNat d
noncomputable def fE (p:aE) (i d:Int) (q:Rat):Bool:=decide (fB p (dN p i d)=0)&&(!fb p (dN p i d)||decide (qp p (dN p i d)<q))
theorem aad {p:aE} {f:List Int} (h:fb p f=true):kF p f:=by
 unfold fb at h
 rw[Bool.and_eq_true,decide_eq_true_eq] at h
 obtain⟨hx0,hb⟩:=h
 unfold fB at hx0
 split at hx0
 ·rename_i h1;exact absurd hx0 h1
 ·rename_i h1
  split at hx0
  ·cases hx0
  ·rename_i h2
   exact⟨Classical.not_not.1 h1,Classical.not_not.1 h2,hb⟩
theorem MW {p:aE} {f:List Int} (h:fb p f=true):Sz 1000002 (qp p f):=by
 have hfx:=aad h
 have hab:=@Fp p hfx.1 f f.length hfx.2.1
 rw[List.take_length] at hab
 have hsa:Sz 1 ((gR p f:Int):Rat):=by
  unfold Sz
  rw[Rat.num_intCast,Rat.den_intCast]
  omega
 have hsv:Sz 1000000 (e9 p f).value:=((E6 hfx).qm (LZ hfx).1).2.2.2
 exact(KL hsa hsv).mono (by omega)
noncomputable def FP:cK where
 f:=35
 α:=Int×Int×aE×aW
 put a:=[.si .i64 a.1,.si .i64 a.2.1,.ptr 0 0 20,.ptr 1 0 3]
 st a:=[.cells a.2.2.1.ss 27 20 false,.cells (encS sF a.2.2.2) 70 3 false]
 dec v o:=match v,o with
  |[a,b,.ptr 0 0 20,.ptr 1 0 3],[.cells cs 27 20 false,.cells gs 70 3 false]=>match a.int .i64,b.int .i64,yX cs,fj sF gs with
   |some a,some b,some p,some x=>some (a,b,p,x)
   |_,_,_,_=>none
  |_,_=>none
 ok v o a h:=by
  split at h
  ·split at h
   ·rename_i h1 h2 h3 h4
    simp only[Option.some.injEq] at h;subst h
    refine⟨by simp only[gL,jN h1,jN h2,SV.g],?_⟩
    simp only[gO,List.map_cons,List.map_nil,af.g,Je h3,dj,js h4,mC]
   ·cases h
  ·cases h
 inj a b h1 h2:=by
  obtain⟨a0,a1,p,x⟩:=a
  obtain⟨b0,b1,p',x'⟩:=b
  simp only[gL,List.cons.injEq,and_true,SV.g,AV.sc.injEq,Value.int.injEq,true_and] at h1
  simp only[gO,List.map_cons,List.map_nil,af.g,List.cons.injEq,aP.cells.injEq,and_true] at h2
  have h3:=ef.inj p p' (by simp only[ef,SV.g,h2.1])
  have h4:x=x':=rJ sF x x' (by have:=h2.2;rw[dj,dj,mC,mC] at this;exact this)
  rw[h1.1,h1.2,h3,h4]
 dom a:=bw a.2.2.1=0∧(0≤a.1∧a.1<a.2.2.1.offers.length)∧∃q,a.2.2.2=ah q∧Sz 1000 q
 res a:=.sb (fE a.2.2.1 a.1 a.2.1 (aO a.2.2.2))
 out a:=[.cells a.2.2.1.ss 27 20 false,.cells (encS sF a.2.2.2) 70 3 false]
theorem h389:eh Tryz.prog FP:=by
 refine Aw (L:=[zE]) (W:=[Az]) FP wY (fun _ _=> .look) (by simpa using h390w) (by simpa using h97) (by kernel_rfl) (fun _=>rfl) (by kernel_rfl) ?_
 rintro⟨i,d,p,x⟩ ⟨hc,⟨i0,i1⟩,q,hx,hq⟩
 simp only at hc i0 i1 hx
 subst hx
 refine bh (let z0:=(↑p.offers.length:Int);let z1:=List.replicate z0.toNat (0:Int);let z2:=z1.set i.toNat d;let z3:=decide (fB p z2=(0:Int));let z4:=SV.sb (fE p i d (aO (ah q)));let z5:=af.cells (aE.ss p) 27 20 false;let z6:=af.cells [SV.sb (ah q).fst,SV.row (ai.i .u32) (ah q).snd.fst,SV.row (ai.i .u32) (ah q).snd.snd] 70 3 false;let z7:=((fc p z2).fst,(fc p z2).snd.fst,(fc p z2).snd.snd);let z8:=((ah q).fst,(ah q).snd.fst,(ah q).snd.snd);(0:Int)≤z0∧z0≤z0∧z0*(8:Int)≤(140737488355328:Int)∧z0≤(1000000000000:Int)∧z0.toNat=z1.length∧(0:Int)≤i∧i<(↑z1.length:Int)∧z0.toNat=z1.length∧i.toNat<z1.length∧(z0.toNat=z2.length∧z2.length≤1000000000000)∧(z3=true→((!fb p z2)=true→(SV.bl true).same z4∧z5.same z5∧z6.same z6∧True)∧((!fb p z2)=false→(bM z7∧bM z8)∧(SV.sb (decide (ik (aO z7) (aO z8)<(0:Int)))).same z4∧z5.same z5∧z6.same z6∧True))∧(z3=false→(SV.bl false).same z4∧z5.same z5∧z6.same z6∧True)) (by kernel_rfl) ?_
 simp only[vcs]
 have hcast:∀k:Nat,((k:Nat):Int).toNat=k:=fun k=>Int.toNat_natCast k
 have hf:(List.replicate p.offers.length 0).set i.toNat d=dN p i d:=rfl
 have h160:=(i6 hc).2.1
 have hsl:(dN p i d).length=p.offers.length:=by unfold dN;rw[List.length_set,List.length_replicate]
 have hrl:(List.replicate p.offers.length (0:Int)).length=p.offers.length:=List.length_replicate
 simp only[hcast,hf,hsl,hrl,gP,cb,LE]
 refine⟨by omega,by omega,by omega,by omega,by first|trivial|rfl,i0,i1,by first|trivial|rfl,by omega,⟨by first|trivial|rfl,by omega⟩,fun h0=>⟨fun h1=>?_,fun h1=>⟨⟨?_,dm hq (by omega)⟩,?_⟩⟩,fun h0=>?_⟩
 ·unfold fE
  rw[h0,h1]
  rfl
 ·have e:fc p (dN p i d)=ah (qp p (dN p i d)):=by unfold fc;rw[if_pos h1]
  rw[e]
  exact dm (MW h1) (by omega)
 ·have e:fc p (dN p i d)=ah (qp p (dN p i d)):=by unfold fc;rw[if_pos h1]
  rw[e,cb]
  unfold fE
  rw[h0,h1]
  simp
 ·unfold fE
  rw[decide_eq_false h0]
  rfl
noncomputable def iw (p:aE) (q:Rat) (i:Int):Int:=if fE p i 1 q=true then -1 else if fE p i (-1) q=true then 1 else 0
noncomputable def j8 (p:aE) (q:Rat) (k:Nat):List Int:=(bW p.offers.length).map fun i:Int=>if i<(k:Int) then iw p q i else 0
noncomputable def dn (p:aE) (m:Int):List Int:=if bw p=0 then(bW p.offers.length).map (iw p (m:Rat)) else[]
noncomputable def vf:bf:=⟨11,aE×Int,.cons ef (.one (cT .i64)),fun a=> -9223372036854775808≤a.2∧a.2≤9223372036854775807,fun a=> .aD [.row (.i .i64) (dn a.1 a.2),.si .i64 (bw a.1)]⟩
noncomputable def aae (p:aE) (m:Int):Nat→bz
 |8=> .inv Int (fun i=>⟨[(8,.fn (.func 35) [] [.ptr 0 0 20,.ptr 1 0 3]),(9,.ow 2 p.offers.length 1),(24,.si .i64 p.offers.length),(25,.si .i64 i)],[.cells p.ss 27 20 false,.cells [.sb (ah (IntCast.intCast m)).1,.row (.i .u32) (ah (IntCast.intCast m)).2.1,.row (.i .u32) (ah (IntCast.intCast m)).2.2] 70 3 false,.row (.i .i64) (j8 p (IntCast.intCast m) i.toNat) 3 true]⟩)
   (fun s=>iS s 25) (fun i=>0≤i∧i≤p.offers.length) (fun i=>(p.offers.length - i).toNat) fun _ _=> .look
 |_=> .look
theorem h383:Holds Tryz.prog vf:=by
 refine con (L:=[nT,lW]) (W:=gi [FP]) vf wT (fun a=>aae a.1 a.2) (kZ (by simpa using h389)) (by simpa using⟨h79,h94⟩) (by kernel_rfl) (by kernel_rfl) (fun _=>rfl) ?_
 rintro⟨p,m⟩ ⟨m0,m1⟩
 simp only at m0 m1
 refine bh (let z0:=decide (bw p≠(0:Int));let z1:=ai.i .i64;let z2:=[SV.si .i64 (bw p)];let z3:=SV.aD (SV.row z1 (dn p m)::z2);let z4:=(↑p.offers.length:Int);let z5:=SV.fn (Fn.func 35) [] [SV.ptr 0 0 20,SV.ptr 1 0 3];let z6:=p.offers.length;let z7:=SV.ow 2 z6 1;let z8:=(↑z6:Int);let z9:=SV.si .i64 z8;let ak:=SV.il .i64 0;let al:=af.cells [SV.si .i64 p.supply.a0,SV.si .i64 p.supply.a1,SV.si .i64 p.supply.a2,SV.si .i64 p.supply.a3,SV.si .i64 p.supply.a4,SV.si .i64 p.supply.a5,SV.si .i64 p.opn.a0,SV.si .i64 p.opn.a1,SV.si .i64 p.opn.a2,SV.si .i64 p.opn.a3,SV.si .i64 p.opn.a4,SV.si .i64 p.opn.a5,SV.si .i64 p.cls.a0,SV.si .i64 p.cls.a1,SV.si .i64 p.cls.a2,SV.si .i64 p.cls.a3,SV.si .i64 p.cls.a4,SV.si .i64 p.cls.a5,SV.row z1 p.classes,SV.row ai.off p.offers] 27 20 false;let z12:=IntCast.intCast m;let au:=ai.i .u32;let ar:=af.cells [SV.sb (ah z12).fst,SV.row au (ah z12).snd.fst,SV.row au (ah z12).snd.snd] 70 3 false;let ax:=((ah z12).fst,(ah z12).snd.fst,(ah z12).snd.snd);True∧(z0=true→(SV.aD (SV.row z1 []::z2)).same z3)∧(z0=false→((-9223372036854775808:Int)≤m∧m≤(9223372036854775807:Int))∧(0:Int)≤z4∧z4≤z4∧z4*(8:Int)≤(140737488355328:Int)∧z4≤(1000000000000:Int)∧(((z5.same z5∧(SV.ow 2 z4.toNat 1).same z7∧(SV.si .i64 (↑z4.toNat:Int)).same z9∧ak.same (SV.si .i64 0)∧True)∧al.same al∧(af.cells [SV.sb (ah z12).fst,SV.row au (ah z12).snd.fst,SV.row au (ah z12).snd.snd] 70 3 false).same ar∧(af.row z1 (List.replicate z4.toNat (0:Int)) 3 true).same (af.row z1 (j8 p z12 0) 3 true)∧True)∧(0:Int)≤(0:Int)∧(0:Int)≤z8)∧∀(x:Int),let ay:=fE p x (1:Int) (aO ax);let z17:=j8 p z12 x.toNat;let aG:=x+(1:Int);let aH:=SV.si .i64 aG;let z20:=af.row z1 (j8 p z12 aG.toNat) 3 true;let z21:=fE p x (-1:Int) (aO ax);(0:Int)≤x∧x≤z8→(decide (x<z8)=true→(bw p=(0:Int)∧((0:Int)≤x∧x<z8)∧∃q,ax=ah q∧Sz 1000 q)∧(ay=true→z6=z17.length∧(0:Int)≤x∧x<(↑z17.length:Int)∧z6=z17.length∧x.toNat<z17.length∧aC .i64 aG∧((z5.same z5∧z7.same z7∧z9.same z9∧aH.same aH∧True)∧al.same al∧ar.same ar∧(af.row z1 (z17.set x.toNat (-1:Int)) 3 true).same z20∧True)∧((0:Int)≤aG∧aG≤z8)∧(z8 - aG).toNat<(z8 - x).toNat)∧(ay=false→(bw p=(0:Int)∧((0:Int)≤x∧x<z8)∧∃q,ax=ah q∧Sz 1000 q)∧(z21=true→z6=z17.length∧(0:Int)≤x∧x<(↑z17.length:Int)∧z6=z17.length∧x.toNat<z17.length∧aC .i64 aG∧((z5.same z5∧z7.same z7∧z9.same z9∧aH.same aH∧True)∧al.same al∧ar.same ar∧(af.row z1 (z17.set x.toNat (1:Int)) 3 true).same z20∧True)∧((0:Int)≤aG∧aG≤z8)∧(z8 - aG).toNat<(z8 - x).toNat)∧(z21=false→aC .i64 aG∧((z5.same z5∧z7.same z7∧z9.same z9∧aH.same aH∧True)∧al.same al∧ar.same ar∧(af.row z1 z17 3 true).same z20∧True)∧((0:Int)≤aG∧aG≤z8)∧(z8 - aG).toNat<(z8 - x).toNat)))∧(decide (x<z8)=false→z6=z17.length∧(SV.aD [SV.row z1 z17,ak]).same z3))) (by kernel_rfl) ?_
 simp only[vcs]
 refine⟨fun h=>by unfold dn;rw[if_neg h],fun h=>?_⟩
 have hc:bw p=0:=Classical.not_not.1 h
 have h160:=(i6 hc).2.1
 have hcast:∀k:Nat,((k:Nat):Int).toNat=k:=fun k=>Int.toNat_natCast k
 have hal:∀k,(j8 p (IntCast.intCast m) k).length=p.offers.length:=fun k=>by unfold j8;rw[List.length_map,e8]
 have hrow:∀{x y:List Int},x=y→(af.row (.i .i64) x 3 true).same (af.row (.i .i64) y 3 true):=by rintro _ _ rfl;rfl
 have hsm:Sz 1000 (IntCast.intCast m:Rat):=by
  have h1:Sz 3 (IntCast.intCast m:Rat):=by
   unfold Sz
   rw[show(IntCast.intCast m:Rat)=((m:Int):Rat) from rfl,Rat.num_intCast,Rat.den_intCast]
   omega
  exact h1.mono (by omega)
 have AD:∀(k i:Nat),i<p.offers.length→ae (j8 p (IntCast.intCast m) k) i 0=if(i:Int)<(k:Int) then iw p (IntCast.intCast m) i else 0:=fun k i hi=>by
  unfold j8
  rw[uR (e:=0) (by rw[e8];exact hi),uS hi]
 have FQ:∀i:Int,0≤i→i<p.offers.length→(j8 p (IntCast.intCast m) i.toNat).set i.toNat (iw p (IntCast.intCast m) i)=j8 p (IntCast.intCast m) (i+1).toNat:=fun i i0 i1=>by
  refine List.ext_getElem (by rw[List.length_set,hal,hal]) fun j h1 h2=>?_
  rw[hal] at h2
  have e1:=AD (i+1).toNat j h2
  rw[bF (by rw[hal];exact h2)] at e1
  rw[e1,List.getElem_set]
  by_cases hj:i.toNat=j
  ·rw[if_pos hj,if_pos (by omega),show((j:Nat):Int)=i by omega]
  ·have e2:=AD i.toNat j h2
   rw[bF (by rw[hal];exact h2)] at e2
   rw[if_neg hj,e2]
   by_cases h3:(j:Int)<i
   ·rw[if_pos (by omega),if_pos (by omega)]
   ·rw[if_neg (by omega),if_neg (by omega)]
 have aaf:∀i:Int,0≤i→i<p.offers.length→iw p (IntCast.intCast m) i=0→j8 p (IntCast.intCast m) i.toNat=j8 p (IntCast.intCast m) (i+1).toNat:=fun i i0 i1 hz=>by
  rw[←FQ i i0 i1,hz]
  refine(List.ext_getElem (by rw[List.length_set]) fun j h1 h2=>?_)
  rw[List.getElem_set]
  split
  ·rename_i hj
   have e2:=AD i.toNat j (by rw[hal] at h1;exact h1)
   rw[bF h1] at e2
   rw[e2,if_neg (by omega)]
  ·rfl
 simp only[hcast,hal,gP,cb]
 refine⟨⟨m0,m1⟩,by omega,by omega,by omega,by omega,⟨⟨⟨rfl,by first|trivial|rfl⟩,hrow ?_⟩,by omega,by omega⟩,?_⟩
 ·refine List.ext_getElem (by rw[hal,List.length_replicate]) fun j h1 h2=>?_
  rw[hal] at h2
  have e1:=AD 0 j h2
  rw[bF (by rw[hal];exact h2)] at e1
  rw[e1,if_neg (by omega),List.getElem_replicate]
 rintro i ⟨i0,i1⟩
 refine⟨fun hi=>⟨⟨hc,⟨i0,hi⟩,_,rfl,hsm⟩,fun h1=>?_,fun h1=>⟨⟨hc,⟨i0,hi⟩,_,rfl,hsm⟩,fun h2=>?_,fun h2=>?_⟩⟩,fun hi=>?_⟩
 ·have e:iw p (IntCast.intCast m) i= -1:=by unfold iw;rw[if_pos h1]
  have:=FQ i i0 hi
  rw[e] at this
  rw[this]
  exact⟨by first|trivial|rfl,i0,hi,by first|trivial|rfl,by omega,by omega,hrow rfl,by omega,by omega⟩
 ·have e:iw p (IntCast.intCast m) i=1:=by unfold iw;rw[if_neg (by rw[h1];simp),if_pos h2]
  have:=FQ i i0 hi
  rw[e] at this
  rw[this]
  exact⟨by first|trivial|rfl,i0,hi,by first|trivial|rfl,by omega,by omega,hrow rfl,by omega,by omega⟩
 ·have e:iw p (IntCast.intCast m) i=0:=by unfold iw;rw[if_neg (by rw[h1];simp),if_neg (by rw[h2];simp)]
  rw[aaf i i0 hi e]
  exact⟨by omega,hrow rfl,by omega,by omega⟩
 ·refine⟨trivial,?_,hc.symm⟩
  rw[show i.toNat=p.offers.length by omega]
  unfold dn j8
  rw[if_pos hc]
  refine List.map_congr_left fun j hj=>?_
  rw[if_pos (lX.1 hj).2]
theorem aag {p:aE} {l:List Int} (hc:bw p=0):bw (eE p l)=0:=by
 have hn:=W9 hc
 have e:eE p l=nU p (p.offers.filter fun x=>decide (x∈(cH p l).map (oI p))):=by
  unfold eE nU
  congr 1
  have e1:p.offers=(bW p.offers.length).map (oI p):=by
   refine List.ext_getElem (by rw[List.length_map,e8]) fun i h1 h2=>?_
   rw[List.getElem_map]
   have:=uS (d:=0) h1
   rw[bF (by rw[e8];exact h1)] at this
   rw[this]
   unfold oI
   rw[Int.toNat_natCast,bF h1]
  conv=>rhs;rw[e1]
  rw[List.filter_map]
  congr 1
  unfold cH gU
  refine List.filter_congr fun i hi=>?_
  have hi2:=lX.1 hi
  simp only[Function.comp,decide_eq_decide]
  constructor
  ·intro h
   exact List.mem_map.2 ⟨i,List.mem_filter.2 ⟨hi,decide_eq_true h⟩,rfl⟩
  ·intro h
   obtain⟨j,hj,hji⟩:=List.mem_map.1 h
   rw[List.mem_filter,decide_eq_true_eq] at hj
   have hj2:=lX.1 hj.1
   have:=Xb hn (i:=j.toNat) (j:=i.toNat) (by omega) (by omega) hji
   rw[show i=j by omega]
   exact hj.2
 rw[e]
 exact Xa hc
def bX (p:aE):aE:=eE p (eD p)
noncomputable def eU (p:aE) (m:Int):List Int:=aI (dn (bX p) m) (-1)
noncomputable def j9 (p:aE) (m:Int):aE:=if bw p=0 then eE (bX p) (eU p m) else ve
noncomputable def nf (p:aE) (m:Int):List Int:=if bw p=0 then(cH (bX p) (eU p m)).map (fun i=>ae (cH p (eD p)) i.toNat 0) else[]
theorem aah {p:aE} {l:List Int} {x:Int}:x∈cH p l↔(0≤x∧x<p.offers.length)∧x∉l:=by
 unfold cH gU
 rw[List.mem_filter,lX,decide_eq_true_eq]
theorem aai {p:aE}:(eD p).Pairwise (·<·):=Eu.sublist List.filter_sublist
theorem MX {p:aE} {m:Int} (hc:bw p=0):(dn p m).length=p.offers.length:=by
 unfold dn
 rw[if_pos hc,List.length_map,e8]
noncomputable def FS:bf:=⟨27,aE×Int,.cons ef (.one (cT .i64)),fun a=> -9223372036854775808≤a.2∧a.2≤9223372036854775807,fun a=> .aD [.agg (j9 a.1 a.2).ss,.row (.i .i64) (nf a.1 a.2),.si .i64 (bw a.1)]⟩
def MY:af:=.cells [.il .i64 0,.il .i64 0,.il .i64 0,.il .i64 0,.il .i64 0,.il .i64 0,.il .i64 0,.il .i64 0,.il .i64 0,.il .i64 0,.il .i64 0,.il .i64 0,.il .i64 0,.il .i64 0,.il .i64 0,.il .i64 0,.il .i64 0,.il .i64 0,.sc (.slice none 0 0),.sc (.slice none 0 0)] 27 20 false
noncomputable def aaj (p:aE) (m:Int):Nat→bz
 |10=> .inv Int (fun i=>⟨[(4,.ptr 1 0 20),(8,.ptr 2 0 20),(9,.row (.i .i64) (cH p (eD p))),(12,.ow 3 (aI ((dn (bX p) m).take i.toNat) (-1)).length 1),(43,.row (.i .i64) (dn (bX p) m)),(44,.si .i64 (dn (bX p) m).length),(45,.si .i64 i)],[.cells p.ss 27 20 false,MY,.cells (bX p).ss 27 20 false,.row (.i .i64) (aI ((dn (bX p) m).take i.toNat) (-1)) 3 true]⟩)
   (fun s=>iS s 45) (fun i=>0≤i∧i≤(dn (bX p) m).length) (fun i=>((dn (bX p) m).length - i).toNat) fun _ _=> .look
 |18=> .inv Int (fun i=>⟨[(4,.ptr 1 0 20),(9,.row (.i .i64) (cH p (eD p))),(15,.ptr 4 0 20),(17,.ow 5 (((cH (bX p) (eU p m)).take i.toNat).map (fun i=>ae (cH p (eD p)) i.toNat 0)).length 1),(63,.row (.i .i64) (cH (bX p) (eU p m))),(64,.si .i64 (cH (bX p) (eU p m)).length),(65,.si .i64 i)],[.cells p.ss 27 20 false,MY,.cells (bX p).ss 27 20 false,.dead,.cells (eE (bX p) (eU p m)).ss 27 20 false,.row (.i .i64) (((cH (bX p) (eU p m)).take i.toNat).map (fun i=>ae (cH p (eD p)) i.toNat 0)) 3 true]⟩)
   (fun s=>iS s 65) (fun i=>0≤i∧i≤(cH (bX p) (eU p m)).length) (fun i=>((cH (bX p) (eU p m)).length - i).toNat) fun _ _=> .look
 |_=> .look
theorem h384:Holds Tryz.prog FS:=by
 refine con (L:=[nT,AA,AC,vf]) FS wU (fun a=>aaj a.1 a.2) (bu.none _) (by simpa using⟨h79,h386,h388,h383⟩) (by kernel_rfl) (by kernel_rfl) (fun _=>rfl) ?_
 rintro⟨p,m⟩ ⟨m0,m1⟩
 simp only at m0 m1
 refine bh (let z0:=decide (bw p≠(0:Int));let z1:=SV.il .i64 0;let z2:=ai.i .i64;let z3:=SV.row z2 [];let z4:=SV.agg [z1,z1,z1,z1,z1,z1,z1,z1,z1,z1,z1,z1,z1,z1,z1,z1,z1,z1,z3,z3];let z5:=[SV.si .i64 (bw p)];let z6:=(j9 p m).supply;let z7:=(j9 p m).opn;let z8:=(j9 p m).cls;let z9:=SV.aD (SV.agg [SV.si .i64 z6.a0,SV.si .i64 z6.a1,SV.si .i64 z6.a2,SV.si .i64 z6.a3,SV.si .i64 z6.a4,SV.si .i64 z6.a5,SV.si .i64 z7.a0,SV.si .i64 z7.a1,SV.si .i64 z7.a2,SV.si .i64 z7.a3,SV.si .i64 z7.a4,SV.si .i64 z7.a5,SV.si .i64 z8.a0,SV.si .i64 z8.a1,SV.si .i64 z8.a2,SV.si .i64 z8.a3,SV.si .i64 z8.a4,SV.si .i64 z8.a5,SV.row z2 (j9 p m).classes,SV.row ai.off (j9 p m).offers]::SV.row z2 (nf p m)::z5);let ak:=eE p (eD p);let al:=decide (bw ak≠(0:Int));let z12:=SV.ptr 1 0 20;let au:=SV.ptr 2 0 20;let ar:=cH p (eD p);let ax:=dn (bX p) m;let ay:=SV.row z2 ax;let z17:=(↑ax.length:Int);let aG:=SV.si .i64 z17;let aH:=af.cells [SV.si .i64 p.supply.a0,SV.si .i64 p.supply.a1,SV.si .i64 p.supply.a2,SV.si .i64 p.supply.a3,SV.si .i64 p.supply.a4,SV.si .i64 p.supply.a5,SV.si .i64 p.opn.a0,SV.si .i64 p.opn.a1,SV.si .i64 p.opn.a2,SV.si .i64 p.opn.a3,SV.si .i64 p.opn.a4,SV.si .i64 p.opn.a5,SV.si .i64 p.cls.a0,SV.si .i64 p.cls.a1,SV.si .i64 p.cls.a2,SV.si .i64 p.cls.a3,SV.si .i64 p.cls.a4,SV.si .i64 p.cls.a5,SV.row z2 p.classes,SV.row ai.off p.offers] 27 20 false;let z20:=SV.sc (Value.slice none 0 0);let z21:=af.cells [z1,z1,z1,z1,z1,z1,z1,z1,z1,z1,z1,z1,z1,z1,z1,z1,z1,z1,z20,z20] 27 20 false;let z22:=ak.supply;let z23:=ak.opn;let z24:=ak.cls;let z25:=(bX p).supply;let z26:=(bX p).opn;let z27:=(bX p).cls;let z28:=af.cells [SV.si .i64 z25.a0,SV.si .i64 z25.a1,SV.si .i64 z25.a2,SV.si .i64 z25.a3,SV.si .i64 z25.a4,SV.si .i64 z25.a5,SV.si .i64 z26.a0,SV.si .i64 z26.a1,SV.si .i64 z26.a2,SV.si .i64 z26.a3,SV.si .i64 z26.a4,SV.si .i64 z26.a5,SV.si .i64 z27.a0,SV.si .i64 z27.a1,SV.si .i64 z27.a2,SV.si .i64 z27.a3,SV.si .i64 z27.a4,SV.si .i64 z27.a5,SV.row z2 (bX p).classes,SV.row ai.off (bX p).offers] 27 20 false;let z29:=af.row z2 [] 3 true;let z30:=SV.ptr 4 0 20;let z31:=SV.ow 5 0 1;let z32:=cH (bX p) (eU p m);let z33:=SV.row z2 z32;let z34:=(↑z32.length:Int);let z35:=SV.si .i64 z34;let z36:=eE (bX p) (eU p m);let z37:=z36.supply;let z38:=z36.opn;let z39:=z36.cls;let z40:=[SV.si .i64 z37.a0,SV.si .i64 z37.a1,SV.si .i64 z37.a2,SV.si .i64 z37.a3,SV.si .i64 z37.a4,SV.si .i64 z37.a5,SV.si .i64 z38.a0,SV.si .i64 z38.a1,SV.si .i64 z38.a2,SV.si .i64 z38.a3,SV.si .i64 z38.a4,SV.si .i64 z38.a5,SV.si .i64 z39.a0,SV.si .i64 z39.a1,SV.si .i64 z39.a2,SV.si .i64 z39.a3,SV.si .i64 z39.a4,SV.si .i64 z39.a5,SV.row z2 z36.classes,SV.row ai.off z36.offers];let z41:=af.cells z40 27 20 false;True∧(z0=true→(SV.aD (z4::z3::z5)).same z9)∧(z0=false→p.offers.length≤1000∧((p.offers.length≤1000∧p.classes.length≤1000)∧(eD p).length≤1000000000000∧List.Pairwise (fun x1 x2 ↦x1<x2) (eD p))∧((-9223372036854775808:Int)≤m∧m≤(9223372036854775807:Int))∧(al=true→(SV.aD [z4,z3,SV.si .i64 (bw ak)]).same z9)∧(al=false→(((z12.same z12∧au.same au∧(SV.row z2 ar).same (SV.row z2 ar)∧(SV.ow 3 0 1).same (SV.ow 3 (aI [] (-1:Int)).length 1)∧(SV.row z2 (dn ak m)).same ay∧(SV.si .i64 (↑(dn ak m).length:Int)).same aG∧z1.same (SV.si .i64 0)∧True)∧aH.same aH∧z21.same z21∧(af.cells [SV.si .i64 z22.a0,SV.si .i64 z22.a1,SV.si .i64 z22.a2,SV.si .i64 z22.a3,SV.si .i64 z22.a4,SV.si .i64 z22.a5,SV.si .i64 z23.a0,SV.si .i64 z23.a1,SV.si .i64 z23.a2,SV.si .i64 z23.a3,SV.si .i64 z23.a4,SV.si .i64 z23.a5,SV.si .i64 z24.a0,SV.si .i64 z24.a1,SV.si .i64 z24.a2,SV.si .i64 z24.a3,SV.si .i64 z24.a4,SV.si .i64 z24.a5,SV.row z2 ak.classes,SV.row ai.off ak.offers] 27 20 false).same z28∧z29.same (af.row z2 (aI [] (-1:Int)) 3 true)∧True)∧(0:Int)≤(0:Int)∧(0:Int)≤z17)∧∀(x:Int),let z42:=decide (ae ax x.toNat (0:Int)=(-1:Int));let z43:=aI (List.take x.toNat ax) (-1:Int);let z44:=z43.length+1;let z45:=x+(1:Int);let z46:=aI (List.take z45.toNat ax) (-1:Int);let z47:=SV.ow 3 z46.length 1;let z48:=SV.si .i64 z45;let z49:=af.row z2 z46 3 true;let z50:=eE (bX p) z43;let z51:=z50.supply;let z52:=z50.opn;let z53:=z50.cls;(0:Int)≤x∧x≤z17→(decide (x<z17)=true→(0:Int)≤x∧x<(↑ax.length:Int)∧x.toNat<ax.length∧(z42=true→z43.length=z43.length∧z44*8≤140737488355328∧z44≤1000000000000∧aC .i64 z45∧((z12.same z12∧au.same au∧(SV.row z2 ar).same (SV.row z2 ar)∧(SV.ow 3 (z43++[x]).length 1).same z47∧ay.same ay∧aG.same aG∧z48.same z48∧True)∧aH.same aH∧z21.same z21∧z28.same z28∧(af.row z2 (z43++[x]) 3 true).same z49∧True)∧((0:Int)≤z45∧z45≤z17)∧(z17 - z45).toNat<(z17 - x).toNat)∧(z42=false→aC .i64 z45∧((z12.same z12∧au.same au∧(SV.row z2 ar).same (SV.row z2 ar)∧(SV.ow 3 z43.length 1).same z47∧ay.same ay∧aG.same aG∧z48.same z48∧True)∧aH.same aH∧z21.same z21∧z28.same z28∧(af.row z2 z43 3 true).same z49∧True)∧((0:Int)≤z45∧z45≤z17)∧(z17 - z45).toNat<(z17 - x).toNat))∧(decide (x<z17)=false→z43.length=z43.length∧(((bX p).offers.length≤1000∧(bX p).classes.length≤1000)∧z43.length≤1000000000000∧List.Pairwise (fun x1 x2 ↦x1<x2) z43)∧(((z12.same z12∧(SV.row z2 ar).same (SV.row z2 ar)∧z30.same z30∧z31.same z31∧(SV.row z2 (cH (bX p) z43)).same z33∧(SV.si .i64 (↑(cH (bX p) z43).length:Int)).same z35∧z1.same (SV.si .i64 0)∧True)∧aH.same aH∧z21.same z21∧z28.same z28∧af.dead.same af.dead∧(af.cells [SV.si .i64 z51.a0,SV.si .i64 z51.a1,SV.si .i64 z51.a2,SV.si .i64 z51.a3,SV.si .i64 z51.a4,SV.si .i64 z51.a5,SV.si .i64 z52.a0,SV.si .i64 z52.a1,SV.si .i64 z52.a2,SV.si .i64 z52.a3,SV.si .i64 z52.a4,SV.si .i64 z52.a5,SV.si .i64 z53.a0,SV.si .i64 z53.a1,SV.si .i64 z53.a2,SV.si .i64 z53.a3,SV.si .i64 z53.a4,SV.si .i64 z53.a5,SV.row z2 z50.classes,SV.row ai.off z50.offers] 27 20 false).same z41∧z29.same z29∧True)∧(0:Int)≤(0:Int)∧(0:Int)≤z34)∧∀(x:Int),let z54:=ae z32 x.toNat (0:Int);let z55:=List.take x.toNat z32;let z56:=List.map (fun i ↦ae ar i.toNat (0:z2.T)) z55;let z57:=z56.length+1;let z58:=x+(1:Int);let z59:=z56++[ae ar z54.toNat (0:Int)];let z60:=List.take z58.toNat z32;let z61:=SV.si .i64 z58;(0:Int)≤x∧x≤z34→(decide (x<z34)=true→(0:Int)≤x∧x<(↑z32.length:Int)∧x.toNat<z32.length∧(0:Int)≤z54∧z54<(↑ar.length:Int)∧z54.toNat<ar.length∧(List.map (fun i ↦ae ar i.toNat (0:Int)) z55).length=z56.length∧z57*8≤140737488355328∧z57≤1000000000000∧aC .i64 z58∧((z12.same z12∧(SV.row z2 ar).same (SV.row z2 ar)∧z30.same z30∧(SV.ow 5 z59.length 1).same (SV.ow 5 (List.map (fun i ↦ae ar i.toNat (0:Int)) z60).length 1)∧z33.same z33∧z35.same z35∧z61.same z61∧True)∧aH.same aH∧z21.same z21∧z28.same z28∧af.dead.same af.dead∧z41.same z41∧(af.row z2 z59 3 true).same (af.row z2 (List.map (fun i ↦ae ar i.toNat (0:z2.T)) z60) 3 true)∧True)∧((0:Int)≤z58∧z58≤z34)∧(z34 - z58).toNat<(z34 - x).toNat)∧(decide (x<z34)=false→(List.map (fun i ↦ae ar i.toNat (0:Int)) z55).length=z56.length∧(SV.aD [SV.agg z40,SV.row z2 z56,z1]).same z9))))) (by kernel_rfl) ?_
 simp only[vcs]
 refine⟨fun h=>?_,fun h=>?_⟩
 ·have e1:j9 p m=ve:=by unfold j9;rw[if_neg h]
  have e2:nf p m=[]:=by unfold nf;rw[if_neg h]
  rw[e1,e2]
  exact⟨rfl,rfl⟩
 have hc:bw p=0:=Classical.not_not.1 h
 have hg:=i6 hc
 have hq:bw (bX p)=0:=aag hc
 have MZ:=i6 hq
 have hdl:=@MU p p.offers.length
 have hrq:eE p (eD p)=bX p:=rfl
 have hfl:=@MX (bX p) m hq
 have hu:eU p m=aI (dn (bX p) m) (-1):=rfl
 have SH:=@oz (dn (bX p) m) (-1)
 have hkl:=@MV (bX p) (eU p m) (bX p).offers.length
 have hkq:gU (bX p) (eU p m) (bX p).offers.length=cH (bX p) (eU p m):=rfl
 have om:(bX p).offers.length=(cH p (eD p)).length:=List.length_map _
 have h1:=hg.1
 have h2:=hg.2.1
 have h3:=MZ.1
 have h4:=MZ.2.1
 have hw3:∀{a b:Nat},a=b→(SV.ow 3 a 1).same (SV.ow 3 b 1):=by rintro _ _ rfl;rfl
 have hw5:∀{a b:Nat},a=b→(SV.ow 5 a 1).same (SV.ow 5 b 1):=by rintro _ _ rfl;rfl
 have fa:∀{x y:List Int},x=y→(af.row (.i .i64) x 3 true).same (af.row (.i .i64) y 3 true):=by rintro _ _ rfl;rfl
 simp only[hrq,hq]
 rw[hkq] at hkl
 unfold eD at hdl
 refine⟨by omega,⟨⟨by omega,by omega⟩,by show(jk p p.offers.length).length≤_;omega,aai⟩,⟨m0,m1⟩,fun h=>absurd rfl h,fun _=>⟨⟨⟨⟨hw3 rfl,trivial,trivial⟩,rfl,fa rfl⟩,by omega,by omega⟩,?_⟩⟩
 rintro i ⟨i0,i1⟩
 have hdt:=@oz ((dn (bX p) m).take i.toNat) (-1)
 have htl:((dn (bX p) m).take i.toNat).length≤160:=by rw[List.length_take];omega
 refine⟨fun hi=>?_,fun hi=>?_⟩
 ·have hs:=@Ar (dn (bX p) m) (-1) i i0 hi
  refine⟨i0,hi,by omega,fun h5=>?_,fun h5=>?_⟩
  ·rw[if_pos h5] at hs
   rw[←hs]
   exact⟨by omega,by omega,by omega,⟨hw3 rfl,fa rfl⟩,by omega,by omega⟩
  ·rw[if_neg h5,List.append_nil] at hs
   rw[hs]
   exact⟨by omega,⟨hw3 rfl,fa rfl⟩,by omega,by omega⟩
 ·rw[ZD (by omega),←hu] at*
  refine⟨⟨⟨by omega,by omega⟩,by omega,Aj⟩,⟨⟨⟨by first|trivial|rfl,by first|trivial|rfl⟩,rfl⟩,by omega,by omega⟩,?_⟩
  rintro j ⟨j0,j1⟩
  have hml:(List.map (fun i:Int=>ae (cH p (eD p)) i.toNat 0) (List.take j.toNat (cH (bX p) (eU p m)))).length≤160:=by rw[List.length_map,List.length_take];omega
  refine⟨fun hj=>?_,fun hj=>?_⟩
  ·have hk:=(aah.1 (dQ (d:=0) (show j.toNat<(cH (bX p) (eU p m)).length by omega))).1
   have e:List.map (fun i:Int=>ae (cH p (eD p)) i.toNat 0) (List.take j.toNat (cH (bX p) (eU p m)))++[ae (cH p (eD p)) (ae (cH (bX p) (eU p m)) j.toNat 0).toNat 0]=List.map (fun i:Int=>ae (cH p (eD p)) i.toNat 0) (List.take (j+1).toNat (cH (bX p) (eU p m))):=by
    rw[k9 (d:=0) j0 hj,List.map_append]
    rfl
   rw[e]
   exact⟨j0,hj,by omega,hk.1,by omega,by omega,by omega,by omega,by omega,⟨hw5 rfl,fa rfl⟩,by omega,by omega⟩
  ·have e1:j9 p m=eE (bX p) (eU p m):=by unfold j9;rw[if_pos hc]
   have e2:nf p m=(cH (bX p) (eU p m)).map (fun i=>ae (cH p (eD p)) i.toNat 0):=by unfold nf;rw[if_pos hc]
   rw[e1,e2,List.take_of_length_le (by omega)]
   exact⟨rfl,rfl,hc.symm⟩
theorem vg {p:aE} {i d:Int} {q:Rat} (N:Nat) (h:cF (nF (dN p i d)) (mF p) N (ck p (dN p i d))=true):fE p i d q=(decide (fB p (dN p i d)=0)&&(!fb p (dN p i d)||decide (((gR p (dN p i d):Int):Rat)+(runT (nF (dN p i d)) (mF p) N (ck p (dN p i d))).value<q))):=by
 unfold fE qp e9
 rw[uQ h]
theorem M5:dn three 12=[-1,1,1]:=by
 have hc:bw three=0:=by kernel_rfl
 have m0:fE three 0 1 ((12:Int):Rat)=true:=by rw[vg 6 (by kernel_rfl)];kernel_rfl
 have m1:fE three 1 1 ((12:Int):Rat)=false:=by rw[vg 6 (by kernel_rfl)];kernel_rfl
 have m1':fE three 1 (-1) ((12:Int):Rat)=true:=by rw[vg 6 (by kernel_rfl)];kernel_rfl
 have m2:fE three 2 1 ((12:Int):Rat)=false:=by rw[vg 6 (by kernel_rfl)];kernel_rfl
 have m2':fE three 2 (-1) ((12:Int):Rat)=true:=by rw[vg 6 (by kernel_rfl)];kernel_rfl
 unfold dn
 rw[if_pos hc]
 show[iw three ((12:Int):Rat) 0,iw three ((12:Int):Rat) 1,iw three ((12:Int):Rat) 2]=_
 unfold iw
 rw[m0,m1,m1',m2,m2']
 rfl
def FT:bf:=⟨29,Unit,.nil,fun _=>True,fun _=>ef.put three⟩
theorem h385:Holds Tryz.prog FT:=by
 refine con (L:=[]) FT wV (fun _ _=> .look) (bu.none _) (by simp) (by kernel_rfl) (by kernel_rfl) (fun _=>rfl) ?_
 intro _ _
 refine bh (let z0:=SV.il .i64 1;let z1:=SV.il .i64 0;let z2:=three.supply;(SV.agg [z0,z0,z1,z1,z1,z1,z0,z0,z1,z1,z1,z1,z1,z1,z1,z1,z1,z1,SV.row (ai.i .i64) [(0:Int),(0:Int),(0:Int)],SV.row ai.off [Off.mk (0:Int) (bp.mk (1:Int) (1:Int) (0:Int) (0:Int) (0:Int) (0:Int)) (10:Int),Off.mk (1:Int) (bp.mk (1:Int) (0:Int) (0:Int) (0:Int) (0:Int) (0:Int)) (6:Int),Off.mk (2:Int) (bp.mk (0:Int) (1:Int) (0:Int) (0:Int) (0:Int) (0:Int)) (6:Int)]]).same (SV.agg [SV.si .i64 z2.a0,SV.si .i64 z2.a1,SV.si .i64 z2.a2,SV.si .i64 z2.a3,SV.si .i64 z2.a4,SV.si .i64 z2.a5,SV.si .i64 three.opn.a0,SV.si .i64 three.opn.a1,SV.si .i64 three.opn.a2,SV.si .i64 three.opn.a3,SV.si .i64 three.opn.a4,SV.si .i64 three.opn.a5,SV.si .i64 three.cls.a0,SV.si .i64 three.cls.a1,SV.si .i64 three.cls.a2,SV.si .i64 three.cls.a3,SV.si .i64 three.cls.a4,SV.si .i64 three.cls.a5,SV.row (ai.i .i64) three.classes,SV.row ai.off three.offers])) (by kernel_rfl) ?_
 conv=>zeta
 rfl
def FU:bf:=⟨10,Unit,.nil,fun _=>True,fun _=> .sb true⟩
theorem h376:Holds Tryz.prog FU:=by
 refine con (L:=[FT,vf,FS,FH,FO,r32]) FU wQ (fun _ _=> .look) (bu.none _) (by simpa using⟨h385,h383,h384,h377,h379,h32⟩) (by kernel_rfl) (by kernel_rfl) (fun _=>rfl) ?_
 intro _ _
 refine bh (let z0:=dn three (12:Int);let z1:=decide (ae z0 0 (0:Int)=(-1:Int));let z2:=decide (ae z0 1 (0:Int)=(1:Int));let z3:=decide (ae z0 2 (0:Int)=(1:Int));let z4:=decide ((↑(j9 three (12:Int)).offers.length:Int)=(2:Int));let z5:=nf three (12:Int);let z6:=decide (cmpL z5 [(1:Int),(2:Int)]=(0:Int));True∧((-9223372036854775808:Int)≤(12:Int)∧(12:Int)≤(9223372036854775807:Int))∧True∧((-9223372036854775808:Int)≤(12:Int)∧(12:Int)≤(9223372036854775807:Int))∧True∧True∧True∧1≤1000000000000∧(true=true→(true=true→(0:Int)≤(0:Int)∧(0:Int)<(3:Int)∧0<z0.length∧(z1=true→(0:Int)≤(1:Int)∧(1:Int)<(3:Int)∧1<z0.length∧(z2=true→(0:Int)≤(2:Int)∧(2:Int)<(3:Int)∧2<z0.length∧(z3=true→(true=true→(z4=true→(z5.length≤1000000000000∧2≤1000000000000)∧(z6=true→(true=true→((eD (aE.mk three.supply three.opn three.cls three.classes [Off.mk (0:Int) (bp.mk (1:Int) (0:Int) (0:Int) (0:Int) (0:Int) (0:Int)) (5:Int),Off.mk (0:Int) (bp.mk (1:Int) (1:Int) (0:Int) (0:Int) (0:Int) (0:Int)) (4:Int)])).length≤1000000000000∧1≤1000000000000)∧(true=true→(true=true→((cH three [(1:Int)]).length≤1000000000000∧2≤1000000000000)∧(SV.sb true).same (SV.sb true))∧(true=false→(SV.bl false).same (SV.sb true)))∧(true=false→(SV.bl false).same (SV.sb true)))∧(true=false→(SV.bl false).same (SV.sb true)))∧(z6=false→(SV.bl false).same (SV.sb true)))∧(z4=false→(SV.bl false).same (SV.sb true)))∧(true=false→(SV.bl false).same (SV.sb true)))∧(z3=false→(SV.bl false).same (SV.sb true)))∧(z2=false→(SV.bl false).same (SV.sb true)))∧(z1=false→(SV.bl false).same (SV.sb true)))∧(true=false→(SV.bl false).same (SV.sb true)))∧(true=false→(SV.bl false).same (SV.sb true))) (by kernel_rfl) ?_
 simp only[vcs]
 have hc:bw three=0:=by kernel_rfl
 have q1:bX three=three:=by kernel_rfl
 have u1:eU three 12=[0]:=by unfold eU;rw[q1,M5];kernel_rfl
 have e1:j9 three 12=eE three [0]:=by unfold j9;rw[if_pos hc,q1,u1]
 have e2:nf three 12=[1,2]:=by unfold nf;rw[if_pos hc,q1,u1];kernel_rfl
 have e3:(eE three [0]).offers.length=2:=by kernel_rfl
 have d1:bw ⟨three.supply,three.opn,three.cls,three.classes,[⟨0,⟨1,0,0,0,0,0⟩,5⟩,⟨0,⟨1,1,0,0,0,0⟩,4⟩]⟩=0:=by kernel_rfl
 have d2:eD ⟨three.supply,three.opn,three.cls,three.classes,[⟨0,⟨1,0,0,0,0,0⟩,5⟩,⟨0,⟨1,1,0,0,0,0⟩,4⟩]⟩=[1]:=by kernel_rfl
 have r1:j7 three [1]=0:=by kernel_rfl
 have r2:cH three [1]=[0,2]:=by kernel_rfl
 have c1:cmpL [1,2] [1,2]=0:=by decide
 have c2:cmpL [1] [1]=0:=by decide
 have c3:cmpL [0,2] [0,2]=0:=by decide
 have n0:ae [(-1:Int),1,1] 0 0= -1:=rfl
 have n1:ae [(-1:Int),1,1] 1 0=1:=rfl
 have n2:ae [(-1:Int),1,1] 2 0=1:=rfl
 simp only[M5,e1,e2,e3,hc,d1,d2,r1,r2,c1,c2,c3,n0,n1,n2,if_true]
 simp
theorem FV:∀{l m:List Int},l.Pairwise (·<·)→m.Pairwise (·<·)→(∀x,x∈l↔x∈m)→l=m
 |[],[],_,_,_=>rfl
 |[],y::m,_,_,h=>by have:=(h y).2 (by simp);simp at this
 |x::l,[],_,_,h=>by have:=(h x).1 (by simp);simp at this
 |x::l,y::m,hl,hm,h=>by
  rw[List.pairwise_cons] at hl hm
  have e:x=y:=by
   rcases List.mem_cons.1 ((h x).1 (by simp)) with h1|h1
   ·exact h1
   ·rcases List.mem_cons.1 ((h y).2 (by simp)) with h2|h2
    ·exact h2.symm
    ·have:=hl.1 y h2;have:=hm.1 x h1;omega
  subst e
  congr 1
  refine FV hl.2 hm.2 fun z=>?_
  constructor
  ·intro hz
   rcases List.mem_cons.1 ((h z).1 (List.mem_cons_of_mem _ hz)) with h1|h1
   ·have:=hl.1 z hz;omega
   ·exact h1
  ·intro hz
   rcases List.mem_cons.1 ((h z).2 (List.mem_cons_of_mem _ hz)) with h1|h1
   ·have:=hm.1 z hz;omega
   ·exact h1
section
variable {p:aE} {f t:List Int}
end
theorem sM {p:aE} {i d:Int}:(dN p i d).length=p.offers.length:=by unfold dN;rw[List.length_set,List.length_replicate]
theorem AE {p:aE} {i d:Int} {k:Nat} (hi:0≤i∧i<p.offers.length) (hk:k<p.offers.length):ae (dN p i d) k 0=if(k:Int)=i then d else 0:=by
 unfold dN
 rw[zT (by rw[List.length_replicate];omega)]
 by_cases h:(k:Int)=i
 ·rw[if_pos (by omega),if_pos h]
 ·rw[if_neg (by omega),if_neg h,bF (by rw[List.length_replicate];exact hk),List.getElem_replicate]
theorem aan {p:aE} {i d:Int} (hi:0≤i∧i<p.offers.length) (hd: -1≤d∧d≤1):j6 (dN p i d)=true:=by
 unfold j6
 rw[List.all_eq_true]
 intro x hx
 obtain⟨k,hk,rfl⟩:=List.getElem_of_mem hx
 rw[sM] at hk
 have:=@AE p i d k hi hk
 rw[bF (by rw[sM];exact hk)] at this
 rw[this]
 simp only[Bool.and_eq_true,decide_eq_true_eq]
 split<;>omega
theorem aao {p:aE} {i:Int} (hi:0≤i∧i<p.offers.length):aI (dN p i 1) 1=[i]:=by
 refine FV Aj (by simp) fun x=>?_
 rw[mZ,sM,List.mem_singleton]
 constructor
 ·rintro⟨h1,h2⟩
  rw[AE hi (by omega)] at h2
  by_cases h:((x.toNat:Nat):Int)=i
  ·omega
  ·rw[if_neg h] at h2;omega
 ·rintro rfl
  exact⟨hi,by rw[AE hi (by omega),if_pos (by omega)]⟩
theorem aap {p:aE} {i:Int} (hi:0≤i∧i<p.offers.length):aI (dN p i (-1)) 1=[]:=by
 refine FV Aj (by simp) fun x=>?_
 rw[mZ,sM]
 constructor
 ·rintro⟨h1,h2⟩
  rw[AE hi (by omega)] at h2
  split at h2<;>omega
 ·intro h;simp at h
theorem aaq {p:aE} (hc:bw p=0):fG p []=true:=rR.2 fun r _=>by
 have:=@Ew p hc r
 simp[ca]
 omega
theorem aar {p:aE} {i d:Int} (hc:bw p=0) (hi:0≤i∧i<p.offers.length) (hd:d=1∨d= -1):fb p (dN p i d)=true:=by
 have hr:fB p (dN p i d)=0:=by
  unfold fB
  rw[if_neg (by rw[hc];simp),if_neg (by rw[sM];simp),if_pos (aan hi (by omega))]
 unfold fb kG
 rw[decide_eq_true hr,Bool.true_and]
 rcases hd with rfl|rfl
 ·rw[aao hi]
  have hx:oI p i∈p.offers:=dQ (by omega)
  have ho:=(JB hc).2 _ hx
  unfold fp at ho
  split at ho
  ·rename_i h;exact absurd ho h
  ·split at ho
   ·cases ho
   ·split at ho
    ·cases ho
    ·rename_i h
     show fG p [oI p i]=true
     simpa using h
 ·rw[aap hi]
  exact aaq hc
noncomputable def FW:bf:=⟨13,aE×Int×Int×Int,.cons ef (.cons (cT .i64) (.cons (cT .i64) (.one (cT .i64)))),fun a=>bw a.1=0∧(0≤a.2.1∧a.2.1<a.1.offers.length)∧(a.2.2.1=1∨a.2.2.1= -1)∧ -9223372036854775808≤a.2.2.2∧a.2.2.2≤9223372036854775807,fun a=> .sb (fE a.1 a.2.1 a.2.2.1 (a.2.2.2:Rat))⟩
theorem h425:Holds Tryz.prog FW:=by
 refine con (L:=[Ek,Es]) (W:=gi [Az]) FW xF (fun _ _=> .look) (kZ (by simpa using h390w)) (by simpa using⟨h51,h53⟩) (by kernel_rfl) (by kernel_rfl) (fun _=>rfl) ?_
 rintro⟨p,i,d,m⟩ ⟨hc,hi,hd,m0,m1⟩
 simp only at hc hi hd m0 m1
 refine bh (let z0:=(↑p.offers.length:Int);let z1:=List.replicate z0.toNat (0:Int);let z2:=z1.set i.toNat d;let z3:=decide (fB p z2=(0:Int));let z4:=((fc p z2).fst,(fc p z2).snd.fst,(fc p z2).snd.snd);let z5:=ah (IntCast.intCast m);let z6:=(z5.fst,z5.snd.fst,z5.snd.snd);let z7:=SV.sb (fE p i d (IntCast.intCast m));(0:Int)≤z0∧z0≤z0∧z0*(8:Int)≤(140737488355328:Int)∧z0≤(1000000000000:Int)∧z0.toNat=z1.length∧(0:Int)≤i∧i<(↑z1.length:Int)∧z0.toNat=z1.length∧i.toNat<z1.length∧(z0.toNat=z2.length∧z2.length≤1000000000000)∧(z3=true→(fb p z2=true→((-9223372036854775808:Int)≤m∧m≤(9223372036854775807:Int))∧(jB z4∧jB z6)∧(SV.sb (decide (ik (aO z4) (aO z6)<(0:Int)))).same z7)∧(fb p z2=false→(SV.bl false).same z7))∧(z3=false→(SV.bl false).same z7)) (by kernel_rfl) ?_
 simp only[vcs]
 have hcast:∀k:Nat,((k:Nat):Int).toNat=k:=fun k=>Int.toNat_natCast k
 have hf:(List.replicate p.offers.length 0).set i.toNat d=dN p i d:=rfl
 have h160:=(i6 hc).2.1
 have hsl:=@sM p i d
 have hrl:(List.replicate p.offers.length (0:Int)).length=p.offers.length:=List.length_replicate
 have hok:=aar hc hi hd
 have hfe:fB p (dN p i d)=0:=(by
  unfold fb at hok
  rw[Bool.and_eq_true,decide_eq_true_eq] at hok
  exact hok.1)
 have e:fc p (dN p i d)=ah (qp p (dN p i d)):=by unfold fc;rw[if_pos hok]
 simp only[hcast,hf,hsl,hrl,e,hok,hfe,gP,cb]
 have h1:Sz 3 (IntCast.intCast m:Rat):=by
  unfold Sz
  rw[show(IntCast.intCast m:Rat)=((m:Int):Rat) from rfl,Rat.num_intCast,Rat.den_intCast]
  omega
 refine⟨by omega,by omega,by omega,by omega,trivial,hi.1,hi.2,trivial,by omega,⟨trivial,by omega⟩,fun _=>⟨fun _=>⟨⟨m0,m1⟩,⟨⟨_,_,rfl,MW hok,by omega⟩,⟨_,_,rfl,h1,by omega⟩⟩,?_⟩,fun h=>(by cases h)⟩,fun h=>absurd trivial h⟩
 unfold fE
 rw[hfe,hok,decide_eq_true rfl,Bool.true_and,Bool.not_true,Bool.false_or]
 exact decide_eq_decide.2 LE
noncomputable def FX:bf:=⟨3,aE×Int,.cons ef (.one (cT .i64)),fun a=> -9223372036854775808≤a.2∧a.2≤9223372036854775807,fun _=> .sb true⟩
noncomputable def aas (p:aE) (m:Int):Nat→bz
 |10=> .inv Int (fun i=>⟨[(1,.si .i64 m),(2,.ptr 0 0 20),(5,.row (.i .i64) (dn p m)),(8,.si .i64 i)],[.cells p.ss 27 20 false]⟩)
   (fun s=>iS s 8) (fun i=>0≤i∧i≤(dn p m).length) (fun i=>((dn p m).length - i).toNat) fun _ _=> .look
 |_=> .look
theorem h418:Holds Tryz.prog FX:=by
 refine con (L:=[FU,vf,Dl,FW]) FX xE (fun a=>aas a.1 a.2) (bu.none _) (by simpa using⟨h376,h383,h24,h425⟩) (by kernel_rfl) (by kernel_rfl) (fun _=>rfl) ?_
 rintro⟨p,m⟩ ⟨m0,m1⟩
 simp only at m0 m1
 refine bh (let z0:=decide ((8:Int)<(↑p.classes.length:Int));let z1:=(↑p.offers.length:Int);let z2:=decide ((12:Int)<z1);let z3:=decide (bw p≠(0:Int));let z4:=decide (bw p=bw p);let z5:=(dn p m).length;let z6:=(↑z5:Int);let z7:=decide (z6=(0:Int));let z8:=SV.ptr 0 0 20;let z9:=SV.row (ai.i .i64) (dn p m);let ak:=af.cells (aE.ss p) 27 20 false;let al:=(↑(dn p m).length:Int);let z12:=(↑p.offers.length:Int);(z0=true→True∧(SV.sb true).same (SV.sb true))∧(z0=false→(z2=true→True∧(SV.sb true).same (SV.sb true))∧(z2=false→((-9223372036854775808:Int)≤m∧m≤(9223372036854775807:Int))∧True∧(z3=true→(z4=true→(z7=true→True∧(SV.sb true).same (SV.sb true))∧(z7=false→(SV.bl false).same (SV.sb true)))∧(z4=false→(SV.bl false).same (SV.sb true)))∧(z3=false→(z3=true→(SV.bl false).same (SV.sb true))∧(z3=false→(decide (z6≠z1)=true→(SV.bl false).same (SV.sb true))∧(decide (z6≠z1)=false→((((SV.si .i64 m).same (SV.si .i64 m)∧z8.same z8∧z9.same z9∧(SV.il .i64 0).same (SV.si .i64 0)∧True)∧ak.same ak∧True)∧(0:Int)≤(0:Int)∧(0:Int)≤al)∧∀(x:Int),let au:=fE p x (1:Int) (IntCast.intCast m);let ar:=ae (dn p m) x.toNat (0:Int);let ax:=decide (ar≠(-1:Int));let ay:=x+(1:Int);let z17:=SV.si .i64 ay;let aG:=fE p x (-1:Int) (IntCast.intCast m);let aH:=decide (ar≠(1:Int));let z20:=decide (ar≠(0:Int));(0:Int)≤x∧x≤al→(decide (x<z6)=true→(bw p=(0:Int)∧((0:Int)≤x∧x<z12)∧((1:Int)=(1:Int)∨(1:Int)=(-1:Int))∧(-9223372036854775808:Int)≤m∧m≤(9223372036854775807:Int))∧(au=true→(0:Int)≤x∧x<z6∧x.toNat<z5∧(ax=true→(SV.bl false).same (SV.sb true))∧(ax=false→aC .i64 ay∧(((SV.si .i64 m).same (SV.si .i64 m)∧z8.same z8∧z9.same z9∧z17.same z17∧True)∧ak.same ak∧True)∧((0:Int)≤ay∧ay≤al)∧(al - ay).toNat<(al - x).toNat))∧(au=false→(bw p=(0:Int)∧((0:Int)≤x∧x<z12)∧((-1:Int)=(1:Int)∨(-1:Int)=(-1:Int))∧(-9223372036854775808:Int)≤m∧m≤(9223372036854775807:Int))∧(aG=true→(0:Int)≤x∧x<z6∧x.toNat<z5∧(aH=true→(SV.bl false).same (SV.sb true))∧(aH=false→aC .i64 ay∧(((SV.si .i64 m).same (SV.si .i64 m)∧z8.same z8∧z9.same z9∧z17.same z17∧True)∧ak.same ak∧True)∧((0:Int)≤ay∧ay≤al)∧(al - ay).toNat<(al - x).toNat))∧(aG=false→(0:Int)≤x∧x<z6∧x.toNat<z5∧(z20=true→(SV.bl false).same (SV.sb true))∧(z20=false→aC .i64 ay∧(((SV.si .i64 m).same (SV.si .i64 m)∧z8.same z8∧z9.same z9∧z17.same z17∧True)∧ak.same ak∧True)∧((0:Int)≤ay∧ay≤al)∧(al - ay).toNat<(al - x).toNat))))∧(decide (x<z6)=false→True∧(SV.sb true).same (SV.sb true)))))))) (by kernel_rfl) ?_
 simp only[vcs]
 refine⟨fun _=>trivial,fun _=>⟨fun _=>trivial,fun h12=>⟨⟨m0,m1⟩,fun hc=>⟨fun _=>⟨fun _=>trivial,fun h=>?_⟩,fun h=>absurd trivial h⟩,fun h=>?_⟩⟩⟩
 ·have:dn p m=[]:=by unfold dn;rw[if_neg hc]
  rw[this] at h
  exact absurd rfl h
 have hc:bw p=0:=Classical.not_not.1 h
 have hl:=@MX p m hc
 rw[hl]
 have hv:∀i:Int,0≤i→i<p.offers.length→ae (dn p m) i.toNat 0=iw p (IntCast.intCast m) i:=fun i i0 i1=>by
  unfold dn
  rw[if_pos hc,uR (e:=0) (by rw[e8];omega),uS (by omega),Int.toNat_of_nonneg i0]
 refine⟨fun h=>absurd hc h,fun _=>⟨fun h=>absurd rfl h,fun _=>⟨⟨by omega,by omega⟩,?_⟩⟩⟩
 rintro i ⟨i0,i1⟩
 refine⟨fun hi=>⟨⟨hc,⟨i0,hi⟩,.inl trivial,m0,m1⟩,fun h1=>?_,fun h1=>⟨⟨hc,⟨i0,hi⟩,.inr trivial,m0,m1⟩,fun h2=>?_,fun h2=>?_⟩⟩,fun _=>trivial⟩
 all_goals
  have hn:=hv i i0 hi
  unfold iw at hn
 ·rw[if_pos h1] at hn
  exact⟨i0,hi,by omega,fun h=>absurd hn h,fun _=>⟨by omega,by omega,by omega⟩⟩
 ·rw[if_neg (by rw[h1];simp),if_pos h2] at hn
  exact⟨i0,hi,by omega,fun h=>absurd hn h,fun _=>⟨by omega,by omega,by omega⟩⟩
 ·rw[if_neg (by rw[h1];simp),if_neg (by rw[h2];simp)] at hn
  exact⟨i0,hi,by omega,fun h=>absurd hn h,fun _=>⟨by omega,by omega,by omega⟩⟩
end Go.Vi
