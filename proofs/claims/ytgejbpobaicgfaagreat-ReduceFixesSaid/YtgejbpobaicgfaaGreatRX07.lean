/-
  Contracts: valid problems, feasible lists.
  Conditions: none.
-/
import Derived.Test.YtgejbpobaicgfaaGreatRX06
import Derived.Test.YtgejbpobaicgfaaGreatRows
import Derived.ProofKit
import Derived.KernelRfl
set_option maxRecDepth 100000
set_option maxHeartbeats 4000000
set_option linter.unusedSimpArgs false
set_option linter.unusedVariables false
namespace Go.Vi
open Go.Proofs.YtgejbpobaicgfaaGreat.Ir
open Go.Proofs
def L5:List bf:=C6::Dc::L4
theorem hL5:∀c∈L5,Holds Tryz.prog c:=by
 simp only[L5,List.forall_mem_cons]
 exact⟨h118,h119,hL4⟩
def Off.key (o:Off):iC:=⟨o.bD,o.want⟩
def ej (p:aE) (seen:List iC):List Off→Int
 |[]=>0
 |o::r=>if fp p o≠0 then fp p o else if o.key∈seen then 7 else ej p (seen++[o.key]) r
def bw (p:aE):Int:=if eB p≠0 then eB p else ej p [] p.offers
def nT:bf:=⟨33,aE,.one ef,fun p=>True,fun p=> .si .i64 (bw p)⟩
def WJ (p:aE):Nat→bz
 |7=> .inv Int (fun i=>⟨[(3,.ptr 1 0 20),(5,.mp 2),(19,.row .off p.offers),(20,.si .i64 p.offers.length),(21,.si .i64 i)],
   [.cells p.ss 27 20 false,.cells p.ss 98 20 false,.map .key .b true ((p.offers.take i.toNat).map fun o=>(o.key,true)) ([0,0,0,0,0,0,0],true) true]⟩) (fun s=>iS s 21)
  (fun i=>0≤i∧i≤p.offers.length∧ej p [] p.offers=ej p ((p.offers.take i.toNat).map Off.key) (p.offers.drop i.toNat)) (fun i=>(p.offers.length - i).toNat) fun _ _=> .look
 |_=> .look
theorem pT {α:Type} {l:List α} {i:Int} {d:α} (h0:0≤i) (h:i<l.length):l.drop i.toNat=ae l i.toNat d::l.drop (i+1).toNat:=by
 rw[show(i+1).toNat=i.toNat+1 from by omega,bF (by omega),List.drop_eq_getElem_cons (by omega)]
theorem zg (k:iC):∀(l:List Off),(jv .key .b k (l.map fun o=>(o.key,true))).getD false=decide (k∈l.map Off.key)
 |[]=>by simp[jv]
 |o::l=>by
  have:=zg k l
  simp only[jv] at this ⊢
  rw[List.map_cons,List.find?_cons]
  by_cases h:o.key=k
  ·simp[h]
  ·simp only[h,decide_false,List.map_cons,List.mem_cons]
   rw[this]
   have:¬k=o.key:=fun e=>h e.symm
   simp[this]
theorem WL {sk sv:ai} {ka:Bool} {es es':List (sk.T×sv.T)} {kt:List Nat×Bool} {pu:Bool} (h:es=es'):(af.map sk sv ka es kt pu).same (.map sk sv ka es' kt pu):=by rw[h];rfl
theorem WM {k:iC} {l:List Off} (h:k∉l.map Off.key):mI .key .b k true (l.map fun o=>(o.key,true))=(l.map fun o=>(o.key,true))++[(k,true)]:=
 Cd fun p hp=>by
  obtain⟨o,ho,rfl⟩:=List.mem_map.1 hp
  rintro rfl
  exact h (List.mem_map.2 ⟨o,ho,rfl⟩)
theorem h79:Holds Tryz.prog nT:=by
 refine con (L:=L5) nT vH WJ (bu.none _) hL5 (by kernel_rfl) (by kernel_rfl) (fun _=>rfl) ?_
 intro p _
 refine bh (let z0:=decide (eB p≠(0:Int));let z1:=SV.si .i64 (bw p);let z2:=SV.ptr 1 0 20;let z3:=SV.row ai.off p.offers;let z4:=(↑p.offers.length:Int);let z5:=(↑p.offers.length:Int);let z6:=SV.si .i64 z5;let z7:=SV.il .i64 0;let z8:=[SV.si .i64 p.supply.a0,SV.si .i64 p.supply.a1,SV.si .i64 p.supply.a2,SV.si .i64 p.supply.a3,SV.si .i64 p.supply.a4,SV.si .i64 p.supply.a5,SV.si .i64 p.opn.a0,SV.si .i64 p.opn.a1,SV.si .i64 p.opn.a2,SV.si .i64 p.opn.a3,SV.si .i64 p.opn.a4,SV.si .i64 p.opn.a5,SV.si .i64 p.cls.a0,SV.si .i64 p.cls.a1,SV.si .i64 p.cls.a2,SV.si .i64 p.cls.a3,SV.si .i64 p.cls.a4,SV.si .i64 p.cls.a5,SV.row (ai.i .i64) p.classes,z3];let z9:=af.cells z8 27 20 false;let ak:=af.cells z8 98 20 false;let al:=([0,0,0,0,0,0,0],true);let z12:=af.map ai.key ai.b true [] al true;let au:=ej p [] p.offers;let ar:=ai.off.dflt;True∧(z0=true→(SV.si .i64 (eB p)).same z1)∧(z0=false→(((z2.same z2∧(SV.mp 2).same (SV.mp 2)∧z3.same z3∧(SV.si .i64 z4).same z6∧z7.same (SV.si .i64 0)∧True)∧z9.same z9∧ak.same ak∧z12.same z12∧True)∧(0:Int)≤(0:Int)∧(0:Int)≤z5∧au=au)∧∀(x:Int),let ax:=List.take x.toNat p.offers;let ay:=ae p.offers x.toNat ar;let z17:=decide (fp p ay≠(0:Int));let aG:=iC.mk ay.bD ay.want;let aH:=List.map (fun o ↦(o.key,true)) ax;let z20:=(jv ai.key ai.b aG aH).getD false;let z21:=x+(1:Int);let z22:=SV.si .i64 z21;let z23:=List.take z21.toNat p.offers;(0:Int)≤x∧x≤z5∧au=ej p (List.map Off.key ax) (List.drop x.toNat p.offers)→(decide (x<z5)=true→(0:Int)≤x∧x<z4∧x.toNat<p.offers.length∧p.classes.length≤8∧(z17=true→(SV.si .i64 (fp p ay)).same z1)∧(z17=false→(z20=true→(SV.il .i64 7).same z1)∧(z20=false→aC .i64 z21∧((z2.same z2∧(SV.mp 2).same (SV.mp 2)∧z3.same z3∧z6.same z6∧z22.same z22∧True)∧z9.same z9∧ak.same ak∧(af.map ai.key ai.b true (mI ai.key ai.b aG true aH) al true).same (af.map ai.key ai.b true (List.map (fun o ↦(o.key,true)) z23) al true)∧True)∧((0:Int)≤z21∧z21≤z5∧au=ej p (List.map Off.key z23) (List.drop z21.toNat p.offers))∧(z5 - z21).toNat<(z5 - x).toNat)))∧(decide (x<z5)=false→z7.same z1))) (by kernel_rfl) ?_
 simp only[vcs]
 refine⟨fun h=>by simp[bw,h],fun h=>?_⟩
 have hz:eB p=0:=Classical.not_not.1 h
 obtain⟨f1,f2,f3,f4,f5⟩:=C9 hz
 refine⟨⟨by omega,by omega⟩,?_⟩
 rintro i ⟨hi0,hi1,hi⟩
 refine⟨fun hlt=>?_,fun hge=>?_⟩
 ·rw[pT (d:=ai.off.dflt) hi0 hlt] at hi
  generalize hx:ae p.offers i.toNat ai.off.dflt=x at hi ⊢
  refine⟨by omega,by omega,by omega,f3,fun he=>?_,fun he=>?_⟩
  ·simp only[ej,if_pos he] at hi
   simp[bw,hz,hi]
  ·simp only[ej,if_neg he] at hi
   have hk:(⟨x.bD,x.want⟩:iC)=x.key:=rfl
   simp only[hk]
   refine⟨fun hm=>?_,fun hm=>⟨by omega,?_,⟨by omega,by omega,?_⟩,by omega⟩⟩
   ·have hm2:=of_decide_eq_true ((zg _ _).symm.trans hm)
    rw[if_pos hm2] at hi
    simp[bw,hz,hi]
   ·have hm2:=of_decide_eq_false ((zg _ _).symm.trans hm)
    apply WL
    rw[WM hm2,k9 (d:=ai.off.dflt) hi0 hlt,hx]
    simp
   ·have hm2:=of_decide_eq_false ((zg _ _).symm.trans hm)
    rw[if_neg hm2] at hi
    rw[hi,k9 (d:=ai.off.dflt) hi0 hlt,hx]
    simp
 ·rw[show i.toNat=p.offers.length from by omega,List.drop_length] at hi
  simp only[ej] at hi
  simp[bw,hz,hi]
def lO (l:List Off) (last:Int):List Int→Option (List Off)
 |[]=>some []
 |i::r=>if i≤last∨l.length≤i then none else(lO l i r).map (ae l i.toNat ai.off.dflt::·)
def zh (p:aE) (c:List Int):Bool:=(lO p.offers (-1) c).isSome
theorem JA {p:aE}:∀{l:List Off} {seen:List iC},ej p seen l=0→∀x∈l,fp p x=0
 |[],_,_=>by simp
 |o::r,seen,h=>by
  simp only[ej] at h
  split at h
  ·rename_i h1;exact absurd h h1
  ·rename_i h1
   split at h
   ·cases h
   ·intro x hx
    rcases List.mem_cons.1 hx with rfl|hx
    ·exact Classical.not_not.1 h1
    ·exact JA h x hx
theorem JB {p:aE} (h:bw p=0):eB p=0∧∀x∈p.offers,fp p x=0:=by
 unfold bw at h
 split at h
 ·rename_i h1;exact absurd h h1
 ·rename_i h1;exact⟨Classical.not_not.1 h1,JA h⟩
theorem WN {p:aE} {o:Off} (h:fp p o=0):fH p.classes.length o=0∧o.want≠bp.zero∧fG p [o]=true:=by
 unfold fp at h
 split at h
 ·rename_i h1;exact absurd h h1
 ·rename_i h1
  split at h
  ·cases h
  ·split at h
   ·cases h
   ·rename_i h2 h3
    exact⟨Classical.not_not.1 h1,h2,by simpa using h3⟩
def bp.meet (a b:bp):bp:=⟨min a.a0 b.a0,min a.a1 b.a1,min a.a2 b.a2,min a.a3 b.a3,min a.a4 b.a4,min a.a5 b.a5⟩
def bp.le (a b:bp):Bool:=decide (a.a0≤b.a0)&&decide (a.a1≤b.a1)&&decide (a.a2≤b.a2)&&decide (a.a3≤b.a3)&&decide (a.a4≤b.a4)&&decide (a.a5≤b.a5)
theorem bp.le_iff {a b:bp}:a.le b=true↔a.a0≤b.a0∧a.a1≤b.a1∧a.a2≤b.a2∧a.a3≤b.a3∧a.a4≤b.a4∧a.a5≤b.a5:=by
 simp[bp.le,and_assoc]
theorem WO {x y:Int}:min x y=x↔x≤y:=by
 rw[Int.min_def]
 split<;>omega
theorem WP {a b:List SV}:(SV.agg a).same (.agg b)↔gL a=gL b:=by simp[SV.same,SV.g]
def Df:bf:=⟨165,bp×bp,.cons (dc .dy) (.one (dc .dy)),fun _=>True,fun a=> .agg (encS .dy (a.1.meet a.2))⟩
theorem h163:Holds Tryz.prog Df:=by
 refine con (L:=[]) Df wI (fun _=>fun _=> .mJ 7) (bu.none _) (by simp) (by kernel_rfl) (by kernel_rfl) (fun _=>rfl) ?_
 rintro⟨a,b⟩ _
 refine bh ((SV.agg [SV.si .i64 (min a.a0 b.a0),SV.si .i64 (min a.a1 b.a1),SV.si .i64 (min a.a2 b.a2),SV.si .i64 (min a.a3 b.a3),SV.si .i64 (min a.a4 b.a4),SV.si .i64 (min a.a5 b.a5)]).same (SV.agg [SV.si .i64 (a.meet b).a0,SV.si .i64 (a.meet b).a1,SV.si .i64 (a.meet b).a2,SV.si .i64 (a.meet b).a3,SV.si .i64 (a.meet b).a4,SV.si .i64 (a.meet b).a5])) (by kernel_rfl) ?_
 simp only[vcs,WP,gL,SV.g,bp.meet,and_self]
def Dh:bf:=⟨138,bp×bp,.cons (dc .dy) (.one (dc .dy)),fun _=>True,fun a=> .sb (a.1.le a.2)⟩
theorem h144:Holds Tryz.prog Dh:=by
 refine con (L:=[Df]) Dh wq (fun _=>fun _=> .mJ 7) (bu.none _) (by simpa using h163) (by kernel_rfl) (by kernel_rfl) (fun _=>rfl) ?_
 rintro⟨a,b⟩ _
 refine bh (True∧(SV.sb (decide ((a.meet b).a0=a.a0)&&(decide ((a.meet b).a1=a.a1)&&(decide ((a.meet b).a2=a.a2)&&(decide ((a.meet b).a3=a.a3)&&(decide ((a.meet b).a4=a.a4)&&(decide ((a.meet b).a5=a.a5)&&true))))))).same (SV.sb (a.le b))) (by kernel_rfl) ?_
 simp only[vcs,bp.meet]
 rw[Bool.eq_iff_iff]
 simp only[Bool.and_eq_true,decide_eq_true_eq,bp.le_iff,Bool.and_true,WO]
structure L8 where
 (l0 l1 l2 l3 l4 l5 l6 l7:List Off)
structure JC where
 p:aE
 ls:L8
 es:List (Sit×Int)
def JC.o (s:JC):a8:=
 [.cells [.si .i64 s.p.supply.a0,.si .i64 s.p.supply.a1,.si .i64 s.p.supply.a2,.si .i64 s.p.supply.a3,.si .i64 s.p.supply.a4,.si .i64 s.p.supply.a5,
  .si .i64 s.p.opn.a0,.si .i64 s.p.opn.a1,.si .i64 s.p.opn.a2,.si .i64 s.p.opn.a3,.si .i64 s.p.opn.a4,.si .i64 s.p.opn.a5,
  .si .i64 s.p.cls.a0,.si .i64 s.p.cls.a1,.si .i64 s.p.cls.a2,.si .i64 s.p.cls.a3,.si .i64 s.p.cls.a4,.si .i64 s.p.cls.a5,
  .row (.i .i64) s.p.classes,.row .off s.p.offers,.row .off s.ls.l0,.row .off s.ls.l1,.row .off s.ls.l2,.row .off s.ls.l3,.row .off s.ls.l4,.row .off s.ls.l5,.row .off s.ls.l6,.row .off s.ls.l7,.mp 1] 99999 29 false,
  .map .sit (.i .i64) true s.es ([0,0,0,0,0,0,0,0,0,0,0,0,0],true) true]
def oc (c w cl j k:Int):Int:=if j<k∧(c=0∨c=cl) then 0 else w
def rT (p:aE) (x:Off):Int:=ae p.classes x.bD.toNat 0
def WQ (p:aE) (x:Off) (k:Int):bp:=⟨oc p.cls.a0 x.want.a0 (rT p x) 0 k,oc p.cls.a1 x.want.a1 (rT p x) 1 k,oc p.cls.a2 x.want.a2 (rT p x) 2 k,oc p.cls.a3 x.want.a3 (rT p x) 3 k,oc p.cls.a4 x.want.a4 (rT p x) 4 k,oc p.cls.a5 x.want.a5 (rT p x) 5 k⟩
def WR (p:aE) (x:Off):bp:=WQ p x 6
def Sit.b (a:Sit):Prop:=a.left.ok=true∧a.opn.ok=true
end Go.Vi
namespace Go.Proofs.YtgejbpobaicgfaaGreat
open Go.ChangeShapes Go.WideShapes Go.ChangeAt Go.RowKit Go.Vi
theorem Tryz.own:ownKnob Tryz.prog.godebug=none:=by kernel_rfl
theorem Tryz.laidOut:laidOutB Tryz.prog=true:=by kernel_rfl
theorem WS:Reads Tryz.prog 3 (.i .i64):=Wg Tryz.underlying3
theorem JD:Reads Tryz.prog 23 .dy:=Wl Tryz.underlying23 Tryz.underlying3 (by kernel_rfl) (by kernel_rfl)
theorem WT:Reads Tryz.prog 58 .off:=Wn Tryz.underlying58 (by kernel_rfl) rfl rfl rfl Tryz.underlying3 (by kernel_rfl) Tryz.underlying2 (by kernel_rfl) JD (by kernel_rfl) rfl
theorem WU {H:Type} {enc:TypeId×Value→H} {w:World} {spare:Nat→Bool} {held:Bool} {fuel:Nat} {cs:List Value} {x:DataW H×List MemPlace} (h:DataW.trod enc Tryz.prog w 0 spare held fuel 27 cs=some x):
  ∃p:aE,aA iG w [] [] (gL p.ss) cs:=
 Wp Tryz.underlying27 (by kernel_rfl) rfl rfl rfl rfl rfl rfl JD (by kernel_rfl) Tryz.underlying24 WS (by kernel_rfl) (by kernel_rfl) Tryz.underlying25 WT (by kernel_rfl) (by kernel_rfl) h
theorem WV {f:FuncId} {args:List SV} (h:iQ Tryz.prog f (gL args) [] (SV.sb true).g []) {W:World} {vs:List Value} (hr:aA iG W [] [] (gL args) vs):
  Calls Tryz.prog f vs.toArray W fun e W'=>e= .returned (.bool true)∧Below W.heap.size W W':=by
 refine(h iG W [] vs (xW W (fun b hb=>hb.elim)) hr).mono ?_
 rintro e W' ⟨u,σ',rfl,_,hu,hx⟩
 simp only[SV.g,aj] at hu
 exact⟨by rw[hu.1],Wt hx⟩
theorem WW {W:World} (n:Int):aj iG W [] [] ((cT .i64).put n).g (.int .i64 n):=by
 simp[cT,SV.g,aj,Value.oneCell']
end Go.Proofs.YtgejbpobaicgfaaGreat
namespace Go.Vi
open Go.ChangeShapes Go.WideShapes Go.RowKit
def WX (P:Program) (t:TypeId) (s:ai) (Q:s.T→Prop):Prop:=
 ∀(H:Type) (enc:TypeId×Value→H) (w:World) (spare:Nat→Bool) (held:Bool) (fuel:Nat) (cs:List Value) (x:DataW H×List MemPlace),DataW.trod enc P w 0 spare held fuel t cs=some x→∃y:s.T,Q y∧aA iG w [] [] (bP s y) cs
theorem y7.q {P:Program} {t:TypeId} {s:ai} (h:y7 P t s):WX P t s fun _=>True:=fun H enc w spare held fuel cs x hx=>by
 obtain⟨y,hy⟩:=h H enc w spare held fuel cs x hx
 exact⟨y,trivial,hy⟩
end Go.Vi
namespace Go.Proofs.YtgejbpobaicgfaaGreat
open Go.ChangeShapes Go.WideShapes Go.ChangeAt Go.RowKit Go.Vi
end Go.Proofs.YtgejbpobaicgfaaGreat
namespace Go.Proofs.YtgejbpobaicgfaaGreat
open Go.ChangeShapes Go.WideShapes Go.ChangeAt Go.RowKit Go.Vi
theorem WY {H:Type} {enc:TypeId×Value→H} {w:World} {spare:Nat→Bool} {held:Bool} {fuel:Nat} {cs:List Value} {x:DataW H×List MemPlace} (h:DataW.trod enc Tryz.prog w 0 spare held fuel 2 cs=some x):
  ∃n:Int,(-9223372036854775808≤n∧n≤9223372036854775807)∧cs=[.int .i64 n]:=by
 obtain⟨n,rfl,_,hw⟩:=DataW.trod_int Tryz.underlying2 h
 simp only[Lit.wf,Bool.and_eq_true,decide_eq_true_eq] at hw
 exact⟨n,hw,rfl⟩
end Go.Proofs.YtgejbpobaicgfaaGreat
namespace Go.Vi
open Go.Proofs.YtgejbpobaicgfaaGreat.Ir
open Go.Proofs
def Good (p:aE):Prop:=p.classes.length≤8∧p.offers.length≤160∧p.supply.ok=true∧p.opn.ok=true∧∀x∈p.offers,0≤x.bD∧x.bD<p.classes.length∧x.want.ok=true∧1≤x.value∧x.value≤1000000
theorem i6 {p:aE} (h:bw p=0):Good p:=by
 obtain⟨hf,ho⟩:=JB h
 obtain⟨f1,f2,f3,f4,f5⟩:=C9 hf
 refine⟨f3,f4,f1,?_,fun x hx=>?_⟩
 ·have hs:=bp.t6.1 f1
  have g0:=kC.1 (f2 0 (by omega))
  have g1:=kC.1 (f2 1 (by omega))
  have g2:=kC.1 (f2 2 (by omega))
  have g3:=kC.1 (f2 3 (by omega))
  have g4:=kC.1 (f2 4 (by omega))
  have g5:=kC.1 (f2 5 (by omega))
  simp[ae] at g0 g1 g2 g3 g4 g5
  exact bp.t6.2 (by omega)
 ·have hs:=Jz (WN (ho x hx)).1
  exact⟨hs.1,hs.2.1,hs.2.2.2.2,hs.2.2.1,hs.2.2.2.1⟩
def three:aE:=⟨⟨1,1,0,0,0,0⟩,⟨1,1,0,0,0,0⟩,bp.zero,[0,0,0],[⟨0,⟨1,1,0,0,0,0⟩,10⟩,⟨1,⟨1,0,0,0,0,0⟩,6⟩,⟨2,⟨0,1,0,0,0,0⟩,6⟩]⟩
end Go.Vi
namespace Go.Proofs.YtgejbpobaicgfaaGreat
open Go.ChangeShapes Go.WideShapes Go.ChangeAt Go.RowKit Go.Vi
end Go.Proofs.YtgejbpobaicgfaaGreat
namespace Go.Vi
open Go.Proofs.YtgejbpobaicgfaaGreat.Ir
open Go.Proofs
def Di:bf:=⟨38,bp,.one (dc .dy),fun _=>True,fun b=> .sb b.ok⟩
theorem h68:Holds Tryz.prog Di:=by
 refine con (L:=[]) Di vF (fun _ _=> .mJ 7) (bu.none _) (by simp) (by kernel_rfl) (by kernel_rfl) (fun _=>rfl) ?_
 intro b _
 refine bh (let z0:=decide (b.a0<(0:Int));let z1:=decide ((4:Int)<b.a0);let z2:=decide (b.a1<(0:Int));let z3:=decide ((4:Int)<b.a1);let z4:=decide (b.a2<(0:Int));let z5:=decide ((4:Int)<b.a2);let z6:=decide (b.a3<(0:Int));let z7:=decide ((4:Int)<b.a3);let z8:=decide (b.a4<(0:Int));let z9:=decide ((4:Int)<b.a4);let ak:=decide (b.a5<(0:Int));let al:=decide ((4:Int)<b.a5);(z0=true→(SV.bl false).same (SV.sb (bp.ok b)))∧(z0=false→(z1=true→(SV.bl false).same (SV.sb (bp.ok b)))∧(z1=false→(z2=true→(SV.bl false).same (SV.sb (bp.ok b)))∧(z2=false→(z3=true→(SV.bl false).same (SV.sb (bp.ok b)))∧(z3=false→(z4=true→(SV.bl false).same (SV.sb (bp.ok b)))∧(z4=false→(z5=true→(SV.bl false).same (SV.sb (bp.ok b)))∧(z5=false→(z6=true→(SV.bl false).same (SV.sb (bp.ok b)))∧(z6=false→(z7=true→(SV.bl false).same (SV.sb (bp.ok b)))∧(z7=false→(z8=true→(SV.bl false).same (SV.sb (bp.ok b)))∧(z8=false→(z9=true→(SV.bl false).same (SV.sb (bp.ok b)))∧(z9=false→(ak=true→(SV.bl false).same (SV.sb (bp.ok b)))∧(ak=false→(al=true→(SV.bl false).same (SV.sb (bp.ok b)))∧(al=false→(SV.bl true).same (SV.sb (bp.ok b))))))))))))))) (by kernel_rfl) ?_
 conv=>zeta
 have hb:=@bp.t6 b
 by_cases h:b.ok=true
 ·have h2:=hb.1 h
  simp only[decide_eq_true_eq,decide_eq_false_iff_not,y9,eq_self,true_and,h,if_true]
  repeat' (first|refine And.intro ?_ ?_|intro _)
  all_goals first|trivial|omega|(exfalso;omega)
 ·have h2:=mt hb.2 h
  have h3:b.ok=false:=by simpa using h
  simp only[decide_eq_true_eq,decide_eq_false_iff_not,y9,eq_self,true_and,h3]
  repeat' (first|refine And.intro ?_ ?_|intro _)
  all_goals first|trivial|omega|(exfalso;omega)
def lc (p:aE) (r:Int) (o:Off):Int:=
 if r - p.classes.length<0 then(if o.bD=r then 1 else 0)
 else if r - p.classes.length<6 then ae [o.want.a0,o.want.a1,o.want.a2,o.want.a3,o.want.a4,o.want.a5] (r - p.classes.length).toNat 0
 else if ae [p.cls.a0,p.cls.a1,p.cls.a2,p.cls.a3,p.cls.a4,p.cls.a5] (r - p.classes.length - 6).toNat 0=0∨p.classes.length≤o.bD∨ae [p.cls.a0,p.cls.a1,p.cls.a2,p.cls.a3,p.cls.a4,p.cls.a5] (r - p.classes.length - 6).toNat 0=ae p.classes o.bD.toNat 0 then 0
 else ae [o.want.a0,o.want.a1,o.want.a2,o.want.a3,o.want.a4,o.want.a5] (r - p.classes.length - 6).toNat 0
theorem WZ {p:aE} {r:Int} {o:Off} (h:o.bD<p.classes.length):lc p r o=fF p r o:=by
 unfold lc fF
 have:¬(p.classes.length:Int)≤o.bD:=by omega
 simp only[this,false_or]
def Dj:bf:=⟨70,aE×Int×Off,.cons ef (.cons (cT .i64) (.one (dc .off))),fun a=>a.1.classes.length≤8∧0≤a.2.1∧a.2.1<bY a.1∧0≤a.2.2.bD,
 fun a=> .aD [.si .i64 (lc a.1 a.2.1 a.2.2),.si .i64 (b9 a.1 a.2.1)]⟩
theorem h110:Holds Tryz.prog Dj:=by
 refine con (L:=[]) Dj vT (fun _ _=> .mJ 7) (bu.none _) (by simp) (by kernel_rfl) (by kernel_rfl) (fun _=>rfl) ?_
 rintro⟨p,r,x⟩ ⟨hp,h1,h2,h3⟩
 simp only[bY] at hp h1 h2 h3
 refine bh (let z0:=(↑p.classes.length:Int);let z1:=decide (x.bD=r);let z2:=SV.il .i64 1;let z3:=SV.aD [SV.si .i64 (lc p r x),SV.si .i64 (b9 p r)];let z4:=SV.il .i64 0;let z5:=decide (r<z0+(6:Int));let z6:=(r - z0).toNat;let z7:=[x.want.a0,x.want.a1,x.want.a2,x.want.a3,x.want.a4,x.want.a5];let z8:=r - z0 - (6:Int);let z9:=ae [p.cls.a0,p.cls.a1,p.cls.a2,p.cls.a3,p.cls.a4,p.cls.a5] z8.toNat (0:Int);let ak:=decide (z9≠(0:Int));let al:=decide (x.bD<z0);let z12:=decide (z9≠ae p.classes x.bD.toNat (0:Int));let au:=[SV.si .i64 (ae [p.opn.a0,p.opn.a1,p.opn.a2,p.opn.a3,p.opn.a4,p.opn.a5] z8.toNat (0:Int))];(decide (r<z0)=true→(z1=true→(SV.aD [z2,z2]).same z3)∧(z1=false→(SV.aD [z4,z2]).same z3))∧(decide (r<z0)=false→aC .i64 (z0+(6:Int))∧(z5=true→aC .i64 (r - z0)∧(0:Int)≤r - z0∧r - z0<(6:Int)∧z6<6∧aC .i64 (r - z0)∧(0:Int)≤r - z0∧r - z0<(6:Int)∧z6<6∧(SV.aD [SV.si .i64 (ae z7 z6 (0:Int)),SV.si .i64 (ae [p.supply.a0,p.supply.a1,p.supply.a2,p.supply.a3,p.supply.a4,p.supply.a5] z6 (0:Int))]).same z3)∧(z5=false→aC .i64 (r - z0)∧aC .i64 z8∧(0:Int)≤z8∧z8<(6:Int)∧z8.toNat<6∧(ak=true→(al=true→(0:Int)≤z8∧z8<(6:Int)∧z8.toNat<6∧(0:Int)≤x.bD∧x.bD<z0∧x.bD.toNat<p.classes.length∧(z12=true→(0:Int)≤z8∧z8<(6:Int)∧z8.toNat<6∧(0:Int)≤z8∧z8<(6:Int)∧z8.toNat<6∧(SV.aD (SV.si .i64 (ae z7 z8.toNat (0:Int))::au)).same z3)∧(z12=false→(0:Int)≤z8∧z8<(6:Int)∧z8.toNat<6∧(SV.aD (z4::au)).same z3))∧(al=false→(0:Int)≤z8∧z8<(6:Int)∧z8.toNat<6∧(SV.aD (z4::au)).same z3))∧(ak=false→(0:Int)≤z8∧z8<(6:Int)∧z8.toNat<6∧(SV.aD (z4::au)).same z3)))) (by kernel_rfl) ?_
 simp only[vcs]
 have b1:r - p.classes.length<0→b9 p r=1:=fun h=>by unfold b9;rw[if_pos h]
 have b2:¬r - p.classes.length<0→r - p.classes.length<6→b9 p r=ae [p.supply.a0,p.supply.a1,p.supply.a2,p.supply.a3,p.supply.a4,p.supply.a5] (r - p.classes.length).toNat 0:=fun h h'=>by unfold b9;rw[if_neg h,if_pos h']
 have b3:¬r - p.classes.length<0→¬r - p.classes.length<6→b9 p r=ae [p.opn.a0,p.opn.a1,p.opn.a2,p.opn.a3,p.opn.a4,p.opn.a5] (r - p.classes.length - 6).toNat 0:=fun h h'=>by unfold b9;rw[if_neg h,if_neg h']
 have c1:r - p.classes.length<0→lc p r x=if x.bD=r then 1 else 0:=fun h=>by unfold lc;rw[if_pos h]
 have c2:¬r - p.classes.length<0→r - p.classes.length<6→lc p r x=ae [x.want.a0,x.want.a1,x.want.a2,x.want.a3,x.want.a4,x.want.a5] (r - p.classes.length).toNat 0:=fun h h'=>by unfold lc;rw[if_neg h,if_pos h']
 have c3:=fun(h:¬r - p.classes.length<0) (h':¬r - p.classes.length<6)=>(show lc p r x=_ by unfold lc;rw[if_neg h,if_neg h'])
 refine⟨fun ha=>?_,fun ha=>⟨by omega,fun hb=>?_,fun hb=>?_⟩⟩
 ·rw[b1 (by omega),c1 (by omega)]
  exact⟨fun h=>by simp[h],fun h=>by simp[h]⟩
 ·rw[b2 (by omega) (by omega),c2 (by omega) (by omega)]
  refine⟨by omega,by omega,by omega,by omega,by omega,by omega,by omega,by omega,rfl,rfl⟩
 ·rw[b3 (by omega) (by omega),c3 (by omega) (by omega)]
  refine⟨by omega,by omega,by omega,by omega,by omega,fun h4=>⟨fun h5=>⟨by omega,by omega,by omega,by omega,by omega,by omega,fun h6=>⟨by omega,by omega,by omega,by omega,by omega,by omega,(if_neg (by omega)).symm,rfl⟩,fun h6=>⟨by omega,by omega,by omega,(if_pos (by omega)).symm,rfl⟩⟩,fun h5=>⟨by omega,by omega,by omega,(if_pos (by omega)).symm,rfl⟩⟩,fun h4=>⟨by omega,by omega,by omega,(if_pos (by omega)).symm,rfl⟩⟩
def M1:List bf:=[Dj,Di]
theorem hM1:∀c∈M1,Holds Tryz.prog c:=by
 simp only[M1,List.forall_mem_cons,List.not_mem_nil,false_implies,implies_true,and_true]
 exact⟨h110,h68⟩
def Dk:bf:=⟨39,aE×List Off,.cons ef (.one (bR .off)),fun a=>a.1.classes.length≤8∧a.2.length≤1000∧(∀x∈a.2,0≤x.bD∧x.bD<a.1.classes.length∧x.want.ok=true),fun a=> .sb (fG a.1 a.2)⟩
def W0 (a:aE×List Off):Nat→bz
 |2=> .inv Int (fun i=>⟨[(1,.row .off a.2),(2,.ptr 0 0 20),(5,.si .i64 i)],[.cells a.1.ss 27 20 false]⟩) (fun s=>iS s 5)
  (fun i=>0≤i∧i≤bY a.1∧∀r:Nat,r<i→ca a.1 a.2 r≤b9 a.1 r) (fun i=>(bY a.1 - i).toNat)
  fun i=>fun
   |6=> .inv (Int×Int) (fun x=>⟨[(1,.row .off a.2),(2,.ptr 0 0 20),(5,.si .i64 i),(6,.si .i64 x.2),(7,.si .i64 x.1)],[.cells a.1.ss 27 20 false]⟩)
    (fun s=>(iS s 7,iS s 6))
    (fun x=>0≤x.1∧x.1≤a.2.length∧x.2=ca a.1 (a.2.take x.1.toNat) i) (fun x=>(a.2.length - x.1).toNat) fun _ _=> .look
   |_=> .look
 |_=> .look
theorem h69:Holds Tryz.prog Dk:=by
 refine con (L:=M1) Dk vG W0 (bu.none _) hM1 (by kernel_rfl) (by kernel_rfl) (fun _=>rfl) ?_
 rintro⟨p,l⟩ ⟨hp,hl,hb⟩
 simp only at hp hl hb
 refine bh (let z0:=SV.ptr 0 0 20;let z1:=af.cells (aE.ss p) 27 20 false;let z2:=(↑p.classes.length:Int)+(12:Int);let z3:=(↑l.length:Int);((((SV.row ai.off l).same (SV.row ai.off l)∧z0.same z0∧(SV.il .i64 0).same (SV.si .i64 0)∧True)∧z1.same z1∧True)∧(0:Int)≤(0:Int)∧(0:Int)≤bY p∧∀(r:Nat),(↑r:Int)<(0:Int)→ca p l (↑r:Int)≤b9 p (↑r:Int))∧∀(x:Int),let z4:=x+(1:Int);let z5:=SV.si .i64 z4;((0:Int)≤x∧x≤bY p∧∀(r:Nat),(↑r:Int)<x→ca p l (↑r:Int)≤b9 p (↑r:Int))→aC .i64 z2∧(decide (x<z2)=true→((((SV.row ai.off l).same (SV.row ai.off l)∧z0.same z0∧(SV.si .i64 x).same (SV.si .i64 x)∧(SV.il .i64 0).same (SV.si .i64 0)∧(SV.il .i64 0).same (SV.si .i64 0)∧True)∧z1.same z1∧True)∧(0:Int)≤(0:Int)∧(0:Int)≤z3∧(0:Int)=ca p [] x)∧∀(x_1:Int×Int),let z6:=decide (x_1.fst<(↑l.length:Int));let z7:=ae l x_1.fst.toNat ai.off.dflt;let z8:=x_1.snd+lc p x z7;let z9:=x_1.fst+(1:Int);let ak:=SV.si .i64 x;let al:=SV.si .i64 z8;let z12:=SV.si .i64 z9;let au:=decide (b9 p x<x_1.snd);(0:Int)≤x_1.fst∧x_1.fst≤z3∧x_1.snd=ca p (List.take x_1.fst.toNat l) x→(z6=true→(0:Int)≤x_1.fst∧x_1.fst<(↑l.length:Int)∧x_1.fst.toNat<l.length∧(p.classes.length≤8∧(0:Int)≤x∧x<bY p∧(0:Int)≤z7.bD)∧aC .i64 z8∧aC .i64 z9∧(((SV.row ai.off l).same (SV.row ai.off l)∧z0.same z0∧ak.same ak∧al.same al∧z12.same z12∧True)∧z1.same z1∧True)∧((0:Int)≤z9∧z9≤z3∧z8=ca p (List.take z9.toNat l) x)∧(z3 - z9).toNat<(z3 - x_1.fst).toNat)∧(z6=false→(p.classes.length≤8∧(0:Int)≤x∧x<bY p∧(0:Int)≤(0:Int))∧(au=true→(SV.bl false).same (SV.sb (fG p l)))∧(au=false→aC .i64 z4∧(((SV.row ai.off l).same (SV.row ai.off l)∧z0.same z0∧z5.same z5∧True)∧z1.same z1∧True)∧((0:Int)≤z4∧z4≤bY p∧∀(r:Nat),(↑r:Int)<z4→ca p l (↑r:Int)≤b9 p (↑r:Int))∧(bY p - z4).toNat<(bY p - x).toNat)))∧(decide (x<z2)=false→(SV.bl true).same (SV.sb (fG p l)))) (by kernel_rfl) ?_
 simp only[vcs]
 have hn:bY p=p.classes.length+12:=rfl
 have ho:∀x∈l,x.want.ok=true:=fun x hx=>(hb x hx).2.2
 refine⟨⟨by omega,by omega,fun r hr=>by omega⟩,?_⟩
 rintro i ⟨hi0,hi1,hi⟩
 refine⟨by omega,fun hlt=>⟨⟨by omega,by omega,by simp[ca]⟩,?_⟩,?_⟩
 ·rintro⟨j,s⟩ ⟨hj0,hj1,hs⟩
  simp only at hj0 hj1 hs ⊢
  have hsb:=@rQ p i (l.take j.toNat) fun x hx=>ho x (List.mem_of_mem_take hx)
  have hlen:(l.take j.toNat).length≤l.length:=by simp;omega
  refine⟨fun hjl=>?_,fun hjl=>?_⟩
  ·have hm:=hb _ (dQ (d:=ai.off.dflt) (show j.toNat<l.length by omega))
   have hc:=@pS p i _ hm.2.2
   have hst:=@C5 p i l j ai.off.dflt hj0 hjl
   rw[WZ hm.2.1]
   refine⟨by omega,by omega,by omega,⟨hp,by omega,by omega,hm.1⟩,by omega,by omega,⟨by omega,by omega,by omega⟩,by omega⟩
  ·have:j.toNat=l.length:=by omega
   rw[this,List.take_length] at hs
   refine⟨⟨hp,by omega,by omega,by omega⟩,fun hgt=>?_,fun hle=>⟨by omega,⟨by omega,by omega,fun r hr=>?_⟩,by omega⟩⟩
   ·symm
    rw[Bool.eq_false_iff]
    intro hf
    have:=rR.1 hf i.toNat (by omega)
    rw[show((i.toNat:Nat):Int)=i from by omega] at this
    omega
   ·by_cases hr2:(r:Int)<i
    ·exact hi r hr2
    ·have:(r:Int)=i:=by omega
     rw[this]
     omega
 ·intro hge
  symm
  exact rR.2 fun r hr=>hi r (by omega)
def Dl:bf:=⟨12,aE,.one ef,fun p=>True,fun p=> .si .i64 (bw p)⟩
def W3 (p:aE):Nat→bz
 |11=> .inv Int (fun k=>⟨[(1,.ptr 0 0 20),(4,.si .i64 k)],[.cells p.ss 27 20 false]⟩) (fun s=>iS s 4) (fun k=>0≤k∧k≤p.classes.length∧∀c∈p.classes.take k.toNat,0≤c∧c≤4) (fun k=>(p.classes.length - k).toNat) fun _ _=> .look
 |16=> .inv Int (fun i=>⟨[(1,.ptr 0 0 20),(5,.si .i64 i)],[.cells p.ss 27 20 false]⟩) (fun s=>iS s 5)
  (fun i=>0≤i∧i≤p.offers.length∧ej p [] p.offers=ej p ((p.offers.take i.toNat).map Off.key) (p.offers.drop i.toNat)) (fun i=>(p.offers.length - i).toNat)
  fun i=>fun
   |26=> .inv Int (fun k=>⟨[(1,.ptr 0 0 20),(5,.si .i64 i),(6,.ptr 1 0 8),(7,.si .i64 k)],[.cells p.ss 27 20 false,.cells (encS .off (ae p.offers i.toNat ai.off.dflt)) 58 8 false]⟩) (fun s=>iS s 7)
    (fun k=>0≤k∧k≤i∧∀j:Nat,j<k→(ae p.offers j ai.off.dflt).key≠(ae p.offers i.toNat ai.off.dflt).key) (fun k=>(i - k).toNat) fun _ _=> .look
   |_=> .look
 |4=> .inv Int (fun k=>⟨[(1,.ptr 0 0 20),(3,.si .i64 k)],[.cells p.ss 27 20 false]⟩) (fun s=>iS s 3) (fun k=>0≤k∧k≤6∧∀j:Nat,j<k→dR p j) (fun k=>(6 - k).toNat) fun _ _=> .look
 |_=> .look
theorem W4 {b:bp}:(decide (b.a0=0)&&(decide (b.a1=0)&&(decide (b.a2=0)&&(decide (b.a3=0)&&(decide (b.a4=0)&&(decide (b.a5=0)&&true))))))=decide (b=bp.zero):=by
 rw[Bool.eq_iff_iff]
 simp[C3,bp.zero]
theorem W5 {b c:bp}:(decide (b.a0=c.a0)&&(decide (b.a1=c.a1)&&(decide (b.a2=c.a2)&&(decide (b.a3=c.a3)&&(decide (b.a4=c.a4)&&(decide (b.a5=c.a5)&&true))))))=decide (b=c):=by
 rw[Bool.eq_iff_iff]
 simp[C3]
theorem W6 {α:Type} {l:List α} {i:Int} {d x:α} (h1:i≤l.length) (h:x∈l.take i.toNat):∃j:Nat,(j:Int)<i∧ae l j d=x:=by
 obtain⟨j,hj,rfl⟩:=List.mem_iff_getElem.1 h
 have hj2:=hj
 simp only[List.length_take] at hj2
 refine⟨j,by omega,?_⟩
 rw[bF (by omega),List.getElem_take]
theorem h24:Holds Tryz.prog Dl:=by
 refine con (L:=Dk::M1) Dl vz W3 (bu.none _) (by simp only[List.forall_mem_cons];exact⟨h69,hM1⟩) (by kernel_rfl) (by kernel_rfl) (fun _=>rfl) ?_
 intro p _
 refine bh (let z0:=SV.si .i64 (bw p);let z1:=SV.ptr 0 0 20;let z2:=SV.il .i64 0;let z3:=af.cells (aE.ss p) 27 20 false;let z4:=[p.cls.a0,p.cls.a1,p.cls.a2,p.cls.a3,p.cls.a4,p.cls.a5];let z5:=[p.opn.a0,p.opn.a1,p.opn.a2,p.opn.a3,p.opn.a4,p.opn.a5];let z6:=[p.supply.a0,p.supply.a1,p.supply.a2,p.supply.a3,p.supply.a4,p.supply.a5];let z7:=p.classes.length;let z8:=(↑z7:Int);let z9:=decide ((8:Int)<z8);let ak:=p.offers.length;let al:=(↑ak:Int);let z12:=decide ((160:Int)<al);let au:=(↑p.classes.length:Int);let ar:=(↑p.offers.length:Int);let ax:=ej p [] p.offers;let ay:=ai.off.dflt;let z17:=SV.ptr 1 0 8;True∧((!p.supply.ok)=true→(SV.il .i64 4).same z0)∧((!p.supply.ok)=false→(((z1.same z1∧z2.same (SV.si .i64 0)∧True)∧z3.same z3∧True)∧(0:Int)≤(0:Int)∧(0:Int)≤(6:Int)∧∀(j:Nat),(↑j:Int)<(0:Int)→dR p j)∧∀(x:Int),let aG:=decide (x<(6:Int));let aH:=ae z4 x.toNat (0:Int);let z20:=decide (aH<(0:Int));let z21:=decide ((4:Int)<aH);let z22:=ae z5 x.toNat (0:Int);let z23:=decide (z22<(0:Int));let z24:=ae z6 x.toNat (0:Int);let z25:=decide (aH=(0:Int));let z26:=x+(1:Int);let z27:=SV.si .i64 z26;((0:Int)≤x∧x≤(6:Int)∧∀(j:Nat),(↑j:Int)<x→dR p j)→(aG=true→(0:Int)≤x∧x<(6:Int)∧x.toNat<6∧(z20=true→(SV.il .i64 4).same z0)∧(z20=false→(0:Int)≤x∧x<(6:Int)∧x.toNat<6∧(z21=true→(SV.il .i64 4).same z0)∧(z21=false→(0:Int)≤x∧x<(6:Int)∧x.toNat<6∧(z23=true→(SV.il .i64 4).same z0)∧(z23=false→(0:Int)≤x∧x<(6:Int)∧x.toNat<6∧(0:Int)≤x∧x<(6:Int)∧x.toNat<6∧(decide (z24<z22)=true→(SV.il .i64 4).same z0)∧(decide (z24<z22)=false→(0:Int)≤x∧x<(6:Int)∧x.toNat<6∧(z25=true→(0:Int)≤x∧x<(6:Int)∧x.toNat<6∧(0:Int)≤x∧x<(6:Int)∧x.toNat<6∧(decide (z22≠z24)=true→(SV.il .i64 4).same z0)∧(decide (z22≠z24)=false→aC .i64 z26∧((z1.same z1∧z27.same z27∧True)∧z3.same z3∧True)∧((0:Int)≤z26∧z26≤(6:Int)∧∀(j:Nat),(↑j:Int)<z26→dR p j)∧((6:Int) - z26).toNat<((6:Int) - x).toNat))∧(z25=false→aC .i64 z26∧((z1.same z1∧z27.same z27∧True)∧z3.same z3∧True)∧((0:Int)≤z26∧z26≤(6:Int)∧∀(j:Nat),(↑j:Int)<z26→dR p j)∧((6:Int) - z26).toNat<((6:Int) - x).toNat))))))∧(aG=false→(z9=true→(SV.il .i64 3).same z0)∧(z9=false→(z12=true→(SV.il .i64 3).same z0)∧(z12=false→(((z1.same z1∧z2.same (SV.si .i64 0)∧True)∧z3.same z3∧True)∧(0:Int)≤(0:Int)∧(0:Int)≤au∧∀(c:Int),c∈[]→(0:Int)≤c∧c≤(4:Int))∧∀(x:Int),let z28:=ae p.classes x.toNat (0:Int);let z29:=decide (z28<(0:Int));let z30:=decide ((4:Int)<z28);let z31:=x+(1:Int);let z32:=SV.si .i64 z31;((0:Int)≤x∧x≤au∧∀(c:Int),c∈List.take x.toNat p.classes→(0:Int)≤c∧c≤(4:Int))→(decide (x<z8)=true→(0:Int)≤x∧x<z8∧x.toNat<z7∧(z29=true→(SV.il .i64 4).same z0)∧(z29=false→(0:Int)≤x∧x<z8∧x.toNat<z7∧(z30=true→(SV.il .i64 4).same z0)∧(z30=false→aC .i64 z31∧((z1.same z1∧z32.same z32∧True)∧z3.same z3∧True)∧((0:Int)≤z31∧z31≤au∧∀(c:Int),c∈List.take z31.toNat p.classes→(0:Int)≤c∧c≤(4:Int))∧(au - z31).toNat<(au - x).toNat)))∧(decide (x<z8)=false→(((z1.same z1∧z2.same (SV.si .i64 0)∧True)∧z3.same z3∧True)∧(0:Int)≤(0:Int)∧(0:Int)≤ar∧ax=ax)∧∀(x:Int),let z33:=ae p.offers x.toNat ay;let z34:=z33.bD;let z35:=decide (z34<(0:Int));let z36:=decide (z33.value<(1:Int));let z37:=decide ((1000000:Int)<z33.value);let z38:=z33.want;let z39:=decide (z38.a0=(0:Int))&&(decide (z38.a1=(0:Int))&&(decide (z38.a2=(0:Int))&&(decide (z38.a3=(0:Int))&&(decide (z38.a4=(0:Int))&&(decide (z38.a5=(0:Int))&&true)))));let z40:=af.cells [SV.si .i64 z34,SV.si .i64 z38.a0,SV.si .i64 z38.a1,SV.si .i64 z38.a2,SV.si .i64 z38.a3,SV.si .i64 z38.a4,SV.si .i64 z38.a5,SV.si .i64 z33.value] 58 8 false;let z41:=x+(1:Int);let z42:=SV.si .i64 z41;(0:Int)≤x∧x≤ar∧ax=ej p (List.map Off.key (List.take x.toNat p.offers)) (List.drop x.toNat p.offers)→(decide (x<al)=true→(0:Int)≤x∧x<al∧x.toNat<ak∧(z35=true→(SV.il .i64 6).same z0)∧(z35=false→(decide (z8≤z34)=true→(SV.il .i64 6).same z0)∧(decide (z8≤z34)=false→(z36=true→(SV.il .i64 4).same z0)∧(z36=false→(z37=true→(SV.il .i64 4).same z0)∧(z37=false→True∧((!z38.ok)=true→(SV.il .i64 4).same z0)∧((!z38.ok)=false→(z39=true→(SV.il .i64 4).same z0)∧(z39=false→(p.classes.length≤8∧1≤1000∧∀(x:Off),x∈[z33]→(0:Int)≤x.bD∧x.bD<au∧x.want.ok=true)∧((!fG p [z33])=true→(SV.il .i64 14).same z0)∧((!fG p [z33])=false→(((z1.same z1∧(SV.si .i64 x).same (SV.si .i64 x)∧z17.same z17∧z2.same (SV.si .i64 0)∧True)∧z3.same z3∧z40.same z40∧True)∧(0:Int)≤(0:Int)∧(0:Int)≤x∧∀(j:Nat),(↑j:Int)<(0:Int)→(ae p.offers j ay).key≠z33.key)∧∀(x_1:Int),let z43:=ae p.offers x_1.toNat ay;let z44:=decide (z43.bD=z34);let z45:=z43.want;let z46:=decide (z45.a0=z38.a0)&&(decide (z45.a1=z38.a1)&&(decide (z45.a2=z38.a2)&&(decide (z45.a3=z38.a3)&&(decide (z45.a4=z38.a4)&&(decide (z45.a5=z38.a5)&&true)))));let z47:=x_1+(1:Int);let z48:=SV.si .i64 x;let z49:=SV.si .i64 z47;((0:Int)≤x_1∧x_1≤x∧∀(j:Nat),(↑j:Int)<x_1→(ae p.offers j ay).key≠z33.key)→(decide (x_1<x)=true→(0:Int)≤x_1∧x_1<al∧x_1.toNat<ak∧(z44=true→(0:Int)≤x_1∧x_1<al∧x_1.toNat<ak∧(z46=true→(SV.il .i64 7).same z0)∧(z46=false→aC .i64 z47∧((z1.same z1∧z48.same z48∧z17.same z17∧z49.same z49∧True)∧z3.same z3∧z40.same z40∧True)∧((0:Int)≤z47∧z47≤x∧∀(j:Nat),(↑j:Int)<z47→(ae p.offers j ay).key≠z33.key)∧(x - z47).toNat<(x - x_1).toNat))∧(z44=false→aC .i64 z47∧((z1.same z1∧z48.same z48∧z17.same z17∧z49.same z49∧True)∧z3.same z3∧z40.same z40∧True)∧((0:Int)≤z47∧z47≤x∧∀(j:Nat),(↑j:Int)<z47→(ae p.offers j ay).key≠z33.key)∧(x - z47).toNat<(x - x_1).toNat))∧(decide (x_1<x)=false→aC .i64 z41∧((z1.same z1∧z42.same z42∧True)∧z3.same z3∧True)∧((0:Int)≤z41∧z41≤ar∧ax=ej p (List.map Off.key (List.take z41.toNat p.offers)) (List.drop z41.toNat p.offers))∧(ar - z41).toNat<(ar - x).toNat)))))))))∧(decide (x<al)=false→z2.same z0))))))) (by kernel_rfl) ?_
 simp only[W4,W5]
 simp only[vcs]
 have e4:eB p=4→(4:Int)=bw p:=fun h=>by simp[bw,h]
 have e3:eB p=3→(3:Int)=bw p:=fun h=>by simp[bw,h]
 refine⟨fun hs=>e4 (Jw hs),fun hs=>⟨⟨by omega,by omega,fun j hj=>by omega⟩,?_⟩⟩
 rintro k ⟨hk0,hk1,hk⟩
 refine⟨fun hlt=>?_,fun hge=>?_⟩
 ·have bad:¬dR p k.toNat→(4:Int)=bw p:=fun h=>e4 (Jx hs (by omega) h)
  have Da:dR p k.toNat→∀(j:Nat),(j:Int)<k+1→dR p j:=fun h j hj=>by
   by_cases hj2:(j:Int)<k
   ·exact hk j hj2
   ·rw[show j=k.toNat from by omega];exact h
  repeat' (first|refine And.intro ?_ ?_|intro _)
  all_goals first
   |omega
   |exact bad fun hh=>by have h2:=kC.1 hh;omega
   |exact Da (kC.2 (by omega)) _ (by assumption)
 ·have hall:∀j:Nat,j<6→dR p j:=fun j hj=>hk j (by omega)
  refine⟨fun h=>e3 (ze hs hall (.inl (by omega))),fun h8=>⟨fun h=>e3 (ze hs hall (.inr (by omega))),fun h160=>⟨⟨by omega,by omega,by simp⟩,?_⟩⟩⟩
  rintro i ⟨hi0,hi1,hi⟩
  refine⟨fun hlt=>?_,fun hge=>?_⟩
  ·have hm:=dQ (d:=0) (show i.toNat<p.classes.length by omega)
   refine⟨by omega,by omega,by omega,fun h=>e4 (zf hs hall (by omega) hm (by omega)),fun h1=>⟨by omega,by omega,by omega,fun h=>e4 (zf hs hall (by omega) hm (by omega)),fun h2=>⟨by omega,⟨by omega,by omega,?_⟩,by omega⟩⟩⟩
   exact Jy hi0 hlt hi (by omega)
  ·rw[show i.toNat=p.classes.length from by omega,List.take_length] at hi
   have hz:eB p=0:=C7 hs hall (by omega) hi
   have ce:bw p=ej p [] p.offers:=by simp[bw,hz]
   refine⟨⟨by omega,by omega⟩,?_⟩
   rintro i ⟨hi0,hi1,hi⟩
   refine⟨fun hlt=>?_,fun hge=>?_⟩
   ·rw[pT (d:=ai.off.dflt) hi0 hlt] at hi
    generalize hx:ae p.offers i.toNat ai.off.dflt=x at hi ⊢
    have oe:∀c:Int,c≠0→fp p x=c→c=bw p:=fun c hc h=>by
     rw[ce,hi]
     simp only[ej,h]
     rw[if_pos hc]
    have se:∀c:Int,c≠0→fH p.classes.length x=c→c=bw p:=fun c hc h=>oe c hc (by
     unfold fp
     rw[if_pos (by omega),h])
    refine⟨by omega,by omega,by omega,fun h1=>?_,fun h1=>⟨fun h2=>?_,fun h2=>⟨fun h3=>?_,fun h3=>⟨fun h4=>?_,fun h4=>⟨fun h5=>?_,fun h5=>⟨fun h6=>?_,fun h6=>?_⟩⟩⟩⟩⟩⟩
    ·exact se 6 (by decide) (by unfold fH;rw[if_pos (by omega)])
    ·exact se 6 (by decide) (by unfold fH;rw[if_pos (by omega)])
    ·exact se 4 (by decide) (by unfold fH;rw[if_neg (by omega),if_pos (by omega)])
    ·exact se 4 (by decide) (by unfold fH;rw[if_neg (by omega),if_pos (by omega)])
    ·exact se 4 (by decide) (by unfold fH;rw[if_neg (by omega),if_neg (by omega),h5];rfl)
    ·have hs0:fH p.classes.length x=0:=by unfold fH;rw[if_neg (by omega),if_neg (by omega),h5];rfl
     exact oe 4 (by decide) (by simp[fp,hs0,h6])
    ·have hs0:fH p.classes.length x=0:=by unfold fH;rw[if_neg (by omega),if_neg (by omega),h5];rfl
     refine⟨⟨by omega,by omega,fun y hy=>?_⟩,fun h7=>?_,fun h7=>⟨⟨by omega,by omega,fun j hj=>by omega⟩,?_⟩⟩
     ·rw[List.mem_singleton.1 hy]
      exact⟨by omega,by omega,h5⟩
     ·exact oe 14 (by decide) (by simp[fp,hs0,h6,h7])
     ·have ho0:fp p x=0:=by simp[fp,hs0,h6,h7]
      rintro k ⟨hk0,hk1,hk⟩
      have hnx:(ae p.offers k.toNat ai.off.dflt).key≠x.key→∀j:Nat,(j:Int)<k+1→(ae p.offers j ai.off.dflt).key≠x.key:=fun h j hj=>by
       by_cases hj2:(j:Int)<k
       ·exact hk j hj2
       ·rw[show j=k.toNat from by omega];exact h
      refine⟨fun hlt2=>⟨by omega,by omega,by omega,fun h8=>⟨by omega,by omega,by omega,fun h9=>?_,fun h9=>⟨by omega,⟨by omega,by omega,?_⟩,by omega⟩⟩,fun h8=>⟨by omega,⟨by omega,by omega,?_⟩,by omega⟩⟩,fun uf=>⟨by omega,⟨by omega,by omega,?_⟩,by omega⟩⟩
      ·have W7:(ae p.offers k.toNat ai.off.dflt).key=x.key:=by
        show iC.mk _ _=iC.mk _ _
        rw[h8,h9]
       have hmem:x.key∈(p.offers.take i.toNat).map Off.key:=by
        rw[←W7]
        refine List.mem_map.2 ⟨_,?_,rfl⟩
        rw[bF (by omega)]
        exact List.mem_take_iff_getElem.2 ⟨k.toNat,by omega,rfl⟩
       rw[ce,hi]
       simp only[ej,ho0,ne_eq,not_true,if_false,if_pos hmem]
      ·refine hnx fun e=>h9 ?_
       injection e
      ·refine hnx fun e=>h8 ?_
       injection e
      ·have hnm:x.key∉(p.offers.take i.toNat).map Off.key:=by
        intro hmem
        obtain⟨o,ho,he⟩:=List.mem_map.1 hmem
        obtain⟨j,hj,rfl⟩:=W6 (d:=ai.off.dflt) hi1 ho
        exact hk j (by omega) he
       rw[hi,k9 (d:=ai.off.dflt) hi0 hlt,hx]
       simp only[ej,ho0,ne_eq,not_true,if_false,if_neg hnm,List.map_append,List.map_cons,List.map_nil]
   ·rw[show i.toNat=p.offers.length from by omega,List.drop_length] at hi
    rw[ce,hi]
    rfl
def jR:List Off→Int
 |[]=>0
 |x::l=>x.value+jR l
theorem JE:∀{l m:List Off},jR (l++m)=jR l+jR m
 |[],m=>by simp[jR]
 |x::l,m=>by simp only[List.cons_append,jR,@JE l m];omega
theorem JF {p:aE} (hg:Good p):∀{l:List Off},(∀x∈l,x∈p.offers)→0≤jR l∧jR l≤1000000*l.length
 |[],_=>by simp[jR]
 |x::l,h=>by
  have h1:=hg.2.2.2.2 x (h x (by simp))
  have h2:=@JF p hg l fun y hy=>h y (by simp[hy])
  simp only[jR,List.length_cons]
  omega
def cmpL:List Int→List Int→Int
 |[],[]=>0
 |[],_::_=> -1
 |_::_,[]=>1
 |a::l,b::m=>if a<b then -1 else if b<a then 1 else cmpL l m
def r32:bf:=⟨32,List Int×List Int,.cons (bR (.i .i64)) (.one (bR (.i .i64))),fun a=>a.1.length≤1000000000000∧a.2.length≤1000000000000,fun a=> .si .i64 (cmpL a.1 a.2)⟩
def W8 (a:List Int×List Int):Nat→bz
 |2=> .inv Int (fun i=>⟨[(0,.row (.i .i64) a.1),(1,.row (.i .i64) a.2),(5,.si .i64 i)],[]⟩) (fun s=>iS s 5)
  (fun i=>0≤i∧i≤a.1.length∧i≤a.2.length∧cmpL a.1 a.2=cmpL (a.1.drop i.toNat) (a.2.drop i.toNat)) (fun i=>(a.1.length - i).toNat) fun _ _=> .look
 |_=> .look
theorem h32:Holds Tryz.prog r32:=by
 refine con (L:=[]) r32 vA W8 (bu.none _) (by simp) (by kernel_rfl) (by kernel_rfl) (fun _=>rfl) ?_
 rintro⟨a,b⟩ ⟨ha,hb⟩
 refine bh (let z0:=SV.row (ai.i .i64) a;let z1:=SV.row (ai.i .i64) b;let z2:=SV.il .i64 0;let z3:=(↑a.length:Int);let z4:=(↑b.length:Int);let z5:=(↑a.length:Int);let z6:=(↑b.length:Int);let z7:=SV.si .i64 (cmpL a b);(((z0.same z0∧z1.same z1∧z2.same (SV.si .i64 0)∧True)∧True)∧(0:Int)≤(0:Int)∧(0:Int)≤z3∧(0:Int)≤z4∧cmpL a b=cmpL a b)∧∀(x:Int),let z8:=ae a x.toNat (0:Int);let z9:=ae b x.toNat (0:Int);let ak:=x+(1:Int);let al:=SV.si .i64 ak;(0:Int)≤x∧x≤z3∧x≤z4∧cmpL a b=cmpL (List.drop x.toNat a) (List.drop x.toNat b)→(decide (x<z5)=true→(decide (x<z6)=true→(0:Int)≤x∧x<z5∧x.toNat<a.length∧(0:Int)≤x∧x<z6∧x.toNat<b.length∧(decide (z8<z9)=true→(SV.il .i64 (-1:Int)).same z7)∧(decide (z8<z9)=false→(0:Int)≤x∧x<z5∧x.toNat<a.length∧(0:Int)≤x∧x<z6∧x.toNat<b.length∧(decide (z9<z8)=true→(SV.il .i64 1).same z7)∧(decide (z9<z8)=false→aC .i64 ak∧((z0.same z0∧z1.same z1∧al.same al∧True)∧True)∧((0:Int)≤ak∧ak≤z3∧ak≤z4∧cmpL a b=cmpL (List.drop ak.toNat a) (List.drop ak.toNat b))∧(z3 - ak).toNat<(z3 - x).toNat)))∧(decide (x<z6)=false→(decide (z5<z6)=true→(SV.il .i64 (-1:Int)).same z7)∧(decide (z5<z6)=false→(decide (z6<z5)=true→(SV.il .i64 1).same z7)∧(decide (z6<z5)=false→z2.same z7))))∧(decide (x<z5)=false→(decide (z5<z6)=true→(SV.il .i64 (-1:Int)).same z7)∧(decide (z5<z6)=false→(decide (z6<z5)=true→(SV.il .i64 1).same z7)∧(decide (z6<z5)=false→z2.same z7)))) (by kernel_rfl) ?_
 conv=>zeta
 simp only at ha hb
 simp only[vcs]
 refine⟨⟨by omega,by omega,by omega⟩,?_⟩
 rintro i ⟨hi0,hia,hib,hi⟩
 refine⟨fun h1=>⟨fun h2=>?_,fun h2=>?_⟩,fun h1=>?_⟩
 ·rw[pT (d:=0) hi0 h1,pT (d:=0) hi0 h2] at hi
  simp only[cmpL] at hi
  refine⟨by omega,by omega,by omega,by omega,by omega,by omega,fun h3=>?_,fun h3=>⟨by omega,by omega,by omega,by omega,by omega,by omega,fun h4=>?_,fun h4=>⟨by omega,⟨by omega,by omega,by omega,?_⟩,by omega⟩⟩⟩
  ·rw[if_pos h3] at hi
   exact hi.symm
  ·rw[if_neg h3,if_pos h4] at hi
   exact hi.symm
  ·rw[if_neg h3,if_neg h4] at hi
   exact hi
 ·rw[pT (d:=0) hi0 h1,show i.toNat=b.length from by omega,List.drop_length] at hi
  simp only[cmpL] at hi
  refine⟨by omega,fun h3=>⟨by omega,by omega⟩⟩
 ·rw[show i.toNat=a.length from by omega,List.drop_length] at hi
  refine⟨fun h2=>?_,fun h2=>⟨fun h3=>by omega,fun h3=>?_⟩⟩
  ·rw[←Int.toNat_natCast a.length,pT (d:=0) (by omega) h2] at hi
   exact hi.symm
  ·rw[show a.length=b.length from by omega,List.drop_length] at hi
   exact hi.symm
def JG (l:List bp):bp:=⟨(l.map bp.a0).sum,(l.map bp.a1).sum,(l.map bp.a2).sum,(l.map bp.a3).sum,(l.map bp.a4).sum,(l.map bp.a5).sum⟩
def JH (p:aE) (L:List Off):Prop:=(L.map Off.bD).Nodup∧(JG (L.map Off.want)).le p.supply=true∧(JG (L.map (WR p))).le p.opn=true
instance (p:aE) (L:List Off):Decidable (JH p L):=by unfold JH;infer_instance
theorem JI {p:aE}:∀{l:List Off} {seen:List iC},ej p seen l=0→(l.map Off.key).Nodup∧∀x∈l,x.key∉seen
 |[],_,_=>by simp
 |o::r,seen,h=>by
  simp only[ej] at h
  split at h
  ·rename_i h1;exact absurd h h1
  ·split at h
   ·cases h
   ·rename_i h1 h2
    obtain⟨k1,k2⟩:=JI h
    refine⟨?_,fun x hx=>?_⟩
    ·rw[List.map_cons,List.nodup_cons]
     refine⟨fun hm=>?_,k1⟩
     obtain⟨y,hy,he⟩:=List.mem_map.1 hm
     exact k2 y hy (by simp[he])
    ·rcases List.mem_cons.1 hx with rfl|hx
     ·exact h2
     ·exact fun hm=>k2 x hx (by simp[hm])
theorem JJ {α β:Type} (f:α→β):∀{l:List α},(l.map f).Nodup→l.Nodup
 |[],_=>by simp
 |x::l,h=>by
  rw[List.map_cons,List.nodup_cons] at h
  exact List.nodup_cons.2 ⟨fun hm=>h.1 (List.mem_map_of_mem hm),JJ f h.2⟩
theorem W9 {p:aE} (h:bw p=0):p.offers.Nodup:=by
 unfold bw at h
 split at h
 ·rename_i h1;exact absurd h h1
 ·exact JJ _ (JI h).1
def bp.at (b:bp) (k:Nat):Int:=ae [b.a0,b.a1,b.a2,b.a3,b.a4,b.a5] k 0
def nU (p:aE) (l:List Off):aE:={p with offers:=l}
theorem Dm {p:aE} {l0:List Off} {f:Off→Bool}:∀{l:List Off} {s t:List iC},ej p s l=0→(∀k∈t,k∈s)→ej (nU p l0) t (l.filter f)=0
 |[],_,_,_,_=>rfl
 |o::r,s,t,h,hs=>by
  simp only[ej] at h
  split at h
  ·rename_i h1;exact absurd h h1
  ·split at h
   ·cases h
   ·rename_i h1 h2
    have hn:o.key∉t:=fun hm=>h2 (hs _ hm)
    rw[List.filter_cons]
    split
    ·unfold ej
     rw[if_neg (show ¬fp (nU p l0) o≠0 from h1),if_neg hn]
     exact Dm h fun k hk=>by
      rcases List.mem_append.1 hk with hk|hk
      ·exact List.mem_append.2 (.inl (hs k hk))
      ·exact List.mem_append.2 (.inr hk)
    ·exact Dm h fun k hk=>List.mem_append.2 (.inl (hs k hk))
theorem Xa {p:aE} {f:Off→Bool} (h:bw p=0):bw (nU p (p.offers.filter f))=0:=by
 have hg:=i6 h
 unfold bw at h
 split at h
 ·rename_i h1;exact absurd h h1
 ·rename_i h1
  have hf:eB p=0:=Classical.not_not.1 h1
  obtain⟨f1,f2,f3,f4,f5⟩:=C9 hf
  have hl:=List.length_filter_le f p.offers
  have hq:eB (nU p (p.offers.filter f))=0:=C7 (p:=nU p (p.offers.filter f)) f1 (fun j hj=>by have h:=(kC (p:=p) (k:=j)).1 (f2 j hj);exact kC.2 h) (by simp only[nU];omega) f5
  unfold bw
  rw[if_neg (by simp[hq])]
  exact Dm h (by simp)
theorem JK {l:List Off}:∀{t:List Int} {last:Int} {r:List Off}, -1≤last→lO l last t=some r→t.Pairwise (·<·)∧∀j∈t,last<j∧j<l.length
 |[],_,_,_,_=>by simp
 |i::t,last,r,hl,h=>by
  simp only[lO] at h
  split at h
  ·cases h
  ·rename_i h1
   obtain⟨r',h2,rfl⟩:=Option.map_eq_some_iff.1 h
   obtain⟨k1,k2⟩:=JK (by omega) h2
   refine⟨List.pairwise_cons.2 ⟨fun j hj=>(k2 j hj).1,k1⟩,fun j hj=>?_⟩
   rcases List.mem_cons.1 hj with rfl|hj
   ·omega
   ·have:=k2 j hj;omega
theorem Xb {l:List Off} (hn:l.Nodup) {i j:Nat} (hi:i<l.length) (hj:j<l.length) (h:ae l i ai.off.dflt=ae l j ai.off.dflt):i=j:=by
 rw[bF hi,bF hj] at h
 have hp:=List.pairwise_iff_getElem.1 hn
 by_cases h1:i<j
 ·exact absurd h (hp i j hi hj h1)
 ·by_cases h2:j<i
  ·exact absurd h.symm (hp j i hj hi h2)
  ·omega
def jz (a:List Int):Nat→Nat
 |0=>0
 |n+1=>if ae a n 0=0 then jz a n else n+1
def aJ (a:List Int):List Int:=a.take (jz a a.length)
def lQ:bf:=⟨96,List Int,.one (bR (.i .u32)),fun a=>a.length≤1000000000000,fun a=> .row (.i .u32) (aJ a)⟩
def Xc (a:List Int):Nat→bz
 |2=> .inv Int (fun n=>⟨[(0,.row (.i .u32) a),(3,.si .i64 n)],[]⟩) (fun s=>iS s 3) (fun n=>0≤n∧n≤a.length∧jz a n.toNat=jz a a.length) (fun n=>n.toNat) fun _ _=> .look
 |_=> .look
theorem h152:Holds Tryz.prog lQ:=by
 refine con (L:=[]) lQ ww Xc (bu.none _) (by simp) (by kernel_rfl) (by kernel_rfl) (fun _=>rfl) ?_
 intro(a:List Int) (h:a.length≤1000000000000)
 refine bh (let z0:=ai.i .u32;let z1:=(↑a.length:Int);let z2:=SV.si .i64 z1;let z3:=(↑a.length:Int);let z4:=jz a a.length;((((SV.row z0 a).same (SV.row z0 a)∧z2.same z2∧True)∧True)∧(0:Int)≤z1∧z1≤z3∧jz a z1.toNat=z4)∧∀(x:Int),let z5:=decide ((0:Int)<x);let z6:=x - (1:Int);let z7:=decide (ae a z6.toNat (0:Int)=(0:Int));let z8:=SV.si .i64 z6;(0:Int)≤x∧x≤z3∧jz a x.toNat=z4→(z5=true→aC .i64 z6∧(0:Int)≤z6∧z6<z1∧z6.toNat<a.length∧(z7=true→aC .i64 z6∧(((SV.row z0 a).same (SV.row z0 a)∧z8.same z8∧True)∧True)∧((0:Int)≤z6∧z6≤z3∧jz a z6.toNat=z4)∧z6.toNat<x.toNat)∧(z7=false→(0:Int)≤x∧(0:Int)≤x∧0≤x.toNat∧x.toNat≤x.toNat∧x.toNat≤a.length∧(SV.row z0 (List.take (x.toNat - 0) a)).same (SV.row z0 (aJ a))))∧(z5=false→(0:Int)≤x∧(0:Int)≤x∧0≤x.toNat∧x.toNat≤x.toNat∧x.toNat≤a.length∧(SV.row z0 (List.take (x.toNat - 0) a)).same (SV.row z0 (aJ a)))) (by kernel_rfl) ?_
 simp only[vcs]
 refine⟨⟨by omega,by omega,by simp⟩,?_⟩
 rintro n ⟨n0,n1,hn⟩
 have stop:(n.toNat=0∨0<n.toNat∧¬ae a (n.toNat - 1) 0=0)→List.take (n.toNat - 0) a=aJ a:=fun h=>by
  unfold aJ
  rw[←hn]
  congr 1
  rcases h with h|h
  ·rw[h];rfl
  ·obtain⟨h1,h⟩:=h
   obtain⟨m,hm⟩:∃m,n.toNat=m+1:=⟨n.toNat - 1,by omega⟩
   rw[hm] at h ⊢
   simp only[Nat.add_sub_cancel] at h
   unfold jz
   rw[if_neg h]
   rfl
 refine⟨fun h0=>⟨by omega,by omega,by omega,by omega,fun hz=>⟨by omega,⟨by omega,by omega,?_⟩,by omega⟩,fun hz=>⟨n0,n0,by omega,by omega,by omega,?_⟩⟩,fun h0=>⟨n0,n0,by omega,by omega,by omega,stop (.inl (by omega))⟩⟩
 ·rw[←hn,show n.toNat=(n - 1).toNat+1 by omega]
  rw[jz,if_pos hz]
 ·exact stop (.inr ⟨by omega,by rw[show n.toNat - 1=(n - 1).toNat by omega];exact hz⟩)
def ac:List Int→Int
 |[]=>0
 |d::l=>d+4294967296*ac l
def ag (a:List Int):Prop:=∀d∈a,0≤d∧d<4294967296
def bO:List Int→Prop
 |[]=>True
 |d::l=>(l=[]→d≠0)∧bO l
theorem ea {d:Int} {l:List Int}:ag (d::l)↔(0≤d∧d<4294967296)∧ag l:=by simp[ag]
theorem fJ {a:List Int} (h:ag a) (n:Nat):ag (a.take n):=fun d hd=>h d (List.mem_of_mem_take hd)
theorem bQ:∀{a:List Int},ag a→0≤ac a
 |[],_=>Int.le_refl _
 |d::l,h=>by
  obtain⟨h1,h2⟩:=ea.1 h
  have:=bQ h2
  simp only[ac]
  omega
theorem val_zero:∀{a:List Int},ag a→bO a→ac a=0→a=[]
 |[],_,_,_=>rfl
 |d::l,h,hn,hz=>by
  obtain⟨h1,h2⟩:=ea.1 h
  have:=bQ h2
  simp only[ac] at hz
  have hl:=val_zero h2 hn.2 (by omega)
  have:=hn.1 hl
  omega
theorem val_inj:∀{a b:List Int},ag a→ag b→bO a→bO b→ac a=ac b→a=b
 |[],b,_,hb,_,nb,h=>(val_zero hb nb h.symm).symm
 |d::l,[],ha,_,na,_,h=>val_zero ha na h
 |d::l,e::m,ha,hb,na,nb,h=>by
  obtain⟨h1,h2⟩:=ea.1 ha
  obtain⟨h3,h4⟩:=ea.1 hb
  have p1:=bQ h2
  have p2:=bQ h4
  simp only[ac] at h
  have hd:d=e:=by omega
  have hv:ac l=ac m:=by omega
  rw[hd,val_inj h2 h4 na.2 nb.2 hv]
theorem lR:∀{a:List Int} {x:Int},ac (a++[x])=ac a+4294967296^a.length*x
 |[],x=>by simp[ac]
 |d::l,x=>by
  simp only[List.cons_append,ac,lR,List.length_cons,Int.pow_succ,Int.mul_add]
  rw[←Int.mul_assoc,Int.mul_comm 4294967296 (4294967296^l.length)]
  omega
theorem Dn:∀{a:List Int} {x:Int},x≠0→bO (a++[x])
 |[],x,h=>⟨fun _=>h,trivial⟩
 |d::l,x,h=>⟨fun he=>by simp at he,Dn h⟩
theorem zi {a:List Int} {n:Nat} (h:n<a.length):a.take (n+1)=a.take n++[ae a n 0]:=by
 rw[List.take_succ_eq_append_getElem h,bF h]
theorem JL {a:List Int}:∀{n:Nat},n≤a.length→ac (a.take (jz a n))=ac (a.take n)∧bO (a.take (jz a n))
 |0,_=>by simp[jz,bO]
 |n+1,h=>by
  obtain⟨k1,k2⟩:=@JL a n (by omega)
  have ht:=zi (show n<a.length by omega)
  unfold jz
  split
  ·rename_i hz
   rw[ht,lR,hz]
   exact⟨by simp[k1],k2⟩
  ·rename_i hz
   rw[ht]
   exact⟨rfl,Dn hz⟩
theorem lS {a:List Int}:ac (aJ a)=ac a∧bO (aJ a):=by
 have:=@JL a a.length (Nat.le_refl _)
 rw[List.take_length] at this
 exact this
theorem mQ {a:List Int} (h:ag a):ag (aJ a):=fJ h _
theorem nV {a:List Int}:(aJ a).length≤a.length:=by unfold aJ;simp;omega
def nW:Nat→Int→List Int
 |0,_=>[]
 |k+1,n=>if n≤0 then[] else(n % 4294967296)::nW k (n / 4294967296)
def aM (n:Int):List Int:=nW n.toNat n
theorem JM:∀{k:Nat} {n:Int},0≤n→n.toNat≤k→ac (nW k n)=n∧ag (nW k n)∧bO (nW k n)
 |0,n,h0,h=>by
  have:n=0:=by omega
  subst this
  exact⟨rfl,by simp[nW,ag],trivial⟩
 |k+1,n,h0,h=>by
  unfold nW
  split
  ·have:n=0:=by omega
   subst this
   exact⟨rfl,by simp[ag],trivial⟩
  ·obtain⟨k1,k2,k3⟩:=@JM k (n / 4294967296) (by omega) (by omega)
   refine⟨by simp only[ac,k1];omega,ea.2 ⟨by omega,k2⟩,fun he hz=>?_,k3⟩
   rw[he] at k1
   simp only[ac] at k1
   omega
theorem bZ {n:Int} (h:0≤n):ac (aM n)=n∧ag (aM n)∧bO (aM n):=JM h (Nat.le_refl _)
theorem jS {a:List Int} (h:ag a) (hn:bO a):aM (ac a)=a:=by
 obtain⟨h1,h2,h3⟩:=bZ (bQ h)
 exact val_inj h2 h h3 hn h1
theorem lg {a:List Int} (h:ag a):aJ a=aM (ac a):=by
 obtain⟨h1,h2⟩:=@lS a
 rw[←jS (mQ h) h2,h1]
theorem eI:∀{a:List Int},ag a→ac a<4294967296^a.length
 |[],_=>by simp[ac]
 |d::l,h=>by
  obtain⟨h1,h2⟩:=ea.1 h
  have:=eI h2
  simp only[ac,List.length_cons,Int.pow_succ]
  omega
theorem rU:∀{a b:List Int},ag a→ag b→bO b→a.length<b.length→ac a<ac b
 |[],b,_,hb,nb,h=>by
  have h0:=bQ hb
  have hz:ac b≠0:=fun hz=>by rw[val_zero hb nb hz] at h;simp at h
  simp only[ac]
  omega
 |d::l,[],_,_,_,h=>by simp at h
 |d::l,e::m,ha,hb,nb,h=>by
  obtain⟨h1,h2⟩:=ea.1 ha
  obtain⟨h3,h4⟩:=ea.1 hb
  simp only[List.length_cons] at h
  have:=rU h2 h4 nb.2 (by omega)
  simp only[ac]
  omega
theorem Do:∀{k:Nat} {a b:List Int},ag a→ag b→k<a.length→k<b.length→a.drop (k+1)=b.drop (k+1)→ae a k 0<ae b k 0→ac a<ac b
 |_,[],_,_,_,h,_,_,_=>by simp at h
 |_,_::_,[],_,_,_,h,_,_=>by simp at h
 |0,d::l,e::m,ha,hb,_,_,h,hk=>by
  simp only[List.drop_succ_cons,List.drop_zero] at h
  subst h
  simp only[ae,List.getElem?_cons_zero,Option.getD_some] at hk
  simp only[ac]
  omega
 |k+1,d::l,e::m,ha,hb,h1,h2,h,hk=>by
  obtain⟨a1,a2⟩:=ea.1 ha
  obtain⟨b1,b2⟩:=ea.1 hb
  simp only[List.drop_succ_cons] at h
  simp only[ae,List.getElem?_cons_succ] at hk
  have:=Do (k:=k) a2 b2 (by simpa using h1) (by simpa using h2) h hk
  simp only[ac]
  omega
theorem zj {a:List Int} {k:Nat} (h:k<a.length):a.drop k=ae a k 0::a.drop (k+1):=by rw[bF h];exact List.drop_eq_getElem_cons h
def dS (x y:Int):Int:=if x<y then -1 else if y<x then 1 else 0
def rV:bf:=⟨69,List Int×List Int,.cons (bR (.i .u32)) (.one (bR (.i .u32))),fun a=>(ag a.1∧ag a.2)∧a.1.length≤1000000000000∧a.2.length≤1000000000000,fun a=> .si .i64 (dS (ac a.1) (ac a.2))⟩
def Xd (a:List Int×List Int):Nat→bz
 |7=> .inv Int (fun i=>⟨[(0,.row (.i .u32) (aJ a.1)),(1,.row (.i .u32) (aJ a.2)),(22,.si .i64 (aJ a.1).length),(23,.si .i64 i)],[]⟩) (fun s=>iS s 23)
  (fun i=>0≤i∧i≤(aJ a.1).length∧(aJ a.1).drop ((aJ a.1).length - i.toNat)=(aJ a.2).drop ((aJ a.1).length - i.toNat)) (fun i=>((aJ a.1).length - i).toNat) fun _ _=> .look
 |_=> .look
theorem h132:Holds Tryz.prog rV:=by
 refine con (L:=[lQ]) rV wa Xd (bu.none _) (by simpa using h152) (by kernel_rfl) (by kernel_rfl) (fun _=>rfl) ?_
 rintro⟨a,b⟩ ⟨⟨ha,hb⟩,hla,hlb⟩
 simp only at ha hb hla hlb
 refine bh (let z0:=(aJ a).length;let z1:=(↑z0:Int);let z2:=(aJ b).length;let z3:=(↑z2:Int);let z4:=SV.si .i64 (dS (ac a) (ac b));let z5:=SV.row (ai.i .u32) (aJ a);let z6:=SV.row (ai.i .u32) (aJ b);let z7:=(aJ a).length;let z8:=(↑z7:Int);let z9:=SV.si .i64 z8;let ak:=SV.il .i64 0;let al:=z1 - (1:Int);a.length≤1000000000000∧b.length≤1000000000000∧(decide (z1≠z3)=true→(decide (z1<z3)=true→(SV.il .i64 (-1:Int)).same z4)∧(decide (z1<z3)=false→(SV.il .i64 1).same z4))∧(decide (z1≠z3)=false→(((z5.same z5∧z6.same z6∧(SV.si .i64 z1).same z9∧ak.same (SV.si .i64 0)∧True)∧True)∧(0:Int)≤(0:Int)∧(0:Int)≤z8∧List.drop (z7 - 0) (aJ a)=List.drop (z7 - 0) (aJ b))∧∀(x:Int),let z12:=(al - x).toNat;let au:=ae (aJ a) z12 (0:Int);let ar:=ae (aJ b) z12 (0:Int);let ax:=x+(1:Int);let ay:=SV.si .i64 ax;(0:Int)≤x∧x≤z8∧List.drop (z7 - x.toNat) (aJ a)=List.drop (z7 - x.toNat) (aJ b)→(decide (x<z8)=true→aC .i64 al∧aC .i64 (al - x)∧(0:Int)≤al - x∧al - x<z1∧z12<z0∧(0:Int)≤al - x∧al - x<z3∧z12<z2∧(decide (au<ar)=true→(SV.il .i64 (-1:Int)).same z4)∧(decide (au<ar)=false→(0:Int)≤al - x∧al - x<z1∧z12<z0∧(0:Int)≤al - x∧al - x<z3∧z12<z2∧(decide (ar<au)=true→(SV.il .i64 1).same z4)∧(decide (ar<au)=false→aC .i64 ax∧((z5.same z5∧z6.same z6∧z9.same z9∧ay.same ay∧True)∧True)∧((0:Int)≤ax∧ax≤z8∧List.drop (z7 - ax.toNat) (aJ a)=List.drop (z7 - ax.toNat) (aJ b))∧(z8 - ax).toNat<(z8 - x).toNat)))∧(decide (x<z8)=false→ak.same z4))) (by kernel_rfl) ?_
 simp only[vcs]
 obtain⟨va,na⟩:=@lS a
 obtain⟨vb,nb⟩:=@lS b
 have da:=mQ ha
 have db:=mQ hb
 have la:=@nV a
 rw[←va,←vb]
 generalize aJ a=s at*
 generalize aJ b=t at*
 have lt:ac s<ac t→ -1=dS (ac s) (ac t):=fun h=>by unfold dS;rw[if_pos h]
 have gt:ac t<ac s→1=dS (ac s) (ac t):=fun h=>by unfold dS;rw[if_neg (by omega),if_pos h]
 refine⟨hla,hlb,fun hne=>⟨fun h=>lt (rU da db nb (by omega)),fun h=>gt (rU db da na (by omega))⟩,fun he=>⟨⟨by omega,by omega,?_⟩,?_⟩⟩
 ·rw[List.drop_of_length_le (by omega),List.drop_of_length_le (by omega)]
 rintro i ⟨i0,i1,hd⟩
 refine⟨fun hlt=>?_,fun hge=>?_⟩
 ·have hk:((s.length:Int) - 1 - i).toNat=s.length - 1 - i.toNat:=by omega
  have hk2:s.length - i.toNat=s.length - 1 - i.toNat+1:=by omega
  rw[hk]
  rw[hk2] at hd
  generalize hm:s.length - 1 - i.toNat=m at*
  refine⟨by omega,by omega,by omega,by omega,by omega,by omega,by omega,by omega,fun h=>lt (Do da db (by omega) (by omega) hd h),fun h=>⟨by omega,by omega,by omega,by omega,by omega,by omega,fun h2=>gt (Do db da (by omega) (by omega) hd.symm h2),fun h2=>⟨by omega,⟨by omega,by omega,?_⟩,by omega⟩⟩⟩
  rw[show s.length - (i+1).toNat=m by omega,zj (show m<s.length by omega),zj (show m<t.length by omega),hd,show ae s m 0=ae t m 0 by omega]
 ·have hz:s.length - i.toNat=0:=by omega
  rw[hz,List.drop_zero,List.drop_zero] at hd
  subst hd
  unfold dS
  rw[if_neg (by omega),if_neg (by omega)]
def rW:bf:=⟨62,Int,.one (cT .u64),fun x=>0≤(show Int from x)∧(show Int from x)<18446744073709551616,fun x=> .row (.i .u32) (aM x)⟩
theorem h128:Holds Tryz.prog rW:=by
 refine con (L:=[lQ]) rW vZ (fun _ _=> .look) (bu.none _) (by simpa using h152) (by kernel_rfl) (by kernel_rfl) (fun _=>rfl) ?_
 intro(x:Int) h
 obtain⟨h0,h1⟩:0≤x∧x<18446744073709551616:=h
 refine bh ((0:Int)≤(32:Int)∧(32:Int)≤(64:Int)∧2≤1000000000000∧(SV.row (ai.i .u32) (aJ [x % (4294967296:Int),x / (4294967296:Int) % (4294967296:Int)])).same (SV.row (ai.i .u32) (aM x))) (by kernel_rfl) ?_
 simp only[vcs]
 refine⟨by omega,by omega,by omega,?_⟩
 have hd:ag [x % 4294967296,x / 4294967296 % 4294967296]:=by
  rw[ea,ea]
  exact⟨by omega,by omega,by simp[ag]⟩
 rw[lg hd]
 congr 1
 simp only[ac]
 omega
def dH (s t:List Int):Nat→Int
 |0=>0
 |i+1=>(ae s i 0+dH s t i+ae t i 0) / 4294967296
def jT (s t:List Int) (i:Nat):Int:=(ae s i 0+dH s t i+ae t i 0) % 4294967296
def i7 (s t:List Int) (i:Nat):List Int:=(List.range i).map (jT s t)++List.replicate (s.length+1 - i) 0
def big (a:List Int×List Int):List Int:=if a.1.length<a.2.length then a.2 else a.1
def eQ (a:List Int×List Int):List Int:=if a.1.length<a.2.length then a.1 else a.2
def ug:bf:=⟨109,List Int×List Int,.cons (bR (.i .u32)) (.one (bR (.i .u32))),fun a=>(ag a.1∧ag a.2)∧a.1.length≤100000000000∧a.2.length≤100000000000,fun a=> .row (.i .u32) (aM (ac a.1+ac a.2))⟩
def Xe (a:List Int×List Int):Nat→bz
 |6=> .inv Int (fun i=>⟨[(0,.row (.i .u32) (big a)),(1,.row (.i .u32) (eQ a)),(5,.ow 0 (i7 (big a) (eQ a) i.toNat).length 1),(6,.si .u64 (dH (big a) (eQ a) i.toNat)),(21,.si .i64 (big a).length),(22,.si .i64 i)],[.row (.i .u32) (i7 (big a) (eQ a) i.toNat) 161 true]⟩) (fun s=>iS s 22)
  (fun i=>0≤i∧i≤(big a).length) (fun i=>((big a).length - i).toNat) fun _ _=> .look
 |_=> .look
theorem bK {a:List Int} (h:ag a) (i:Nat):0≤ae a i 0∧ae a i 0<4294967296:=by
 by_cases hi:i<a.length
 ·rw[bF hi];exact h _ (List.getElem_mem hi)
 ·simp[ae,List.getElem?_eq_none (by omega:a.length≤i)]
theorem pU {a:List Int} {i:Nat} (h:a.length≤i):ae a i 0=0:=by simp[ae,List.getElem?_eq_none h]
theorem Dp {s t:List Int} (hs:ag s) (ht:ag t):∀i,0≤dH s t i∧dH s t i≤1
 |0=>by simp[dH]
 |i+1=>by
  have h:=Dp hs ht i
  have h1:=bK hs i
  have h2:=bK ht i
  simp only[dH]
  omega
theorem rX {s t:List Int} {i:Nat} (h:i≤s.length):(i7 s t i).length=s.length+1:=by simp[i7];omega
theorem Dq {s t:List Int} {i:Nat} {v:Int} (h:i≤s.length):(i7 s t i).set i v=(List.range i).map (jT s t)++v::List.replicate (s.length - i) 0:=by
 unfold i7
 have h2:s.length+1 - i=(s.length - i)+1:=by omega
 rw[h2,List.replicate_succ]
 have hl:((List.range i).map (jT s t)).length=i:=by simp
 rw[List.set_append_right _ _ (by omega),hl,Nat.sub_self,List.set_cons_zero]
theorem JO {s t:List Int} {i:Nat} (h:i<s.length):i7 s t (i+1)=(i7 s t i).set i (jT s t i):=by
 rw[Dq (by omega)]
 unfold i7
 rw[List.range_succ,List.map_append,List.append_assoc]
 congr 1
 have h2:s.length+1 - (i+1)=s.length - i:=by omega
 rw[h2]
 rfl
theorem eJ {a:List Int} {i:Nat}:ac (a.take (i+1))=ac (a.take i)+4294967296^i*ae a i 0:=by
 by_cases h:i<a.length
 ·rw[zi h,lR]
  simp[Nat.min_eq_left (Nat.le_of_lt h)]
 ·rw[pU (by omega),List.take_of_length_le (by omega),List.take_of_length_le (by omega)]
  simp
theorem Dt {s t:List Int}:∀i,ac ((List.range i).map (jT s t))+4294967296^i*dH s t i=ac (s.take i)+ac (t.take i)
 |0=>by simp[dH,ac]
 |i+1=>by
  have ih:=@Dt s t i
  rw[List.range_succ,List.map_append,List.map_cons,List.map_nil,lR,eJ,eJ,Int.pow_succ]
  have hl:((List.range i).map (jT s t)).length=i:=by simp
  rw[hl]
  have hd:jT s t i+4294967296*dH s t (i+1)=ae s i 0+dH s t i+ae t i 0:=by
   simp only[jT,dH];omega
  have hm:(4294967296:Int)^i*(jT s t i+4294967296*dH s t (i+1))=4294967296^i*(ae s i 0+dH s t i+ae t i 0):=by rw[hd]
  simp only[Int.mul_add] at hm
  rw[←Int.mul_assoc] at hm
  omega
theorem h154:Holds Tryz.prog ug:=by
 refine con (L:=[lQ]) ug wy Xe (bu.none _) (by simpa using h152) (by kernel_rfl) (by kernel_rfl) (fun _=>rfl) ?_
 rintro⟨a,b⟩ ⟨⟨ha,hb⟩,hla,hlb⟩
 simp only at ha hb hla hlb
 refine bh (let z0:=(↑a.length:Int);let z1:=(↑b.length:Int);let z2:=z1+(1:Int);let z3:=ai.i .u32;let z4:=SV.row z3 (big (a,b));let z5:=SV.row z3 (eQ (a,b));let z6:=i7 (big (a,b)) (eQ (a,b)) 0;let z7:=SV.ow 0 z6.length 1;let z8:=(↑(big (a,b)).length:Int);let z9:=SV.si .i64 z8;let ak:=af.row z3 z6 161 true;let al:=(↑(big (a,b)).length:Int);let z12:=(↑(eQ (a,b)).length:Int);let au:=z0+(1:Int);(decide (z0<z1)=true→aC .i64 z2∧(0:Int)≤z2∧z2≤z2∧z2*(4:Int)≤(140737488355328:Int)∧z2≤(1000000000000:Int)∧((((SV.row z3 b).same z4∧(SV.row z3 a).same z5∧(SV.ow 0 z2.toNat 1).same z7∧(SV.il .u64 0).same (SV.si .u64 (dH (big (a,b)) (eQ (a,b)) 0))∧(SV.si .i64 z1).same z9∧(SV.il .i64 0).same (SV.si .i64 0)∧True)∧(af.row z3 ((0:Int)::List.replicate b.length (0:Int)) 161 true).same ak∧True)∧(0:Int)≤(0:Int)∧(0:Int)≤z8)∧∀(x:Int),let ar:=i7 (big (a,b)) (eQ (a,b)) x.toNat;let ax:=ar.length;let ay:=x+(1:Int);let z17:=i7 (big (a,b)) (eQ (a,b)) ay.toNat;let aG:=dH (big (a,b)) (eQ (a,b)) x.toNat;let aH:=(ae (big (a,b)) x.toNat (0:Int) % (18446744073709551616:Int)+aG) % (18446744073709551616:Int);let z20:=(aH+ae (eQ (a,b)) x.toNat (0:Int) % (18446744073709551616:Int)) % (18446744073709551616:Int);let z21:=SV.si .u64 (dH (big (a,b)) (eQ (a,b)) ay.toNat);let z22:=SV.si .i64 ay;let z23:=af.row z3 z17 161 true;let z24:=ar.set al.toNat (aG % (4294967296:Int));(0:Int)≤x∧x≤z8→(decide (x<z8)=true→(0:Int)≤x∧x<al∧x.toNat<(big (a,b)).length∧(decide (x<z12)=true→(0:Int)≤x∧x<z12∧x.toNat<(eQ (a,b)).length∧(0:Int)≤(32:Int)∧(32:Int)≤(64:Int)∧ar.length=ax∧(0:Int)≤x∧x<(↑ax:Int)∧ar.length=ax∧x.toNat<ax∧aC .i64 ay∧((z4.same z4∧z5.same z5∧(SV.ow 0 ar.length 1).same (SV.ow 0 z17.length 1)∧(SV.si .u64 (z20 / (4294967296:Int))).same z21∧z9.same z9∧z22.same z22∧True)∧(af.row z3 (ar.set x.toNat (z20 % (4294967296:Int))) 161 true).same z23∧True)∧((0:Int)≤ay∧ay≤z8)∧(z8 - ay).toNat<(z8 - x).toNat)∧(decide (x<z12)=false→(0:Int)≤(32:Int)∧(32:Int)≤(64:Int)∧ar.length=ax∧(0:Int)≤x∧x<(↑ax:Int)∧ar.length=ax∧x.toNat<ax∧aC .i64 ay∧((z4.same z4∧z5.same z5∧(SV.ow 0 ar.length 1).same (SV.ow 0 z17.length 1)∧(SV.si .u64 (aH / (4294967296:Int))).same z21∧z9.same z9∧z22.same z22∧True)∧(af.row z3 (ar.set x.toNat (aH % (4294967296:Int))) 161 true).same z23∧True)∧((0:Int)≤ay∧ay≤z8)∧(z8 - ay).toNat<(z8 - x).toNat))∧(decide (x<z8)=false→ar.length=ax∧(0:Int)≤al∧al<(↑ax:Int)∧ar.length=ax∧al.toNat<ax∧ar.length=z24.length∧z24.length≤1000000000000∧(SV.row z3 (aJ z24)).same (SV.row z3 (aM (ac a+ac b)))))∧(decide (z0<z1)=false→aC .i64 au∧(0:Int)≤au∧au≤au∧au*(4:Int)≤(140737488355328:Int)∧au≤(1000000000000:Int)∧((((SV.row z3 a).same z4∧(SV.row z3 b).same z5∧(SV.ow 0 au.toNat 1).same z7∧(SV.il .u64 0).same (SV.si .u64 (dH (big (a,b)) (eQ (a,b)) 0))∧(SV.si .i64 z0).same z9∧(SV.il .i64 0).same (SV.si .i64 0)∧True)∧(af.row z3 ((0:Int)::List.replicate a.length (0:Int)) 161 true).same ak∧True)∧(0:Int)≤(0:Int)∧(0:Int)≤z8)∧∀(x:Int),let z25:=i7 (big (a,b)) (eQ (a,b)) x.toNat;let z26:=z25.length;let z27:=x+(1:Int);let z28:=i7 (big (a,b)) (eQ (a,b)) z27.toNat;let z29:=dH (big (a,b)) (eQ (a,b)) x.toNat;let z30:=(ae (big (a,b)) x.toNat (0:Int) % (18446744073709551616:Int)+z29) % (18446744073709551616:Int);let z31:=(z30+ae (eQ (a,b)) x.toNat (0:Int) % (18446744073709551616:Int)) % (18446744073709551616:Int);let z32:=SV.si .u64 (dH (big (a,b)) (eQ (a,b)) z27.toNat);let z33:=SV.si .i64 z27;let z34:=af.row z3 z28 161 true;let z35:=z25.set al.toNat (z29 % (4294967296:Int));(0:Int)≤x∧x≤z8→(decide (x<z8)=true→(0:Int)≤x∧x<al∧x.toNat<(big (a,b)).length∧(decide (x<z12)=true→(0:Int)≤x∧x<z12∧x.toNat<(eQ (a,b)).length∧(0:Int)≤(32:Int)∧(32:Int)≤(64:Int)∧z25.length=z26∧(0:Int)≤x∧x<(↑z26:Int)∧z25.length=z26∧x.toNat<z26∧aC .i64 z27∧((z4.same z4∧z5.same z5∧(SV.ow 0 z25.length 1).same (SV.ow 0 z28.length 1)∧(SV.si .u64 (z31 / (4294967296:Int))).same z32∧z9.same z9∧z33.same z33∧True)∧(af.row z3 (z25.set x.toNat (z31 % (4294967296:Int))) 161 true).same z34∧True)∧((0:Int)≤z27∧z27≤z8)∧(z8 - z27).toNat<(z8 - x).toNat)∧(decide (x<z12)=false→(0:Int)≤(32:Int)∧(32:Int)≤(64:Int)∧z25.length=z26∧(0:Int)≤x∧x<(↑z26:Int)∧z25.length=z26∧x.toNat<z26∧aC .i64 z27∧((z4.same z4∧z5.same z5∧(SV.ow 0 z25.length 1).same (SV.ow 0 z28.length 1)∧(SV.si .u64 (z30 / (4294967296:Int))).same z32∧z9.same z9∧z33.same z33∧True)∧(af.row z3 (z25.set x.toNat (z30 % (4294967296:Int))) 161 true).same z34∧True)∧((0:Int)≤z27∧z27≤z8)∧(z8 - z27).toNat<(z8 - x).toNat))∧(decide (x<z8)=false→z25.length=z26∧(0:Int)≤al∧al<(↑z26:Int)∧z25.length=z26∧al.toNat<z26∧z25.length=z35.length∧z35.length≤1000000000000∧(SV.row z3 (aJ z35)).same (SV.row z3 (aM (ac a+ac b)))))) (by kernel_rfl) ?_
 simp only[vcs]
 have hbs:(a.length<b.length∧big (a,b)=b∧eQ (a,b)=a)∨(¬a.length<b.length∧big (a,b)=a∧eQ (a,b)=b):=by
  by_cases h:a.length<b.length
  ·exact .inl ⟨h,if_pos h,if_pos h⟩
  ·exact .inr ⟨h,if_neg h,if_neg h⟩
 generalize big (a,b)=s at*
 generalize eQ (a,b)=t at*
 have hrow:∀{u v:List Int},u=v→(af.row (.i .u32) u 161 true).same (af.row (.i .u32) v 161 true):=by rintro _ _ rfl;rfl
 have how:∀{u v:Nat},u=v→(SV.ow 0 u 1).same (SV.ow 0 v 1):=by rintro _ _ rfl;rfl
 have r0:∀u v:List Int,i7 u v 0=0::List.replicate u.length 0:=fun u v=>rfl
 refine⟨fun h=>?_,fun h=>?_⟩
 ·obtain⟨h1,e1,e2⟩:a.length<b.length∧s=b∧t=a:=by
   rcases hbs with h2|h2
   ·exact h2
   ·exact absurd (by omega) h2.1
  subst e1 e2
  have hS:ag s:=by assumption
  have hT:ag t:=by assumption
  have hts:t.length≤s.length:=by omega
  have bd:=Dp hS hT
  refine⟨⟨by omega,by omega⟩,by omega,by omega,by omega,by omega,⟨⟨⟨rfl,rfl,how (by rw[rX (by omega)];omega),rfl,rfl⟩,hrow (r0 s t).symm⟩,by omega,by omega⟩,?_⟩
  rintro i ⟨i0,i1⟩
  have l1:=@rX s t i.toNat (by omega)
  have b1:=bd i.toNat
  have d1:=bK hS i.toNat
  have d2:=bK hT i.toNat
  refine⟨fun ig=>?_,fun ja=>?_⟩
  ·have l2:=@rX s t (i.toNat+1) (by omega)
   have e:(i+1).toNat=i.toNat+1:=by omega
   have hst:=JO (s:=s) (t:=t) (show i.toNat<s.length by omega)
   refine⟨i0,ig,by omega,fun ht=>?_,fun ht=>?_⟩
   ·have hv:(((ae s i.toNat 0 % 18446744073709551616+dH s t i.toNat) % 18446744073709551616+ae t i.toNat 0 % 18446744073709551616) % 18446744073709551616)=ae s i.toNat 0+dH s t i.toNat+ae t i.toNat 0:=by omega
    rw[hv,e]
    exact⟨i0,ht,by omega,by omega,by omega,i0,by omega,by omega,by omega,⟨⟨how (by omega),rfl⟩,hrow hst.symm⟩,by omega,by omega⟩
   ·have hz:=pU (a:=t) (i:=i.toNat) (by omega)
    have hv:((ae s i.toNat 0 % 18446744073709551616+dH s t i.toNat) % 18446744073709551616)=ae s i.toNat 0+dH s t i.toNat+ae t i.toNat 0:=by omega
    rw[hv,e]
    exact⟨by omega,by omega,i0,by omega,by omega,by omega,⟨⟨how (by omega),rfl⟩,hrow hst.symm⟩,by omega,by omega⟩
  ·have hi:i.toNat=s.length:=by omega
   have hc:dH s t i.toNat % 4294967296=dH s t i.toNat:=by omega
   rw[hc,Int.toNat_natCast,hi]
   rw[hi] at l1 b1
   refine⟨by omega,by omega,by omega,by simp,by simp;omega,?_⟩
   rw[Dq (Nat.le_refl _),Nat.sub_self,List.replicate_zero,lg ?_]
   ·rw[lR]
    have hv:=@Dt s t s.length
    rw[List.take_length,List.take_of_length_le hts] at hv
    have hl:((List.range s.length).map (jT s t)).length=s.length:=by simp
    rw[hl,hv]
    try rw[Int.add_comm]
   ·intro d hd
    rcases List.mem_append.1 hd with hd|hd
    ·obtain⟨j,_,rfl⟩:=List.mem_map.1 hd
     unfold jT
     omega
    ·rw[List.mem_singleton] at hd
     omega
 ·obtain⟨h1,e1,e2⟩:¬a.length<b.length∧s=a∧t=b:=by
   rcases hbs with h2|h2
   ·exact absurd h2.1 (by omega)
   ·exact h2
  subst e1 e2
  have hS:ag s:=by assumption
  have hT:ag t:=by assumption
  have hts:t.length≤s.length:=by omega
  have bd:=Dp hS hT
  refine⟨⟨by omega,by omega⟩,by omega,by omega,by omega,by omega,⟨⟨⟨rfl,rfl,how (by rw[rX (by omega)];omega),rfl,rfl⟩,hrow (r0 s t).symm⟩,by omega,by omega⟩,?_⟩
  rintro i ⟨i0,i1⟩
  have l1:=@rX s t i.toNat (by omega)
  have b1:=bd i.toNat
  have d1:=bK hS i.toNat
  have d2:=bK hT i.toNat
  refine⟨fun ig=>?_,fun ja=>?_⟩
  ·have l2:=@rX s t (i.toNat+1) (by omega)
   have e:(i+1).toNat=i.toNat+1:=by omega
   have hst:=JO (s:=s) (t:=t) (show i.toNat<s.length by omega)
   refine⟨i0,ig,by omega,fun ht=>?_,fun ht=>?_⟩
   ·have hv:(((ae s i.toNat 0 % 18446744073709551616+dH s t i.toNat) % 18446744073709551616+ae t i.toNat 0 % 18446744073709551616) % 18446744073709551616)=ae s i.toNat 0+dH s t i.toNat+ae t i.toNat 0:=by omega
    rw[hv,e]
    exact⟨i0,ht,by omega,by omega,by omega,i0,by omega,by omega,by omega,⟨⟨how (by omega),rfl⟩,hrow hst.symm⟩,by omega,by omega⟩
   ·have hz:=pU (a:=t) (i:=i.toNat) (by omega)
    have hv:((ae s i.toNat 0 % 18446744073709551616+dH s t i.toNat) % 18446744073709551616)=ae s i.toNat 0+dH s t i.toNat+ae t i.toNat 0:=by omega
    rw[hv,e]
    exact⟨by omega,by omega,i0,by omega,by omega,by omega,⟨⟨how (by omega),rfl⟩,hrow hst.symm⟩,by omega,by omega⟩
  ·have hi:i.toNat=s.length:=by omega
   have hc:dH s t i.toNat % 4294967296=dH s t i.toNat:=by omega
   rw[hc,Int.toNat_natCast,hi]
   rw[hi] at l1 b1
   refine⟨by omega,by omega,by omega,by simp,by simp;omega,?_⟩
   rw[Dq (Nat.le_refl _),Nat.sub_self,List.replicate_zero,lg ?_]
   ·rw[lR]
    have hv:=@Dt s t s.length
    rw[List.take_length,List.take_of_length_le hts] at hv
    have hl:((List.range s.length).map (jT s t)).length=s.length:=by simp
    rw[hl,hv]
    try rw[Int.add_comm]
   ·intro d hd
    rcases List.mem_append.1 hd with hd|hd
    ·obtain⟨j,_,rfl⟩:=List.mem_map.1 hd
     unfold jT
     omega
    ·rw[List.mem_singleton] at hd
     omega
def dT (d:Int):List Int→List Int×Int
 |[]=>([],0)
 |x::l=>(((dT d l).2*4294967296+x) / d::(dT d l).1,((dT d l).2*4294967296+x) % d)
theorem JP {d:Int}:∀{a:List Int},(dT d a).1.length=a.length
 |[]=>rfl
 |x::l=>by simp[dT,JP]
theorem zk {d:Int} (h0:0<d) (h1:d<4294967296):∀{a:List Int},ag a→ag (dT d a).1∧(0≤(dT d a).2∧(dT d a).2<d)∧ac (dT d a).1*d+(dT d a).2=ac a
 |[],_=>by simp[dT,ag,ac,h0]
 |x::l,h=>by
  obtain⟨h2,h3⟩:=ea.1 h
  obtain⟨i1,⟨i2,i3⟩,i4⟩:=zk h0 h1 h3
  simp only[dT]
  generalize (dT d l).1=q at*
  generalize (dT d l).2=r at*
  have hm:=Int.emod_nonneg (r*4294967296+x) (show d≠0 by omega)
  have hl:=Int.emod_lt_of_pos (r*4294967296+x) h0
  have hq0:0≤(r*4294967296+x) / d:=Int.ediv_nonneg (by omega) (by omega)
  have hq1:(r*4294967296+x) / d<4294967296:=by
   refine Int.ediv_lt_of_lt_mul h0 ?_
   have:(r+1)*4294967296≤d*4294967296:=by omega
   rw[Int.mul_comm]
   omega
  refine⟨ea.2 ⟨⟨hq0,hq1⟩,i1⟩,⟨hm,hl⟩,?_⟩
  simp only[ac]
  have he:=Int.mul_ediv_add_emod (r*4294967296+x) d
  rw[Int.add_mul,Int.mul_assoc,Int.mul_comm ((r*4294967296+x) / d) d]
  rw[←i4]
  omega
theorem Xf {d:Int} (h0:0<d) (h1:d<4294967296) {a:List Int} (ha:ag a):aJ (dT d a).1=aM (ac a / d)∧(dT d a).2=ac a % d:=by
 obtain⟨k1,⟨k2,k3⟩,k4⟩:=zk h0 h1 ha
 rw[lg k1]
 have hv:=bQ k1
 have e1:ac a / d=ac (dT d a).1:=by
  rw[←k4,Int.add_comm,Int.add_mul_ediv_right _ _ (by omega),Int.ediv_eq_zero_of_lt k2 k3,Int.zero_add]
 have e2:ac a % d=(dT d a).2:=by
  rw[←k4,Int.add_comm,Int.add_mul_emod_self_right,Int.emod_eq_of_lt k2 k3]
 rw[e1,e2]
 exact⟨rfl,rfl⟩
theorem Du {r x:Int} (r0:0≤r) (r1:r<4294967296) (x0:0≤x) (x1:x<4294967296):dZ.ju .u64 (r*4294967296) x=r*4294967296+x:=by
 obtain⟨m,rfl⟩:=Int.eq_ofNat_of_zero_le r0
 obtain⟨k,rfl⟩:=Int.eq_ofNat_of_zero_le x0
 have h1:(BitVec.ofInt 64 ((m:Int)*4294967296)).toNat=2^32*m:=by
  simp only[BitVec.toNat_ofInt]
  omega
 have h2:(BitVec.ofInt 64 (k:Int)).toNat=k:=by
  simp only[BitVec.toNat_ofInt]
  omega
 have h3:(BitVec.ofInt 64 ((m:Int)*4294967296) |||BitVec.ofInt 64 (k:Int)).toNat=2^32*m+k:=by
  rw[BitVec.toNat_or,h1,h2,Nat.two_pow_add_eq_or_of_lt (by omega)]
 show cO .u64 ((BitVec.ofInt 64 ((m:Int)*4294967296) |||BitVec.ofInt 64 (k:Int)).toNat:Nat)=_
 rw[h3,nl]
 simp only[IntKind.wrap,IntKind.bits,IntKind.signed]
 simp
 omega
def Dv:bf:=⟨166,List Int×Int,.cons (bR (.i .u32)) (.one (cT .u32)),fun a=>ag a.1∧a.1.length≤100000000000∧0<a.2∧a.2<4294967296,fun a=> .aD [.row (.i .u32) (aM (ac a.1 / a.2)),.si .u32 (ac a.1 % a.2)]⟩
def ii (a:List Int) (d:Int) (i:Nat):List Int:=List.replicate (a.length - i) 0++(dT d (a.drop (a.length - i))).1
def gJ (a:List Int) (d:Int) (i:Nat):Int:=(dT d (a.drop (a.length - i))).2
def Xg (a:List Int×Int):Nat→bz
 |4=> .inv Int (fun i=>⟨[(0,.row (.i .u32) a.1),(1,.si .u32 a.2),(6,.ow 0 (ii a.1 a.2 i.toNat).length 1),(7,.si .u64 (gJ a.1 a.2 i.toNat)),(15,.si .i64 a.1.length),(16,.si .i64 i)],[.row (.i .u32) (ii a.1 a.2 i.toNat) 161 true]⟩) (fun s=>iS s 16)
  (fun i=>0≤i∧i≤a.1.length) (fun i=>(a.1.length - i).toNat) fun _ _=> .look
 |_=> .look
theorem Dw {a:List Int} {d:Int} {i:Nat} (h:i≤a.length):(ii a d i).length=a.length:=by
 simp only[ii,JP,List.length_append,List.length_replicate,List.length_drop]
 omega
theorem drop_cons {a:List Int} {k:Nat} (h:k<a.length):a.drop k=ae a k 0::a.drop (k+1):=zj h
theorem JQ {q:List Int} {y:Int}:∀k,(List.replicate (k+1) 0++q).set k y=List.replicate k 0++y::q
 |0=>by simp
 |k+1=>by
  have:=@JQ q y k
  rw[List.replicate_succ,List.cons_append,List.set_cons_succ,this,List.replicate_succ,List.cons_append]
theorem u64_in {n:Int} (h0:0≤n) (h1:n<18446744073709551616):aC .u64 n:=by
 show IntKind.u64.wrap n=n
 simp only[IntKind.wrap,IntKind.bits,IntKind.signed]
 simp
 omega
theorem h167:Holds Tryz.prog Dv:=by
 refine con (L:=[lQ]) Dv wL Xg (bu.none _) (by simpa using h152) (by kernel_rfl) (by kernel_rfl) (fun _=>rfl) ?_
 rintro⟨a,d⟩ ⟨ha,hla,d0,d1⟩
 simp only at ha hla d0 d1
 refine bh (let z0:=(↑a.length:Int);let z1:=ai.i .u32;let z2:=(↑a.length:Int);let z3:=SV.si .i64 z2;let z4:=d % (18446744073709551616:Int);(0:Int)≤z0∧z0≤z0∧z0*(4:Int)≤(140737488355328:Int)∧z0≤(1000000000000:Int)∧((((SV.row z1 a).same (SV.row z1 a)∧(SV.si .u32 d).same (SV.si .u32 d)∧(SV.ow 0 z0.toNat 1).same (SV.ow 0 (ii a d 0).length 1)∧(SV.il .u64 0).same (SV.si .u64 (gJ a d 0))∧(SV.si .i64 z0).same z3∧(SV.il .i64 0).same (SV.si .i64 0)∧True)∧(af.row z1 (List.replicate z0.toNat (0:Int)) 161 true).same (af.row z1 (ii a d 0) 161 true)∧True)∧(0:Int)≤(0:Int)∧(0:Int)≤z2)∧∀(x:Int),let z5:=z0 - (1:Int) - x;let z6:=dZ.ju .u64 (gJ a d x.toNat*(4294967296:Int) % (18446744073709551616:Int)) (ae a z5.toNat (0:Int) % (18446744073709551616:Int));let z7:=ii a d x.toNat;let z8:=x+(1:Int);let z9:=SV.si .i64 z8;(0:Int)≤x∧x≤z2→(decide (x<z2)=true→aC .i64 (z0 - (1:Int))∧aC .i64 z5∧(0:Int)≤(32:Int)∧(32:Int)≤(64:Int)∧(0:Int)≤z5∧z5<z0∧z5.toNat<a.length∧z4≠(0:Int)∧aC .u64 (z6.tdiv z4)∧z4≠(0:Int)∧z7.length=z7.length∧(0:Int)≤z5∧z5<(↑z7.length:Int)∧z7.length=z7.length∧z5.toNat<z7.length∧aC .i64 z8∧(((SV.row z1 a).same (SV.row z1 a)∧(SV.si .u32 d).same (SV.si .u32 d)∧(SV.ow 0 z7.length 1).same (SV.ow 0 (ii a d z8.toNat).length 1)∧(SV.si .u64 (z6.tmod z4)).same (SV.si .u64 (gJ a d z8.toNat))∧z3.same z3∧z9.same z9∧True)∧(af.row z1 (z7.set z5.toNat (z6.tdiv z4 % (4294967296:Int))) 161 true).same (af.row z1 (ii a d z8.toNat) 161 true)∧True)∧((0:Int)≤z8∧z8≤z2)∧(z2 - z8).toNat<(z2 - x).toNat)∧(decide (x<z2)=false→z7.length=z7.length∧z7.length≤1000000000000∧(SV.aD [SV.row z1 (aJ z7),SV.si .u32 (gJ a d x.toNat % (4294967296:Int))]).same (SV.aD [SV.row z1 (aM (ac a / d)),SV.si .u32 (ac a % d)]))) (by kernel_rfl) ?_
 simp only[vcs]
 have hrow:∀{u v:List Int},u=v→(af.row (.i .u32) u 161 true).same (af.row (.i .u32) v 161 true):=by rintro _ _ rfl;rfl
 have how:∀{u v:Nat},u=v→(SV.ow 0 u 1).same (SV.ow 0 v 1):=by rintro _ _ rfl;rfl
 have z1:ii a d 0=List.replicate a.length 0:=by simp[ii,dT]
 have z2:gJ a d 0=0:=by simp[gJ,dT]
 refine⟨by omega,by omega,by omega,by omega,⟨⟨⟨how (by rw[Dw (by omega)];omega),z2.symm⟩,hrow (by rw[z1,Int.toNat_natCast])⟩,by omega,by omega⟩,?_⟩
 rintro i ⟨i0,i1⟩
 have l1:=@Dw a d i.toNat (by omega)
 have l2:=fun h=>@Dw a d (i+1).toNat h
 have dd:d % 18446744073709551616=d:=by omega
 refine⟨fun ig=>?_,fun ja=>?_⟩
 ·have hx:((a.length:Int) - 1 - i).toNat=a.length - 1 - i.toNat:=by omega
  have hk1:a.length - i.toNat=a.length - 1 - i.toNat+1:=by omega
  have hk2:a.length - (i+1).toNat=a.length - 1 - i.toNat:=by omega
  have hR:ii a d i.toNat=List.replicate (a.length - 1 - i.toNat+1) 0++(dT d (a.drop (a.length - 1 - i.toNat+1))).1:=by unfold ii;rw[hk1]
  have hC:gJ a d i.toNat=(dT d (a.drop (a.length - 1 - i.toNat+1))).2:=by unfold gJ;rw[hk1]
  have hR2:ii a d (i+1).toNat=List.replicate (a.length - 1 - i.toNat) 0++(dT d (a.drop (a.length - 1 - i.toNat))).1:=by unfold ii;rw[hk2]
  have hC2:gJ a d (i+1).toNat=(dT d (a.drop (a.length - 1 - i.toNat))).2:=by unfold gJ;rw[hk2]
  have hlt:a.length - 1 - i.toNat<a.length:=by omega
  rw[hx]
  have l3:=l2 (by omega)
  generalize a.length - 1 - i.toNat=k at*
  have hdr:=drop_cons hlt
  have hdig:ag (a.drop k):=fun z hz=>ha z (List.mem_of_mem_drop hz)
  obtain⟨q1,q2,q3⟩:=zk d0 d1 (a:=a.drop (k+1)) (fun z hz=>ha z (List.mem_of_mem_drop hz))
  obtain⟨p1,p2,p3⟩:=zk d0 d1 hdig
  rw[hdr] at hR2 hC2 p1 p2
  simp only[dT] at hR2 hC2 p1 p2
  have hxd:=bK ha k
  rw[←hC] at hR2 hC2 p1 p2 q2
  have e1:gJ a d i.toNat*4294967296 % 18446744073709551616=gJ a d i.toNat*4294967296:=by omega
  have e2:ae a k 0 % 18446744073709551616=ae a k 0:=by omega
  rw[e1,e2,dd,Du (by omega) (by omega) hxd.1 hxd.2]
  have hv0:0≤gJ a d i.toNat*4294967296+ae a k 0:=by omega
  rw[Int.tdiv_eq_ediv_of_nonneg hv0,Int.tmod_eq_emod_of_nonneg hv0]
  have hq:=(ea.1 p1).1
  have hqm:(gJ a d i.toNat*4294967296+ae a k 0) / d % 4294967296=(gJ a d i.toNat*4294967296+ae a k 0) / d:=Int.emod_eq_of_lt hq.1 hq.2
  rw[hqm]
  refine⟨by omega,by omega,by omega,by omega,by omega,by omega,by omega,by omega,u64_in hq.1 (by omega),by omega,by omega,by omega,by omega,by omega,⟨⟨how (by omega),hC2.symm⟩,hrow ?_⟩,by omega,by omega⟩
  rw[hR2,hR,JQ]
 ·have hi:a.length - i.toNat=0:=by omega
  have hR:ii a d i.toNat=(dT d a).1:=by unfold ii;rw[hi];simp
  have hC:gJ a d i.toNat=(dT d a).2:=by unfold gJ;rw[hi];simp
  obtain⟨k1,k2⟩:=Xf d0 d1 ha
  have hm:=Int.emod_nonneg (ac a) (show d≠0 by omega)
  have hl:=Int.emod_lt_of_pos (ac a) d0
  refine⟨by omega,by rw[hR,k1],?_⟩
  rw[hC,k2]
  omega
def bT (x y:Int):Int:=(Nat.gcd x.toNat y.toNat:Nat)
theorem JR {x y:Int} (h0:0≤x) (h1:0<y):bT y (x % y)=bT x y:=by
 unfold bT
 congr 1
 rw[Nat.gcd_comm x.toNat,Nat.gcd_rec y.toNat x.toNat,Nat.gcd_comm,Int.toNat_emod h0 (by omega)]
theorem JS {x:Int} (h0:0≤x):bT x 0=x:=by unfold bT;simp;omega
def eb:Nat→Int→List Int
 |0,_=>[]
 |k+1,x=>x % 4294967296::eb k (x / 4294967296)
theorem uh:∀{k:Nat} {x:Int},(eb k x).length=k
 |0,_=>rfl
 |k+1,x=>by simp[eb,uh]
theorem Dx:∀{k:Nat} {x:Int},ag (eb k x)
 |0,_=>by simp[eb,ag]
 |k+1,x=>ea.2 ⟨by omega,Dx⟩
theorem JU:∀{l:List Int},ag l→eb l.length (ac l)=l
 |[],_=>rfl
 |d::l,h=>by
  obtain⟨h1,h2⟩:=ea.1 h
  simp only[List.length_cons,eb,ac]
  have e1:(d+4294967296*ac l) % 4294967296=d:=by omega
  have e2:(d+4294967296*ac l) / 4294967296=ac l:=by omega
  rw[e1,e2,JU h2]
theorem Dy {l:List Int} {k:Nat} {x:Int} (h:ag l) (hk:l.length=k) (hx:ac l=x):l=eb k x:=by
 subst hk hx
 exact(JU h).symm
theorem pow_pos (k:Nat):(0:Int)<4294967296^k:=Int.pow_pos (by decide)
theorem Dz:∀{k:Nat} {x:Int},0≤x→x<4294967296^k→ac (eb k x)=x
 |0,x,h0,h1=>by simp only[Int.pow_zero] at h1;simp only[eb,ac];omega
 |k+1,x,h0,h1=>by
  rw[Int.pow_succ] at h1
  simp only[eb,ac]
  rw[Dz (k:=k) (x:=x / 4294967296) (by omega) (by omega)]
  omega
theorem zm:∀{a b:List Int},ac (a++b)=ac a+4294967296^a.length*ac b
 |[],b=>by simp[ac]
 |d::l,b=>by
  simp only[List.cons_append,ac,zm,List.length_cons,Int.pow_succ,Int.mul_add]
  rw[←Int.mul_assoc,Int.mul_comm 4294967296 (4294967296^l.length)]
  omega
theorem nX:∀{l:List Int} {j:Nat} {v:Int},j<l.length→ac (l.set j v)=ac l+4294967296^j*(v - ae l j 0)
 |[],_,_,h=>by simp at h
 |d::l,0,v,_=>by simp[ac,ae];omega
 |d::l,j+1,v,h=>by
  have ih:=@nX l j v (by simpa using h)
  have hn:ae (d::l) (j+1) 0=ae l j 0:=by simp[ae]
  simp only[List.set_cons_succ,ac,ih,hn,Int.pow_succ,Int.mul_add]
  rw[←Int.mul_assoc,Int.mul_comm 4294967296 (4294967296^j)]
  omega
theorem jb {l:List Int} {j:Nat} {v:Int} (h:ag l) (h0:0≤v) (h1:v<4294967296):ag (l.set j v):=by
 intro d hd
 rcases List.mem_or_eq_of_mem_set hd with hd|rfl
 ·exact h d hd
 ·exact⟨h0,h1⟩
theorem rY {a:List Int} (h:ag a) (n:Nat):ag (a.drop n):=fun d hd=>h d (List.mem_of_mem_drop hd)
theorem pV {a b:List Int} (ha:ag a) (hb:ag b):ag (a++b):=fun d hd=>by
 rcases List.mem_append.1 hd with h|h
 ·exact ha d h
 ·exact hb d h
theorem ui {x:Int} (h0:0≤x) (h1:x<4294967296):ag [x]:=ea.2 ⟨⟨h0,h1⟩,by simp[ag]⟩
theorem mR {l:List Int} {j:Nat} {v:Int} (h:j<l.length):ae (l.set j v) j 0=v:=by
 unfold ae
 rw[List.getElem?_set_self h];rfl
theorem jU {l:List Int} {i j:Nat} {v:Int} (h:i≠j):ae (l.set i v) j 0=ae l j 0:=by
 unfold ae
 rw[List.getElem?_set_ne h]
theorem uj:∀{l:List Int} {i j:Nat},ag l→ac l<4294967296^i→i≤j→ae l j 0=0
 |[],_,_,_,_,_=>by simp[ae]
 |d::l,0,j,h,hv,hj=>by
  obtain⟨h1,h2⟩:=ea.1 h
  have:=bQ h2
  simp only[ac,Int.pow_zero] at hv
  have hd:d=0:=by omega
  have hl:ac l=0:=by omega
  cases j with
  |zero=>simp[ae,hd]
  |succ j=>
   have:=uj (l:=l) (i:=0) (j:=j) h2 (by simp;omega) (by omega)
   simpa[ae] using this
 |d::l,i+1,j,h,hv,hj=>by
  obtain⟨h1,h2⟩:=ea.1 h
  cases j with
  |zero=>omega
  |succ j=>
   rw[Int.pow_succ] at hv
   simp only[ac] at hv
   have:=uj (l:=l) (i:=i) (j:=j) h2 (by omega) (by omega)
   simpa[ae] using this
def ec (o b:List Int) (x:Int) (i:Nat):Nat→List Int×Int
 |0=>(o,0)
 |k+1=>((ec o b x i k).1.set (i+k) ((x*ae b k 0+ae (ec o b x i k).1 (i+k) 0+(ec o b x i k).2) % 4294967296),(x*ae b k 0+ae (ec o b x i k).1 (i+k) 0+(ec o b x i k).2) / 4294967296)
theorem JV {o b:List Int} {x:Int} {i:Nat} (ho:ag o) (hb:ag b) (x0:0≤x) (x1:x<4294967296):∀{k:Nat},i+k≤o.length→
  ag (ec o b x i k).1∧(ec o b x i k).1.length=o.length∧(0≤(ec o b x i k).2∧(ec o b x i k).2<4294967296)∧(∀j,i+k≤j→ae (ec o b x i k).1 j 0=ae o j 0)∧
  ac (ec o b x i k).1+4294967296^(i+k)*(ec o b x i k).2=ac o+4294967296^i*(x*ac (b.take k))
 |0,h=>by simp[ec,ho,ac]
 |k+1,h=>by
  obtain⟨h1,h2,⟨h3,h4⟩,h5,h6⟩:=@JV o b x i ho hb x0 x1 k (by omega)
  simp only[ec]
  generalize (ec o b x i k).1=p at*
  generalize (ec o b x i k).2=c at*
  have b1:=bK hb k
  have p1:=bK h1 (i+k)
  have hxb:0≤x*ae b k 0:=Int.mul_nonneg x0 b1.1
  have Xh:x*ae b k 0≤4294967295*4294967295:=Int.mul_le_mul (by omega) (by omega) b1.1 (by omega)
  have hlt:i+k<p.length:=by omega
  refine⟨jb h1 (by omega) (by omega),by simp[h2],⟨by omega,by omega⟩,fun j hj=>?_,?_⟩
  ·rw[jU (by omega)];exact h5 j (by omega)
  ·rw[nX hlt,eJ,show i+(k+1)=i+k+1 by omega,Int.pow_succ]
   generalize ht:x*ae b k 0+ae p (i+k) 0+c=t at*
   have ht2:x*ae b k 0=t - ae p (i+k) 0 - c:=by omega
   have e1:4294967296^i*(x*(ac (b.take k)+4294967296^k*ae b k 0))=4294967296^i*(x*ac (b.take k))+4294967296^(i+k)*(x*ae b k 0):=by
    rw[Int.pow_add,Int.mul_add,Int.mul_add]
    congr 1
    rw[Int.mul_left_comm x,Int.mul_assoc]
   rw[e1,ht2]
   generalize (4294967296:Int)^(i+k)=B at*
   have e2:B*4294967296*(t / 4294967296)=B*(t - t % 4294967296):=by
    rw[Int.mul_assoc];congr 1;omega
   rw[e2]
   simp only[Int.mul_sub]
   omega
theorem gK {i u v:Nat} (h:u=v):(SV.ow i u 1).same (SV.ow i v 1):=by subst h;rfl
theorem Xi {u v:List Int} (h:u=v):(SV.row (.i .u32) u).same (SV.row (.i .u32) v):=by subst h;rfl
theorem DC {l:List Int} (h:l=[]):(SV.row (.i .i64) []).same (SV.row (.i .u32) l):=by subst h;rfl
def JW (x y:Int):SV:=.aD [.row (.i .u32) (aM (x - y)),.sb (decide (y≤x))]
theorem zn {n:Int} (h:n≤0):aM n=[]:=by
 unfold aM
 rw[show n.toNat=0 by omega]
 rfl
def DD:bf:=⟨110,List Int×List Int,.cons (bR (.i .u32)) (.one (bR (.i .u32))),fun a=>(ag a.1∧ag a.2)∧a.1.length≤100000000000∧a.2.length≤100000000000,
 fun a=>JW (ac a.1) (ac a.2)⟩
def Xj (a:List Int×List Int):Nat→bz
 |7=> .inv (Int×Int×List Int) (fun x=>⟨[(0,.row (.i .u32) (aJ a.1)),(1,.row (.i .u32) (aJ a.2)),(6,.ow 0 x.2.2.length 1),(7,.si .u64 x.2.1),(22,.si .i64 (aJ a.1).length),(23,.si .i64 x.1)],[.row (.i .u32) x.2.2 161 true]⟩)
  (fun s=>(iS s 23,iS s 7,oS (.i .u32) s 0))
  (fun x=>(0≤x.1∧x.1≤(aJ a.1).length)∧(0≤x.2.1∧x.2.1≤1)∧ag x.2.2∧x.2.2.length=(aJ a.1).length∧(∀j,x.1.toNat≤j→ae x.2.2 j 0=0)∧
   ac x.2.2 - 4294967296^x.1.toNat*x.2.1=ac ((aJ a.1).take x.1.toNat) - ac ((aJ a.2).take x.1.toNat)) (fun x=>((aJ a.1).length - x.1).toNat) fun _ _=> .look
 |_=> .look
theorem JX {s t row:List Int} {i:Nat} {br d v c:Int} (hs:ag s) (ht:ag t) (hr:ag row) (hl:row.length=s.length) (hz:∀j,i≤j→ae row j 0=0)
  (hv:ac row - 4294967296^i*br=ac (s.take i) - ac (t.take i)) (hi:i<s.length) (hd:d=ae s i 0 - br - ae t i 0) (h0:0≤v∧v<4294967296) (hc:v - 4294967296*c=d):
  ag (row.set i v)∧(row.set i v).length=s.length∧(∀j,i+1≤j→ae (row.set i v) j 0=0)∧ac (row.set i v) - 4294967296^(i+1)*c=ac (s.take (i+1)) - ac (t.take (i+1)):=by
 refine⟨jb hr h0.1 h0.2,by simp[hl],fun j hj=>by rw[jU (by omega)];exact hz j (by omega),?_⟩
 rw[nX (by omega),eJ,eJ,hz i (Nat.le_refl _),Int.pow_succ,Int.sub_zero]
 have h1:(4294967296:Int)^i*(v - 4294967296*c)=4294967296^i*(ae s i 0 - br - ae t i 0):=by rw[hc,hd]
 simp only[Int.mul_sub] at h1
 rw[←Int.mul_assoc] at h1
 omega
theorem h155:Holds Tryz.prog DD:=by
 refine con (L:=[lQ,rV]) DD wz Xj (bu.none _) (by simpa using⟨h152,h132⟩) (by kernel_rfl) (by kernel_rfl) (fun _=>rfl) ?_
 rintro⟨a,b⟩ ⟨⟨ha,hb⟩,hla,hlb⟩
 simp only at ha hb hla hlb
 refine bh (let z0:=(aJ a).length;let z1:=decide (dS (ac (aJ a)) (ac (aJ b))<(0:Int));let z2:=ai.i .u32;let z3:=SV.aD [SV.row z2 (aM (ac a - ac b)),SV.sb (decide (ac b≤ac a))];let z4:=(↑(aJ a).length:Int);let z5:=List.replicate z4.toNat (0:Int);let z6:=(↑z0:Int);let z7:=SV.si .i64 z6;let z8:=af.row z2 z5 161 true;let z9:=(↑(aJ b).length:Int);a.length≤1000000000000∧b.length≤1000000000000∧((ag (aJ a)∧ag (aJ b))∧z0≤1000000000000∧(aJ b).length≤1000000000000)∧(z1=true→(SV.aD [SV.row (ai.i .i64) [],SV.bl false]).same z3)∧(z1=false→(0:Int)≤z4∧z4≤z4∧z4*(4:Int)≤(140737488355328:Int)∧z4≤(1000000000000:Int)∧((((SV.row z2 (aJ a)).same (SV.row z2 (aJ a))∧(SV.row z2 (aJ b)).same (SV.row z2 (aJ b))∧(SV.ow 0 z4.toNat 1).same (SV.ow 0 z5.length 1)∧(SV.il .u64 0).same (SV.si .u64 0)∧(SV.si .i64 z4).same z7∧(SV.il .i64 0).same (SV.si .i64 0)∧True)∧z8.same z8∧True)∧((0:Int)≤(0:Int)∧(0:Int)≤z6)∧((0:Int)≤(0:Int)∧(0:Int)≤(1:Int))∧ag z5∧z5.length=z0∧(∀(j:Nat),0≤j→ae z5 j (0:Int)=(0:Int))∧ac z5 - (0:Int)=(0:Int))∧∀(x:Int×Int×List Int),let ak:=x.snd.snd.length;let al:=x.fst.toNat;let z12:=x.snd.snd.length;let au:=x.fst+(1:Int);let ar:=SV.ow 0 ak 1;let ax:=(ae (aJ a) al (0:Int) % (18446744073709551616:Int) - x.snd.fst) % (18446744073709551616:Int);let ay:=(ax - ae (aJ b) al (0:Int) % (18446744073709551616:Int)) % (18446744073709551616:Int);let z17:=x.snd.snd.set al (ay % (4294967296:Int));let aG:=ay / (9223372036854775808:Int);let aH:=SV.si .u64 aG;let z20:=SV.si .i64 au;let z21:=af.row z2 z17 161 true;let z22:=au.toNat;let z23:=(4294967296:Int)^z22;let z24:=ac (List.take z22 (aJ a)) - ac (List.take z22 (aJ b));let z25:=x.snd.snd.set al (ax % (4294967296:Int));let z26:=ax / (9223372036854775808:Int);let z27:=SV.si .u64 z26;let z28:=af.row z2 z25 161 true;((0:Int)≤x.fst∧x.fst≤z6)∧((0:Int)≤x.snd.fst∧x.snd.fst≤(1:Int))∧ag x.snd.snd∧ak=z0∧(∀(j:Nat),al≤j→ae x.snd.snd j (0:Int)=(0:Int))∧ac x.snd.snd - (4294967296:Int)^al*x.snd.fst=ac (List.take al (aJ a)) - ac (List.take al (aJ b))→(decide (x.fst<z6)=true→(0:Int)≤x.fst∧x.fst<z4∧al<(aJ a).length∧(decide (x.fst<z9)=true→(0:Int)≤x.fst∧x.fst<z9∧al<(aJ b).length∧(0:Int)≤(63:Int)∧(63:Int)≤(64:Int)∧ak=z12∧(0:Int)≤x.fst∧x.fst<(↑z12:Int)∧ak=z12∧al<z12∧aC .i64 au∧(((SV.row z2 (aJ a)).same (SV.row z2 (aJ a))∧(SV.row z2 (aJ b)).same (SV.row z2 (aJ b))∧ar.same (SV.ow 0 z17.length 1)∧aH.same aH∧z7.same z7∧z20.same z20∧True)∧z21.same z21∧True)∧(((0:Int)≤au∧au≤z6)∧((0:Int)≤aG∧aG≤(1:Int))∧ag z17∧z17.length=z0∧(∀(j:Nat),z22≤j→ae z17 j (0:Int)=(0:Int))∧ac z17 - z23*aG=z24)∧(z6 - au).toNat<(z6 - x.fst).toNat)∧(decide (x.fst<z9)=false→(0:Int)≤(63:Int)∧(63:Int)≤(64:Int)∧ak=z12∧(0:Int)≤x.fst∧x.fst<(↑z12:Int)∧ak=z12∧al<z12∧aC .i64 au∧(((SV.row z2 (aJ a)).same (SV.row z2 (aJ a))∧(SV.row z2 (aJ b)).same (SV.row z2 (aJ b))∧ar.same (SV.ow 0 z25.length 1)∧z27.same z27∧z7.same z7∧z20.same z20∧True)∧z28.same z28∧True)∧(((0:Int)≤au∧au≤z6)∧((0:Int)≤z26∧z26≤(1:Int))∧ag z25∧z25.length=z0∧(∀(j:Nat),z22≤j→ae z25 j (0:Int)=(0:Int))∧ac z25 - z23*z26=z24)∧(z6 - au).toNat<(z6 - x.fst).toNat))∧(decide (x.fst<z6)=false→ak=z12∧ak≤1000000000000∧(SV.aD [SV.row z2 (aJ x.snd.snd),SV.bl true]).same z3))) (by kernel_rfl) ?_
 simp only[vcs]
 obtain⟨va,na⟩:=@lS a
 obtain⟨vb,nb⟩:=@lS b
 have da:=mQ ha
 have db:=mQ hb
 have la:=@nV a
 have lb:=@nV b
 have pa:=bQ da
 have pb:=bQ db
 rw[←va,←vb]
 generalize aJ a=s at*
 generalize aJ b=t at*
 have hr0:∀n j,ae (List.replicate n (0:Int)) j 0=0:=fun n j=>by
  unfold ae
  rw[List.getElem?_replicate]
  split<;>rfl
 have hd0:∀n,ag (List.replicate n 0):=fun n d hd=>by
  have:=List.eq_of_mem_replicate hd
  omega
 have hv0:∀n,ac (List.replicate n 0)=0:=fun n=>by
  induction n with
  |zero=>rfl
  |succ n ih=>simp only[List.replicate_succ,ac,ih];omega
 refine⟨by omega,by omega,⟨⟨da,db⟩,by omega,by omega⟩,fun hlt=>?_,fun hge=>⟨by omega,by omega,by omega,by omega,?_,?_⟩⟩
 ·have hlt2:ac s<ac t:=by unfold dS at hlt;split at hlt<;>(try split at hlt)<;>omega
  refine⟨DC (zn (by omega)),?_⟩
  rw[eq_comm,decide_eq_false_iff_not]
  omega
 ·repeat' refine And.intro ?_ ?_
  all_goals first|omega|exact gK (by simp)|exact hd0 _|exact fun j _=>hr0 _ j|(simp;done)|(rw[hv0];rfl)
 have uf:ac t≤ac s:=by unfold dS at hge;split at hge<;>(try split at hge)<;>omega
 rintro⟨i,br,row⟩ ⟨⟨i0,i1⟩,⟨b0,b1⟩,hr,hl,hz,hv⟩
 simp only at i0 i1 b0 b1 hr hl hz hv ⊢
 refine⟨fun ig=>?_,fun ja=>?_⟩
 ·have d1:=bK da i.toNat
  have d2:=bK db i.toNat
  have e:(i+1).toNat=i.toNat+1:=by omega
  refine⟨i0,ig,by omega,fun ht=>?_,fun ht=>?_⟩
  ·generalize hq:((ae s i.toNat 0 % 18446744073709551616 - br) % 18446744073709551616 - ae t i.toNat 0 % 18446744073709551616) % 18446744073709551616=q
   obtain⟨k1,k2,k3,k4⟩:=JX (v:=q % 4294967296) (c:=q / 9223372036854775808) da db hr hl hz hv (by omega) rfl (by omega) (by omega)
   rw[e]
   repeat' refine And.intro ?_ ?_
   all_goals first|omega|exact gK (by simp)|exact k1|exact k2|exact k3|exact k4
  ·have hz2:=pU (a:=t) (i:=i.toNat) (by omega)
   generalize hq:(ae s i.toNat 0 % 18446744073709551616 - br) % 18446744073709551616=q
   obtain⟨k1,k2,k3,k4⟩:=JX (v:=q % 4294967296) (c:=q / 9223372036854775808) da db hr hl hz hv (by omega) rfl (by omega) (by omega)
   rw[e]
   repeat' refine And.intro ?_ ?_
   all_goals first|omega|exact gK (by simp)|exact k1|exact k2|exact k3|exact k4
 ·have hi:i.toNat=s.length:=by omega
  have hlen:t.length≤s.length:=by
   by_cases h:s.length<t.length
   ·have:=rU da db nb h
    omega
   ·omega
  rw[hi,List.take_length,List.take_of_length_le hlen] at hv
  have hbd:=eI hr
  have hp:=pow_pos s.length
  rw[hl] at hbd
  have hb0:br=0:=by
   by_cases h:br=0
   ·exact h
   ·have:br=1:=by omega
    subst this
    omega
  rw[hb0,Int.mul_zero,Int.sub_zero] at hv
  refine⟨by omega,?_,?_⟩
  ·rw[lg hr,hv]
  ·rw[eq_comm,decide_eq_true_eq]
   exact uf
theorem JY {n j:Nat}:ae (List.replicate n (0:Int)) j 0=0:=by
 unfold ae
 rw[List.getElem?_replicate]
 split<;>rfl
theorem rZ {n:Nat}:ag (List.replicate n 0):=fun d hd=>by
 have:=List.eq_of_mem_replicate hd
 omega
theorem pW:∀{n:Nat},ac (List.replicate n 0)=0
 |0=>rfl
 |n+1=>by simp only[List.replicate_succ,ac,@pW n];omega
theorem Xk {o b:List Int} {x:Int} {i k:Nat}:ec o b x i (k+1)=((ec o b x i k).1.set (i+k) ((x*ae b k 0+ae (ec o b x i k).1 (i+k) 0+(ec o b x i k).2) % 4294967296),(x*ae b k 0+ae (ec o b x i k).1 (i+k) 0+(ec o b x i k).2) / 4294967296):=rfl
def r7:bf:=⟨108,List Int×List Int,.cons (bR (.i .u32)) (.one (bR (.i .u32))),fun a=>(ag a.1∧ag a.2)∧a.1.length≤100000000000∧a.2.length≤100000000000,
 fun a=> .row (.i .u32) (aM (ac a.1*ac a.2))⟩
def stM (a:List Int×List Int) (row:List Int):a8:=[.row (.i .u32) row 161 true]
def Xl (a:List Int×List Int):Nat→bz
 |3=> .inv (Int×List Int) (fun x=>⟨[(0,.row (.i .u32) a.1),(1,.row (.i .u32) a.2),(5,.ow 0 x.2.length 1),(17,.si .i64 a.1.length),(18,.si .i64 x.1)],stM a x.2⟩)
  (fun s=>(iS s 18,oS (.i .u32) s 0))
  (fun x=>(0≤x.1∧x.1≤a.1.length)∧ag x.2∧x.2.length=a.1.length+a.2.length∧ac x.2=ac (a.1.take x.1.toNat)*ac a.2) (fun x=>(a.1.length - x.1).toNat)
  fun x=>fun
   |7=> .inv (Int×Int×List Int) (fun y=>⟨[(0,.row (.i .u32) a.1),(1,.row (.i .u32) a.2),(5,.ow 0 y.2.2.length 1),(6,.si .i64 x.1),(7,.si .u64 y.2.1),(17,.si .i64 a.1.length),(18,.si .i64 x.1),(22,.si .i64 a.2.length),(23,.si .i64 y.1)],stM a y.2.2⟩)
    (fun s=>(iS s 23,iS s 7,oS (.i .u32) s 0))
    (fun y=>(0≤y.1∧y.1≤a.2.length)∧y.2.2=(ec x.2 a.2 (ae a.1 x.1.toNat 0) x.1.toNat y.1.toNat).1∧y.2.1=(ec x.2 a.2 (ae a.1 x.1.toNat 0) x.1.toNat y.1.toNat).2) (fun y=>(a.2.length - y.1).toNat) fun _ _=> .look
   |_=> .look
 |_=> .look
theorem h153:Holds Tryz.prog r7:=by
 refine con (L:=[lQ]) r7 wx Xl (bu.none _) (by simpa using h152) (by kernel_rfl) (by kernel_rfl) (fun _=>rfl) ?_
 rintro⟨a,b⟩ ⟨⟨ha,hb⟩,hla,hlb⟩
 simp only at ha hb hla hlb
 refine bh (let z0:=(↑a.length:Int);let z1:=(↑b.length:Int);let z2:=z0+z1;let z3:=ai.i .u32;let z4:=List.replicate z2.toNat (0:Int);let z5:=(↑a.length:Int);let z6:=SV.si .i64 z5;let z7:=af.row z3 z4 161 true;let z8:=a.length+b.length;let z9:=(↑b.length:Int);let ak:=SV.si .i64 z9;aC .i64 z2∧(0:Int)≤z2∧z2≤z2∧z2*(4:Int)≤(140737488355328:Int)∧z2≤(1000000000000:Int)∧((((SV.row z3 a).same (SV.row z3 a)∧(SV.row z3 b).same (SV.row z3 b)∧(SV.ow 0 z2.toNat 1).same (SV.ow 0 z4.length 1)∧(SV.si .i64 z0).same z6∧(SV.il .i64 0).same (SV.si .i64 0)∧True)∧z7.same z7∧True)∧((0:Int)≤(0:Int)∧(0:Int)≤z5)∧ag z4∧z4.length=z8∧ac z4=ac []*ac b)∧∀(x:Int×List Int),let al:=x.snd.length;let z12:=x.fst.toNat;let au:=SV.ow 0 al 1;let ar:=SV.si .i64 x.fst;let ax:=af.row z3 x.snd 161 true;let ay:=ae a z12 (0:Int);let z17:=ec x.snd b ay z12 0;let aG:=x.fst+(1:Int);let aH:=SV.si .i64 aG;((0:Int)≤x.fst∧x.fst≤z5)∧ag x.snd∧al=z8∧ac x.snd=ac (List.take z12 a)*ac b→(decide (x.fst<z5)=true→((((SV.row z3 a).same (SV.row z3 a)∧(SV.row z3 b).same (SV.row z3 b)∧au.same au∧ar.same ar∧(SV.il .u64 0).same (SV.si .u64 0)∧z6.same z6∧ar.same ar∧(SV.si .i64 z1).same ak∧(SV.il .i64 0).same (SV.si .i64 0)∧True)∧ax.same ax∧True)∧((0:Int)≤(0:Int)∧(0:Int)≤z9)∧x.snd=z17.fst∧(0:Int)=z17.snd)∧∀(x_1:Int×Int×List Int),let z20:=ec x.snd b ay z12 x_1.fst.toNat;let z21:=x.fst+x_1.fst;let z22:=x_1.snd.snd.length;let z23:=x_1.fst+(1:Int);let z24:=SV.ow 0 x_1.snd.snd.length 1;let z25:=((ay % (18446744073709551616:Int)*(ae b x_1.fst.toNat (0:Int) % (18446744073709551616:Int)) % (18446744073709551616:Int)+ae x_1.snd.snd z21.toNat (0:Int) % (18446744073709551616:Int)) % (18446744073709551616:Int)+x_1.snd.fst) % (18446744073709551616:Int);let z26:=x_1.snd.snd.set z21.toNat (z25 % (4294967296:Int));let z27:=z25 / (4294967296:Int);let z28:=SV.si .u64 z27;let z29:=SV.si .i64 z23;let z30:=af.row z3 z26 161 true;let z31:=ec x.snd b ay z12 z23.toNat;let z32:=x.fst+z1;let z33:=x_1.snd.snd.set z32.toNat (x_1.snd.fst % (4294967296:Int));let z34:=af.row z3 z33 161 true;((0:Int)≤x_1.fst∧x_1.fst≤z9)∧x_1.snd.snd=z20.fst∧x_1.snd.fst=z20.snd→(decide (x_1.fst<z9)=true→(0:Int)≤x.fst∧x.fst<z0∧z12<a.length∧(0:Int)≤x_1.fst∧x_1.fst<z1∧x_1.fst.toNat<b.length∧aC .i64 z21∧x_1.snd.snd.length=z22∧(0:Int)≤z21∧z21<(↑z22:Int)∧x_1.snd.snd.length=z22∧z21.toNat<z22∧aC .i64 z21∧(0:Int)≤(32:Int)∧(32:Int)≤(64:Int)∧x_1.snd.snd.length=z22∧(0:Int)≤z21∧z21<(↑z22:Int)∧x_1.snd.snd.length=z22∧z21.toNat<z22∧aC .i64 z23∧(((SV.row z3 a).same (SV.row z3 a)∧(SV.row z3 b).same (SV.row z3 b)∧z24.same (SV.ow 0 z26.length 1)∧ar.same ar∧z28.same z28∧z6.same z6∧ar.same ar∧ak.same ak∧z29.same z29∧True)∧z30.same z30∧True)∧(((0:Int)≤z23∧z23≤z9)∧z26=z31.fst∧z27=z31.snd)∧(z9 - z23).toNat<(z9 - x_1.fst).toNat)∧(decide (x_1.fst<z9)=false→aC .i64 z32∧x_1.snd.snd.length=z22∧(0:Int)≤z32∧z32<(↑z22:Int)∧x_1.snd.snd.length=z22∧z32.toNat<z22∧aC .i64 aG∧(((SV.row z3 a).same (SV.row z3 a)∧(SV.row z3 b).same (SV.row z3 b)∧z24.same (SV.ow 0 z33.length 1)∧z6.same z6∧aH.same aH∧True)∧z34.same z34∧True)∧(((0:Int)≤aG∧aG≤z5)∧ag z33∧z33.length=z8∧ac z33=ac (List.take aG.toNat a)*ac b)∧(z5 - aG).toNat<(z5 - x.fst).toNat))∧(decide (x.fst<z5)=false→al=x.snd.length∧al≤1000000000000∧(SV.row z3 (aJ x.snd)).same (SV.row z3 (aM (ac a*ac b))))) (by kernel_rfl) ?_
 simp only[vcs]
 refine⟨by omega,by omega,by omega,by omega,by omega,?_,?_⟩
 ·repeat' refine And.intro ?_ ?_
  all_goals first|omega|exact gK (by simp)|exact rZ|(simp;omega)|(rw[pW];simp[ac])
 rintro⟨i,row⟩ ⟨⟨i0,i1⟩,hr,hl,hv⟩
 simp only at i0 i1 hr hl hv ⊢
 refine⟨fun ig=>⟨⟨⟨by omega,by omega⟩,rfl,rfl⟩,?_⟩,fun ja=>?_⟩
 ·rintro⟨k,c,ro⟩ ⟨⟨k0,k1⟩,e1,e2⟩
  simp only at k0 k1 e1 e2 ⊢
  have x1:=bK ha i.toNat
  obtain⟨m1,m2,⟨m3,m4⟩,m5,m6⟩:=@JV row b (ae a i.toNat 0) i.toNat hr hb x1.1 x1.2 k.toNat (by omega)
  have hp:=@Xk row b (ae a i.toNat 0) i.toNat k.toNat
  generalize ec row b (ae a i.toNat 0) i.toNat k.toNat=M at*
  obtain⟨p,q⟩:=M
  simp only at e1 e2 m1 m2 m3 m4 m5 m6 hp
  subst e1 e2
  have hik:(i+k).toNat=i.toNat+k.toNat:=by omega
  have hk1:(k+1).toNat=k.toNat+1:=by omega
  have hi1:(i+1).toNat=i.toNat+1:=by omega
  refine⟨fun klt=>?_,fun kge=>?_⟩
  ·have x2:=bK hb k.toNat
   have x3:=bK m1 (i.toNat+k.toNat)
   have hxb:0≤ae a i.toNat 0*ae b k.toNat 0:=Int.mul_nonneg x1.1 x2.1
   have Xh:ae a i.toNat 0*ae b k.toNat 0≤4294967295*4294967295:=Int.mul_le_mul (by omega) (by omega) x2.1 (by omega)
   rw[hik,hk1,hp]
   have hq:(((ae a i.toNat 0 % 18446744073709551616*(ae b k.toNat 0 % 18446744073709551616) % 18446744073709551616+ae ro (i.toNat+k.toNat) 0 % 18446744073709551616) % 18446744073709551616+c) % 18446744073709551616)=ae a i.toNat 0*ae b k.toNat 0+ae ro (i.toNat+k.toNat) 0+c:=by
    rw[Int.emod_eq_of_lt (a:=ae a i.toNat 0) (by omega) (by omega),Int.emod_eq_of_lt (a:=ae b k.toNat 0) (by omega) (by omega)]
    omega
   rw[hq]
   repeat' refine And.intro ?_ ?_
   all_goals first|omega|exact gK (by simp)|rfl
  ·have hkl:k.toNat=b.length:=by omega
   rw[show(i+(b.length:Int)).toNat=i.toNat+b.length by omega]
   rw[hkl,List.take_length] at m6
   rw[hkl] at m5
   have hz:ae ro (i.toNat+b.length) 0=0:=by
    rw[m5 _ (Nat.le_refl _)]
    refine uj hr (i:=i.toNat+b.length) ?_ (Nat.le_refl _)
    rw[hv,Int.pow_add]
    have t1:=eI (fJ ha i.toNat)
    rw[List.length_take,Nat.min_eq_left (by omega)] at t1
    have t2:=eI hb
    have t3:=bQ (fJ ha i.toNat)
    have t4:=bQ hb
    exact Int.lt_of_le_of_lt (Int.mul_le_mul_of_nonneg_left (Int.le_of_lt t2) t3) (Int.mul_lt_mul_of_pos_right t1 (pow_pos _))
   have hc:c % 4294967296=c:=by omega
   rw[hc,hi1]
   have hfin:ac (ro.set (i.toNat+b.length) c)=ac (a.take (i.toNat+1))*ac b:=by
    rw[nX (by omega),hz,Int.sub_zero,m6,hv,eJ,Int.add_mul,Int.mul_assoc]
   repeat' refine And.intro ?_ ?_
   all_goals first|omega|exact gK (by simp)|exact jb m1 m3 m4|exact hfin|(rw[List.length_set];omega)
 ·have hi:i.toNat=a.length:=by omega
  rw[hi,List.take_length] at hv
  refine⟨by omega,?_⟩
  rw[lg hr,hv]
theorem JZ {x m:Int} {k:Nat} (x0:0≤x) (x1:x<2^k) (m0:0≤m) (hy:m*2^k<4294967296) (hx:x<4294967296):dZ.ju .u32 x (m*2^k)=x+m*2^k:=by
 obtain⟨a,rfl⟩:=Int.eq_ofNat_of_zero_le x0
 obtain⟨b,rfl⟩:=Int.eq_ofNat_of_zero_le m0
 have e:((b:Int)*2^k)=((2^k*b:Nat):Int):=by rw[Nat.mul_comm];push_cast;rfl
 have x1':a<2^k:=by exact_mod_cast x1
 rw[e] at hy ⊢
 generalize hc:2^k*b=c at*
 have hy':c<4294967296:=by omega
 have hx':a<4294967296:=by omega
 have h1:(BitVec.ofInt 32 ((a:Nat):Int)).toNat=a:=by rw[BitVec.toNat_ofInt];omega
 have h2:(BitVec.ofInt 32 ((c:Nat):Int)).toNat=c:=by rw[BitVec.toNat_ofInt];omega
 have hor:a |||c=a+c:=by
  rw[Nat.or_comm,←hc,←Nat.two_pow_add_eq_or_of_lt x1']
  omega
 have hlt:a+c<4294967296:=by
  rw[←hor]
  exact Nat.or_lt_two_pow (n:=32) hx' hy'
 have h3:(BitVec.ofInt 32 ((a:Nat):Int) |||BitVec.ofInt 32 ((c:Nat):Int)).toNat=a+c:=by
  rw[BitVec.toNat_or,h1,h2,hor]
 show cO .u32 ((BitVec.ofInt 32 ((a:Nat):Int) |||BitVec.ofInt 32 ((c:Nat):Int)).toNat:Nat)=_
 rw[h3,nl]
 simp only[IntKind.wrap,IntKind.bits,IntKind.signed]
 simp
 omega
theorem DF:∀{l:List Int} {i:Nat},ag l→4294967296^i*ae l i 0≤ac l
 |[],i,_=>by simp[ae,ac]
 |d::l,0,h=>by
  obtain⟨h1,h2⟩:=ea.1 h
  have:=bQ h2
  simp[ae,ac]
  omega
 |d::l,i+1,h=>by
  obtain⟨h1,h2⟩:=ea.1 h
  have:=@DF l i h2
  have e:ae (d::l) (i+1) 0=ae l i 0:=by simp[ae]
  rw[e,Int.pow_succ,Int.mul_comm (4294967296^i),Int.mul_assoc]
  simp only[ac]
  omega
theorem J0 {a row:List Int} {i k:Nat} (ha:ag a) (hr:ag row) (hl:row.length=a.length+1) (hi:i<a.length) (hk:k≤31) (hv:ac row=ac (a.take i)*2^k):
  ag ((row.set i (dZ.ju .u32 (ae row i 0) (ae a i 0 % 18446744073709551616*2^k % 18446744073709551616 % 4294967296))).set (i+1) (ae a i 0 % 18446744073709551616*2^k % 18446744073709551616 / 4294967296 % 4294967296))∧
  ac ((row.set i (dZ.ju .u32 (ae row i 0) (ae a i 0 % 18446744073709551616*2^k % 18446744073709551616 % 4294967296))).set (i+1) (ae a i 0 % 18446744073709551616*2^k % 18446744073709551616 / 4294967296 % 4294967296))=ac (a.take (i+1))*2^k:=by
 have x:=bK ha i
 have r:=bK hr i
 have hkp:(0:Int)<2^k:=Int.pow_pos (by decide)
 have hk2:(2:Int)^k≤2147483648:=by
  have h1:(2:Nat)^k≤2^31:=Nat.pow_le_pow_right (by decide) hk
  have h2:(2:Nat)^31=2147483648:=by decide
  rw[h2] at h1
  have h3:(2:Int)^k=((2^k:Nat):Int):=by push_cast;rfl
  rw[h3]
  omega
 have hB:(4294967296:Int)=2^(32 - k)*2^k:=by
  rw[←Int.pow_add,show 32 - k+k=32 by omega]
  decide
 have hq:(0:Int)<2^(32 - k):=Int.pow_pos (by decide)
 have t0:0≤ae a i 0*2^k:=Int.mul_nonneg x.1 (Int.le_of_lt hkp)
 have t1:ae a i 0*2^k<4294967296*2^k:=Int.mul_lt_mul_of_pos_right x.2 hkp
 have e1:ae a i 0 % 18446744073709551616*2^k % 18446744073709551616=ae a i 0*2^k:=by
  rw[Int.emod_eq_of_lt (a:=ae a i 0) (by omega) (by omega),Int.emod_eq_of_lt t0 (by omega)]
 have e2:ae a i 0*2^k % 4294967296=(ae a i 0 % 2^(32 - k))*2^k:=by
  conv=>lhs;rw[hB]
  rw[Int.mul_comm (ae a i 0),Int.mul_comm (2^(32 - k)),Int.mul_emod_mul_of_pos _ _ hkp,Int.mul_comm]
 have m0:=Int.emod_nonneg (ae a i 0) (show(2:Int)^(32 - k)≠0 by omega)
 have m1:=Int.emod_lt_of_pos (ae a i 0) hq
 have hP:=pow_pos i
 have J1:ac row<4294967296^i*2^k:=by
  rw[hv]
  have:=eI (fJ ha i)
  rw[List.length_take,Nat.min_eq_left (by omega)] at this
  exact Int.mul_lt_mul_of_pos_right this hkp
 have Xm:ae row i 0<2^k:=Int.lt_of_mul_lt_mul_left (Int.lt_of_le_of_lt (DF hr) J1) (Int.le_of_lt hP)
 have hrz:ae row (i+1) 0=0:=by
  refine uj hr (i:=i+1) ?_ (Nat.le_refl _)
  rw[Int.pow_succ]
  exact Int.lt_of_lt_of_le J1 (Int.mul_le_mul_of_nonneg_left (by omega) (Int.le_of_lt hP))
 have hml:(ae a i 0 % 2^(32 - k))*2^k+2^k≤4294967296:=by
  have:(ae a i 0 % 2^(32 - k)+1)*2^k≤2^(32 - k)*2^k:=Int.mul_le_mul_of_nonneg_right (by omega) (Int.le_of_lt hkp)
  rw[←hB,Int.add_mul,Int.one_mul] at this
  exact this
 have hmn:0≤(ae a i 0 % 2^(32 - k))*2^k:=Int.mul_nonneg m0 (Int.le_of_lt hkp)
 have hor:=JZ (k:=k) r.1 Xm m0 (by omega) r.2
 rw[e1,e2,hor]
 generalize ht:ae a i 0*2^k=t at*
 have hmt:(ae a i 0 % 2^(32 - k))*2^k=t % 4294967296:=e2.symm
 rw[hmt] at hml hmn ⊢
 refine⟨jb (jb hr (by omega) (by omega)) (by omega) (by omega),?_⟩
 rw[nX (by simp;omega),nX (by omega),jU (by omega),hrz,eJ,Int.add_mul,Int.mul_assoc,ht,hv,Int.pow_succ]
 have e3:t / 4294967296 % 4294967296=t / 4294967296:=by omega
 rw[e3]
 have e4:(4294967296:Int)^i*4294967296*(t / 4294967296 - 0)=4294967296^i*(t - t % 4294967296):=by
  rw[Int.mul_assoc];congr 1;omega
 have e5:ae row i 0+t % 4294967296 - ae row i 0=t % 4294967296:=by omega
 rw[e4,e5,Int.mul_sub]
 omega
def shl (a:List Int) (k:Nat):List Int:=eb (a.length+1) (ac a*2^k)
abbrev J2:=List Int×Int
def uk (a:J2):Prop:=ag a.1∧a.1.length≤100000000000∧0≤a.2∧a.2≤31
def DG:bf:=⟨167,List Int×Int,.cons (bR (.i .u32)) (.one (cT .u64)),uk,fun a=> .row (.i .u32) (shl a.1 a.2.toNat)⟩
def DI:cK where
 f:=167
 α:=List Int×Int
 put a:=[.row (.i .u32) a.1,.si .u64 a.2]
 st _:=[]
 dec v o:=match v,o with
  |[v,m],[]=>match jM (.i .u32) v,m.int .u64 with
   |some p,some m=>some (p,m)
   |_,_=>none
  |_,_=>none
 ok v o a h:=by
  split at h
  ·split at h
   ·rename_i h1 h2
    simp only[Option.some.injEq] at h;subst h
    exact⟨by simp only[gL,nS h1,jN h2];rfl,rfl⟩
   ·cases h
  ·cases h
 inj a b h _:=by
  simp only[gL,List.cons.injEq,and_true] at h
  have h2:=h.2
  simp only[SV.g,AV.sc.injEq,Value.int.injEq,true_and] at h2
  exact Prod.ext ((bR (.i .u32)).inj _ _ h.1) h2
 dom:=uk
 res a:=.ow 0 (shl a.1 a.2.toNat).length 1
 out a:=[.row (.i .u32) (shl a.1 a.2.toNat) 161 false]
def J3 (a:J2):Nat→bz
 |3=> .inv (Int×List Int) (fun x=>⟨[(0,.row (.i .u32) a.1),(1,.si .u64 a.2),(5,.ow 0 x.2.length 1),(13,.si .i64 a.1.length),(14,.si .i64 x.1)],[.row (.i .u32) x.2 161 false]⟩)
  (fun s=>(iS s 14,oS (.i .u32) s 0))
  (fun x=>(0≤x.1∧x.1≤a.1.length)∧ag x.2∧x.2.length=a.1.length+1∧ac x.2=ac (a.1.take x.1.toNat)*2^a.2.toNat) (fun x=>(a.1.length - x.1).toNat) fun _ _=> .look
 |_=> .look
theorem h168:eh Tryz.prog DI:=by
 refine C0 (L:=[]) (W:=[]) DI sT (fun _=>none) J3 (by simp) (by simp) (by kernel_rfl) (fun _=>rfl) (fun _=>rfl) (by kernel_rfl) ?_
 rintro⟨a,s⟩ ⟨ha,hla,s0,s1⟩
 simp only at ha hla s0 s1
 refine bh (let z0:=(↑a.length:Int);let z1:=z0+(1:Int);let z2:=ai.i .u32;let z3:=(0:Int)::List.replicate a.length (0:Int);let z4:=(↑a.length:Int);let z5:=SV.si .i64 z4;let z6:=af.row z2 z3 161 false;let z7:=a.length+1;let z8:=(2:Int)^s.toNat;aC .i64 z1∧(0:Int)≤z1∧z1≤z1∧z1*(4:Int)≤(140737488355328:Int)∧z1≤(1000000000000:Int)∧((((SV.row z2 a).same (SV.row z2 a)∧(SV.si .u64 s).same (SV.si .u64 s)∧(SV.ow 0 z1.toNat 1).same (SV.ow 0 z3.length 1)∧(SV.si .i64 z0).same z5∧(SV.il .i64 0).same (SV.si .i64 0)∧True)∧z6.same z6∧True)∧((0:Int)≤(0:Int)∧(0:Int)≤z4)∧ag z3∧z3.length=z7∧ac z3=ac []*z8)∧∀(x:Int×List Int),let z9:=x.snd.length;let ak:=x.fst.toNat;let al:=x.snd.length;let z12:=x.fst+(1:Int);let au:=ae a ak (0:Int) % (18446744073709551616:Int)*z8 % (18446744073709551616:Int);let ar:=x.snd.set ak (dZ.ju .u32 (ae x.snd ak (0:Int)) (au % (4294967296:Int)));let ax:=SV.ow 0 z9 1;let ay:=ar.set z12.toNat (au / (4294967296:Int) % (4294967296:Int));let z17:=SV.si .i64 z12;let aG:=af.row z2 ay 161 false;((0:Int)≤x.fst∧x.fst≤z4)∧ag x.snd∧z9=z7∧ac x.snd=ac (List.take ak a)*z8→(decide (x.fst<z4)=true→(0:Int)≤x.fst∧x.fst<z0∧ak<a.length∧(0:Int)≤s∧s≤(64:Int)∧z9=al∧(0:Int)≤x.fst∧x.fst<(↑al:Int)∧z9=al∧ak<al∧z9=al∧(0:Int)≤x.fst∧x.fst<(↑al:Int)∧z9=al∧ak<al∧aC .i64 z12∧(0:Int)≤(32:Int)∧(32:Int)≤(64:Int)∧z9=ar.length∧(0:Int)≤z12∧z12<(↑ar.length:Int)∧z9=ar.length∧z12.toNat<ar.length∧aC .i64 z12∧(((SV.row z2 a).same (SV.row z2 a)∧(SV.si .u64 s).same (SV.si .u64 s)∧ax.same (SV.ow 0 ay.length 1)∧z5.same z5∧z17.same z17∧True)∧aG.same aG∧True)∧(((0:Int)≤z12∧z12≤z4)∧ag ay∧ay.length=z7∧ac ay=ac (List.take z12.toNat a)*z8)∧(z4 - z12).toNat<(z4 - x.fst).toNat)∧(decide (x.fst<z4)=false→ax.same (SV.ow 0 (shl a s.toNat).length 1)∧(af.row z2 x.snd 161 false).same (af.row z2 (shl a s.toNat) 161 false)∧True)) (by kernel_rfl) ?_
 simp only[vcs]
 refine⟨by omega,by omega,by omega,by omega,by omega,?_,?_⟩
 ·repeat' refine And.intro ?_ ?_
  all_goals first|omega|exact gK (by simp)|exact ea.2 ⟨by omega,rZ⟩|(simp;done)|(simp only[ac,pW];omega)
 rintro⟨i,row⟩ ⟨⟨i0,i1⟩,hr,hl,hv⟩
 simp only at i0 i1 hr hl hv ⊢
 refine⟨fun ig=>?_,fun ja=>?_⟩
 ·obtain⟨k1,k2⟩:=J0 ha hr hl (show i.toNat<a.length by omega) (show s.toNat≤31 by omega) hv
  have e:(i+1).toNat=i.toNat+1:=by omega
  rw[e]
  repeat' refine And.intro ?_ ?_
  all_goals first|omega|exact gK (by simp)|(simp only[List.length_set];done)|(simp only[List.length_set];omega)|exact k1|exact k2
 ·have hi:i.toNat=a.length:=by omega
  rw[hi,List.take_length] at hv
  have hrow:row=shl a s.toNat:=Dy hr hl hv
  rw[hrow]
  exact⟨rfl,rfl⟩
theorem h168p:Holds Tryz.prog DG:=by
 refine con (L:=[]) DG sT J3 (bu.none _) (by simp) (by kernel_rfl) (by kernel_rfl) (fun _=>rfl) ?_
 rintro⟨a,s⟩ ⟨ha,hla,s0,s1⟩
 simp only at ha hla s0 s1
 refine bh (let z0:=(↑a.length:Int);let z1:=z0+(1:Int);let z2:=ai.i .u32;let z3:=(0:Int)::List.replicate a.length (0:Int);let z4:=(↑a.length:Int);let z5:=SV.si .i64 z4;let z6:=af.row z2 z3 161 false;let z7:=a.length+1;let z8:=(2:Int)^s.toNat;aC .i64 z1∧(0:Int)≤z1∧z1≤z1∧z1*(4:Int)≤(140737488355328:Int)∧z1≤(1000000000000:Int)∧((((SV.row z2 a).same (SV.row z2 a)∧(SV.si .u64 s).same (SV.si .u64 s)∧(SV.ow 0 z1.toNat 1).same (SV.ow 0 z3.length 1)∧(SV.si .i64 z0).same z5∧(SV.il .i64 0).same (SV.si .i64 0)∧True)∧z6.same z6∧True)∧((0:Int)≤(0:Int)∧(0:Int)≤z4)∧ag z3∧z3.length=z7∧ac z3=ac []*z8)∧∀(x:Int×List Int),let z9:=x.snd.length;let ak:=x.fst.toNat;let al:=x.snd.length;let z12:=x.fst+(1:Int);let au:=ae a ak (0:Int) % (18446744073709551616:Int)*z8 % (18446744073709551616:Int);let ar:=x.snd.set ak (dZ.ju .u32 (ae x.snd ak (0:Int)) (au % (4294967296:Int)));let ax:=ar.set z12.toNat (au / (4294967296:Int) % (4294967296:Int));let ay:=SV.si .i64 z12;let z17:=af.row z2 ax 161 false;((0:Int)≤x.fst∧x.fst≤z4)∧ag x.snd∧z9=z7∧ac x.snd=ac (List.take ak a)*z8→(decide (x.fst<z4)=true→(0:Int)≤x.fst∧x.fst<z0∧ak<a.length∧(0:Int)≤s∧s≤(64:Int)∧z9=al∧(0:Int)≤x.fst∧x.fst<(↑al:Int)∧z9=al∧ak<al∧z9=al∧(0:Int)≤x.fst∧x.fst<(↑al:Int)∧z9=al∧ak<al∧aC .i64 z12∧(0:Int)≤(32:Int)∧(32:Int)≤(64:Int)∧z9=ar.length∧(0:Int)≤z12∧z12<(↑ar.length:Int)∧z9=ar.length∧z12.toNat<ar.length∧aC .i64 z12∧(((SV.row z2 a).same (SV.row z2 a)∧(SV.si .u64 s).same (SV.si .u64 s)∧(SV.ow 0 z9 1).same (SV.ow 0 ax.length 1)∧z5.same z5∧ay.same ay∧True)∧z17.same z17∧True)∧(((0:Int)≤z12∧z12≤z4)∧ag ax∧ax.length=z7∧ac ax=ac (List.take z12.toNat a)*z8)∧(z4 - z12).toNat<(z4 - x.fst).toNat)∧(decide (x.fst<z4)=false→z9=al∧(SV.row z2 x.snd).same (SV.row z2 (shl a s.toNat)))) (by kernel_rfl) ?_
 simp only[vcs]
 refine⟨by omega,by omega,by omega,by omega,by omega,?_,?_⟩
 ·repeat' refine And.intro ?_ ?_
  all_goals first|omega|exact gK (by simp)|exact ea.2 ⟨by omega,rZ⟩|(simp;done)|(simp only[ac,pW];omega)
 rintro⟨i,row⟩ ⟨⟨i0,i1⟩,hr,hl,hv⟩
 simp only at i0 i1 hr hl hv ⊢
 refine⟨fun ig=>?_,fun ja=>?_⟩
 ·obtain⟨k1,k2⟩:=J0 ha hr hl (show i.toNat<a.length by omega) (show s.toNat≤31 by omega) hv
  have e:(i+1).toNat=i.toNat+1:=by omega
  rw[e]
  repeat' refine And.intro ?_ ?_
  all_goals first|omega|exact gK (by simp)|(simp only[List.length_set];done)|(simp only[List.length_set];omega)|exact k1|exact k2
 ·have hi:i.toNat=a.length:=by omega
  rw[hi,List.take_length] at hv
  have hrow:row=shl a s.toNat:=Dy hr hl hv
  rw[hrow]
def prt (U:List Int) (j k:Nat):List Int:=(U.drop j).take k
theorem J4 {U:List Int} {j k:Nat}:ae (U.drop j) k 0=ae U (j+k) 0:=by
 unfold ae
 rw[List.getElem?_drop]
theorem gj {U:List Int} {j k:Nat}:ac (prt U j (k+1))=ac (prt U j k)+4294967296^k*ae U (j+k) 0:=by
 unfold prt
 rw[eJ,J4]
theorem nY {U:List Int} {j k i:Nat} {d:Int} (h:k≤i):prt (U.set (j+i) d) j k=prt U j k:=by
 unfold prt
 apply List.ext_getElem?
 intro m
 rw[List.getElem?_take,List.getElem?_take]
 split
 ·rw[List.getElem?_drop,List.getElem?_drop,List.getElem?_set_ne (by omega)]
 ·rfl
theorem nZ {U:List Int} (h:ag U) {j k:Nat}:ag (prt U j k):=fJ (rY h j) k
theorem Xn {U:List Int} {j k:Nat} (h:j+k≤U.length):(prt U j k).length=k:=by
 unfold prt
 simp
 omega
theorem pY {U:List Int} (h:ag U) {j k:Nat}:ac (prt U j k)<4294967296^k:=by
 have h1:=eI (nZ h (j:=j) (k:=k))
 have h2:(prt U j k).length≤k:=by unfold prt;simp;omega
 have h3:(4294967296:Int)^(prt U j k).length≤4294967296^k:=by
  have hp:∀{a b:Nat},a≤b→(4294967296:Int)^a≤4294967296^b:=fun {a b} hab=>by
   obtain⟨m,rfl⟩:=Nat.exists_eq_add_of_le hab
   rw[Int.pow_add]
   have q1:=pow_pos a
   have q2:=pow_pos m
   have:=Int.mul_le_mul_of_nonneg_left (show(1:Int)≤4294967296^m by omega) (Int.le_of_lt q1)
   rwa [Int.mul_one] at this
  exact hp h2
 omega
def eR (U:List Int) (j:Nat) (l:List Int):List Int:=U.take j++(l++U.drop (j+l.length))
theorem Xo {a b:List Int} (hl:a.length=b.length) (h:∀m,ae a m 0=ae b m 0):a=b:=by
 apply List.ext_getElem hl
 intro m h1 h2
 have:=h m
 rwa [bF h1,bF h2] at this
theorem J5 {U l:List Int} {j:Nat} (h:j+l.length≤U.length):(eR U j l).length=U.length:=by
 unfold eR
 simp
 omega
theorem Xp {U l:List Int} {j m:Nat} (h:j+l.length≤U.length):ae (eR U j l) m 0=if m<j then ae U m 0 else if m<j+l.length then ae l (m - j) 0 else ae U m 0:=by
 unfold eR ae
 split
 ·rename_i h1
  rw[List.getElem?_append_left (by simp;omega),List.getElem?_take,if_pos h1]
 ·rename_i h1
  rw[List.getElem?_append_right (by simp;omega)]
  have hm:min j U.length=j:=by omega
  simp only[List.length_take,hm]
  split
  ·rename_i h2
   rw[List.getElem?_append_left (by omega)]
  ·rename_i h2
   rw[List.getElem?_append_right (by omega),List.getElem?_drop]
   congr 2
   omega
theorem sa {U W:List Int} {j k:Nat} {x:Int} (hW:ag W) (hl:W.length=U.length) (hj:j+k≤U.length) (ho:∀m,(m<j∨j+k≤m)→ae W m 0=ae U m 0) (hx:ac (prt W j k)=x):W=eR U j (eb k x):=by
 have hp:prt W j k=eb k x:=Dy (nZ hW) (Xn (by omega)) hx
 have hk:=@uh k x
 apply Xo
 ·rw[J5 (by rw[hk];exact hj),hl]
 ·intro m
  rw[Xp (by rw[hk];exact hj),hk]
  split
  ·exact ho m (.inl (by assumption))
  ·split
   ·rw[←hp]
    unfold prt
    have:ae ((W.drop j).take k) (m - j) 0=ae (W.drop j) (m - j) 0:=by
     unfold ae
     rw[List.getElem?_take,if_pos (by omega)]
    rw[this,J4]
    congr 1
    omega
   ·exact ho m (.inr (by omega))
section
variable {P V X v1 v2 u2 top rv ru g r:Int}
theorem Xq (hP:0<P) (hV:V=rv+P*(v2+4294967296*v1)) (hX:X=ru+P*(u2+4294967296*top)) (fi:0≤rv) (eW:ru<P) (J6:X<4294967296*V) (DJ:0≤V)
  (hg0:0≤g) (hg:g*v1+r=top) (h:4294967296≤g∨r*4294967296+u2<g*v2):X<g*V:=by
 rcases h with h|h
 ·exact Int.lt_of_lt_of_le J6 (Int.mul_le_mul_of_nonneg_right h DJ)
 ·have e1:g*V=g*rv+P*(g*v2+4294967296*(top - r)):=by
   rw[hV,←hg,Int.mul_add,Int.mul_left_comm g P,Int.mul_add g,Int.mul_left_comm g 4294967296 v1]
   congr 3
   omega
  have e2:P*(u2+1+4294967296*top)≤P*(g*v2+4294967296*(top - r)):=Int.mul_le_mul_of_nonneg_left (by omega) (Int.le_of_lt hP)
  have e3:0≤g*rv:=Int.mul_nonneg hg0 fi
  have e4:P*(u2+1+4294967296*top)=P*(u2+4294967296*top)+P:=by
   rw[show u2+1+4294967296*top=(u2+4294967296*top)+1 by omega,Int.mul_add,Int.mul_one]
  omega
theorem J7 (hP:0<P) (hV:V=rv+P*(v2+4294967296*v1)) (hX:X=ru+P*(u2+4294967296*top)) (fi:0≤rv) (sd:rv<P) (eW:0≤ru) (hv1:2147483648≤v1) (hv2:0≤v2)
  (hg0:0≤g) (hg1:g<4294967296) (hg:g*v1+r=top) (h:g*v2≤r*4294967296+u2):g*V<X+V:=by
 have e1:g*V=g*rv+P*(g*v2+4294967296*(top - r)):=by
  rw[hV,←hg,Int.mul_add,Int.mul_left_comm g P,Int.mul_add g,Int.mul_left_comm g 4294967296 v1]
  congr 3
  omega
 have e2:P*(g*v2+4294967296*(top - r))≤P*(u2+4294967296*top):=Int.mul_le_mul_of_nonneg_left (by omega) (Int.le_of_lt hP)
 have e3:g*rv≤4294967295*rv:=Int.mul_le_mul_of_nonneg_right (by omega) fi
 have e4:P*4294967296≤P*(v2+4294967296*v1):=Int.mul_le_mul_of_nonneg_left (by omega) (Int.le_of_lt hP)
 omega
theorem Xr (hP:0<P) (hV:V=rv+P*(v2+4294967296*v1)) (hX:X=ru+P*(u2+4294967296*top)) (fi:0≤rv) (eW:ru<P) (hv2:0≤v2) (hu2:u2<4294967296)
  (hg0:0≤g) (hg:g*v1+r=top) (hr:r<v1):X<(g+1)*V:=by
 have e1:(g+1)*V=(g+1)*rv+((g+1)*(P*v2)+P*(4294967296*((g+1)*v1))):=by
  rw[hV,Int.mul_add,Int.mul_add P,Int.mul_add (g+1),Int.mul_left_comm (g+1) P (4294967296*v1),Int.mul_left_comm (g+1) 4294967296]
 have e2:0≤(g+1)*rv:=Int.mul_nonneg (by omega) fi
 have e3:0≤(g+1)*(P*v2):=Int.mul_nonneg (by omega) (Int.mul_nonneg (Int.le_of_lt hP) hv2)
 have e4:top+1≤(g+1)*v1:=by rw[Int.add_mul,Int.one_mul];omega
 have e5:P*(u2+1+4294967296*top)≤P*(4294967296*((g+1)*v1)):=Int.mul_le_mul_of_nonneg_left (by omega) (Int.le_of_lt hP)
 have e6:P*(u2+1+4294967296*top)=P*(u2+4294967296*top)+P:=by
  rw[show u2+1+4294967296*top=(u2+4294967296*top)+1 by omega,Int.mul_add,Int.mul_one]
 omega
theorem Xt {u1 un:Int} (hP:0<P) (hV:V=rv+P*(v2+4294967296*v1)) (hX:X=ru+P*(u2+4294967296*(u1+4294967296*un))) (fi:rv<P) (eW:0≤ru) (hu2:0≤u2) (hu1:0≤u1) (hv2:v2<4294967296)
  (J6:X<4294967296*V):un≤v1:=by
 by_cases h:un≤v1
 ·exact h
 ·exfalso
  have e1:P*(4294967296*(4294967296*(v1+1)))≤P*(u2+4294967296*(u1+4294967296*un)):=Int.mul_le_mul_of_nonneg_left (by omega) (Int.le_of_lt hP)
  have e2:P*(v2+4294967296*v1)≤P*(4294967296*(v1+1) - 1):=Int.mul_le_mul_of_nonneg_left (by omega) (Int.le_of_lt hP)
  have e3:P*(4294967296*(v1+1) - 1)=P*(4294967296*(v1+1)) - P:=by rw[Int.mul_sub,Int.mul_one]
  have e4:P*(4294967296*(4294967296*(v1+1)))=4294967296*(P*(4294967296*(v1+1))):=by rw[Int.mul_left_comm]
  omega
theorem oa {X V q:Int} (h0:q*V≤X) (h1:X<(q+1)*V):X / V=q∧X % V=X - q*V:=by
 rw[Int.add_mul,Int.one_mul] at h1
 have hV:0<V:=by omega
 have hx:X=(X - q*V)+V*q:=by rw[Int.mul_comm V q];omega
 have e1:X / V=q:=by
  conv=>lhs;rw[hx]
  rw[Int.add_mul_ediv_left _ _ (by omega),Int.ediv_eq_zero_of_lt (by omega) (by omega),Int.zero_add]
 refine⟨e1,?_⟩
 rw[Int.emod_def,e1,Int.mul_comm]
end
theorem DK {p:Int} (p0:0≤p) (p1:p<18446744073709551616):dZ.pF .u64 p 4294967295=p % 4294967296:=by
 obtain⟨m,rfl⟩:=Int.eq_ofNat_of_zero_le p0
 have h1:(BitVec.ofInt 64 ((m:Nat):Int)).toNat=m:=by rw[BitVec.toNat_ofInt];omega
 have h2:(BitVec.ofInt 64 4294967295).toNat=4294967295:=by rw[BitVec.toNat_ofInt];rfl
 have h3:(BitVec.ofInt 64 ((m:Nat):Int) &&&BitVec.ofInt 64 4294967295).toNat=m % 4294967296:=by
  rw[BitVec.toNat_and,h1,h2]
  exact Nat.and_two_pow_sub_one_eq_mod m 32
 show cO .u64 ((BitVec.ofInt 64 ((m:Nat):Int) &&&BitVec.ofInt 64 4294967295).toNat:Nat)=_
 rw[h3,nl]
 simp only[IntKind.wrap,IntKind.bits,IntKind.signed]
 simp
 omega
theorem DL {U W v:List Int} {j i:Nat} {g c b d e:Int} (hW:ag W) (hl:W.length=U.length) (hv:ag v) (g0:0≤g) (g1:g<4294967296) (c0:0≤c) (c1:c<4294967296) (b0:0≤b) (b1:b≤1) (hj:j+i<U.length)
  (ho:∀m,(m<j∨j+i≤m)→ae W m 0=ae U m 0)
  (he:ac (prt W j i)=ac (prt U j i) - g*ac (v.take i)+4294967296^i*(c+b))
  (hd0:0≤d∧d<4294967296) (hd:d - 4294967296*e=ae W (j+i) 0 - (g*ae v i 0+c) % 4294967296 - b):
  ag (W.set (j+i) d)∧(W.set (j+i) d).length=U.length∧(0≤(g*ae v i 0+c) / 4294967296∧(g*ae v i 0+c) / 4294967296<4294967296)∧
  (∀m,(m<j∨j+(i+1)≤m)→ae (W.set (j+i) d) m 0=ae U m 0)∧
  ac (prt (W.set (j+i) d) j (i+1))=ac (prt U j (i+1)) - g*ac (v.take (i+1))+4294967296^(i+1)*((g*ae v i 0+c) / 4294967296+e):=by
 have x:=bK hv i
 have t0:0≤g*ae v i 0:=Int.mul_nonneg g0 x.1
 have t1:g*ae v i 0≤4294967295*4294967295:=Int.mul_le_mul (by omega) (by omega) x.1 (by omega)
 refine⟨jb hW hd0.1 hd0.2,by simp[hl],by omega,fun m hm=>by rw[jU (by omega)];exact ho m (by omega),?_⟩
 have hu:=ho (j+i) (.inr (Nat.le_refl _))
 rw[gj,gj,nY (Nat.le_refl _),mR (by omega),he,eJ,Int.pow_succ]
 rw[hu] at hd
 generalize hp:g*ae v i 0=p at*
 have e1:g*(ac (v.take i)+4294967296^i*ae v i 0)=g*ac (v.take i)+4294967296^i*p:=by
  rw[Int.mul_add,Int.mul_left_comm,hp]
 rw[e1]
 generalize (4294967296:Int)^i=B at*
 have e2:B*4294967296*((p+c) / 4294967296+e)=B*(4294967296*((p+c) / 4294967296+e)):=Int.mul_assoc _ _ _
 have e3:4294967296*((p+c) / 4294967296+e)=p+c - (p+c) % 4294967296+4294967296*e:=by omega
 have e4:p+c - (p+c) % 4294967296+4294967296*e=p+(c+b)+d - ae U (j+i) 0:=by omega
 rw[e2,e3,e4]
 simp only[Int.mul_add,Int.mul_sub]
 omega
theorem DN {U W v:List Int} {j i:Nat} {c s:Int} (hW:ag W) (hl:W.length=U.length) (hv:ag v) (c0:0≤c) (c1:c≤1) (hj:j+i<U.length) (hU:ag U)
  (ho:∀m,(m<j∨j+i≤m)→ae W m 0=ae U m 0)
  (he:ac (prt W j i)+4294967296^i*c=ac (prt U j i)+ac (v.take i)) (hs:s=ae W (j+i) 0+ae v i 0+c):
  ag (W.set (j+i) (s % 4294967296))∧(W.set (j+i) (s % 4294967296)).length=U.length∧(0≤s / 4294967296∧s / 4294967296≤1)∧
  (∀m,(m<j∨j+(i+1)≤m)→ae (W.set (j+i) (s % 4294967296)) m 0=ae U m 0)∧
  ac (prt (W.set (j+i) (s % 4294967296)) j (i+1))+4294967296^(i+1)*(s / 4294967296)=ac (prt U j (i+1))+ac (v.take (i+1)):=by
 have x:=bK hv i
 have y:=bK hW (j+i)
 refine⟨jb hW (by omega) (by omega),by simp[hl],by omega,fun m hm=>by rw[jU (by omega)];exact ho m (by omega),?_⟩
 have hu:=ho (j+i) (.inr (Nat.le_refl _))
 rw[gj,gj,nY (Nat.le_refl _),mR (by omega),eJ,Int.pow_succ]
 rw[hu] at hs
 generalize (4294967296:Int)^i=B at*
 have e2:B*4294967296*(s / 4294967296)=B*(s - s % 4294967296):=by rw[Int.mul_assoc];congr 1;omega
 rw[e2,hs]
 simp only[Int.mul_add,Int.mul_sub]
 omega
theorem Xu {v:List Int} {n:Nat} (hn:2≤n) (hl:v.length=n):ac v=ac (v.take (n - 2))+4294967296^(n - 2)*(ae v (n - 2) 0+4294967296*ae v (n - 1) 0):=by
 obtain⟨m,rfl⟩:∃m,n=m+2:=⟨n - 2,by omega⟩
 have h1:=@eJ v (m+1)
 have h2:=@eJ v m
 rw[show m+1+1=v.length by omega,List.take_length] at h1
 rw[h1,h2,show m+2 - 2=m by omega,show m+2 - 1=m+1 by omega,Int.pow_succ,Int.mul_add,Int.mul_assoc]
 omega
theorem Xv {U:List Int} {j n:Nat} (hn:2≤n):ac (prt U j (n+1))=ac (prt U j (n - 2))+4294967296^(n - 2)*(ae U (j+(n - 2)) 0+4294967296*(ae U (j+(n - 1)) 0+4294967296*ae U (j+n) 0)):=by
 obtain⟨m,rfl⟩:∃m,n=m+2:=⟨n - 2,by omega⟩
 rw[gj,gj,gj,show m+2 - 2=m by omega,show m+2 - 1=m+1 by omega,show(4294967296:Int)^(m+2)=4294967296^m*4294967296*4294967296 from rfl,Int.pow_succ]
 generalize (4294967296:Int)^m=B
 simp only[Int.mul_add,Int.mul_assoc]
 omega
end Go.Vi
