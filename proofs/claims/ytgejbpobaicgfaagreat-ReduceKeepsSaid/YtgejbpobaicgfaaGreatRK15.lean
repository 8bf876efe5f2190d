/-
  The statement ReduceKeeps holds.
  Conditions: none.
-/
import Derived.Test.YtgejbpobaicgfaaGreatRK06
import Derived.Test.YtgejbpobaicgfaaGreatRK14
import Derived.Test.YtgejbpobaicgfaaGreatRows
import Derived.ProofKit
set_option maxRecDepth 100000
set_option maxHeartbeats 4000000
set_option linter.all false
namespace Go.Proofs.YtgejbpobaicgfaaGreat
open Go.ChangeShapes Go.WideShapes Go.ChangeAt Go.RowKit Go.Vi
theorem aHx (os:Os) (started:os.Started) (H:Type) (enc:TypeId×Value->H):
  ReturnsInHanded {} Tryz.checked os 9 .any (Rows.reduceKeepsSpec.pre6 enc Tryz.prog Tryz.f9 Rows.reduceKeepsRow.domain false) (Rows.reduceKeepsSpec.post enc Tryz.prog Tryz.f9 false true false false):=by
 refine returnsInHanded_of_change (C:=Tryz.checked) Tryz.own started (by kernel_rfl) Tryz.func9
  (ChangeSpec.witness6 (enc:=enc) (C:=Tryz.checked) false ⟨#[],#[.agg #[.int .i64 0,.int .i64 0,.int .i64 0,.int .i64 0,.int .i64 0,.int .i64 0,.int .i64 0,.int .i64 0,.int .i64 0,.int .i64 0,.int .i64 0,.int .i64 0,.int .i64 0,.int .i64 0,.int .i64 0,.int .i64 0,.int .i64 0,.int .i64 0,.slice none 0 0,.slice none 0 0],.int .i64 0],[]⟩ 8 (by kernel_rfl) (by kernel_rfl) (by kernel_rfl) (by kernel_rfl)) ?_
 intro W base args ds gs before hval0 hW hcnd _
 have hval:∀(j:Nat) t v,Tryz.f9.params[j]?=some t->args[j]?=some v->Value.okWide Tryz.prog W .any base t v:=hval0
 have hW':=hW
 obtain⟨p,q,hA0,hV,rfl,hfz,hnd⟩:=hW
 have hA:DataW.TrodAll enc Tryz.prog W 0 (fun _=>true) true Tryz.f9.params.toList args.toList ds p:=hA0
 have hA2:=hA
 rw[Tryz.params9] at hA hval
 obtain⟨v0,v1,d0,d1,p0,p1,rfl,rfl,rfl,⟨n0,h0⟩,⟨n1,h1⟩⟩:=trodAll_two hA
 obtain⟨rfl,rfl⟩:=trodVars_none hV
 obtain⟨c0,rfl,e0⟩:=aB6 Tryz.underlying27 (hval 0 27 v0 rfl rfl)
 rw[e0] at h0
 obtain⟨a0,r0⟩:=aCs h0
 rw[aB7 Tryz.underlying2 (hval 1 2 v1 rfl rfl)] at h1
 obtain⟨a1,b1,e1⟩:=aCw h1
 have hw1:v1= .int .i64 a1:=by simpa using e1
 subst hw1
 have hcall:=aCt (W:=W) (f:=9) (args:=arM.A.put (a0,a1)) (h419 (a0,a1) b1).2 (vs:=[.agg c0,.int .i64 a1]) ⟨_,_,rfl,⟨c0,rfl,r0⟩,_,_,rfl,aCu a1,rfl⟩
 refine hcall.mono fun e W' ⟨he,hw⟩=>?_
 subst he
 have hlt:∀x∈p0++p1,x.block<W.heap.size:=fun x hx=>hW'.lt x (by simpa using hx)
 refine⟨_,rfl,[d0,d1],[],p0++p1++[],[],p0++p1,[],hW',trodAll_mk1 (shut_bool Tryz.underlying4 true),aur Tryz.laidOut hw hA2 ?_ hlt (fun x hx=>by simpa using hlt x hx),rfl,hw.frame _,fun h=>by cases h⟩
 intro t ht
 have ht2:t=27\/t=2:=by
  have:Tryz.f9.params.toList=[27,2]:=rfl
  rw[this] at ht
  simpa using ht
 rcases ht2 with rfl|rfl
 ·exact⟨by kernel_rfl,of_decide_eq_true (by kernel_rfl)⟩
 ·exact⟨by kernel_rfl,of_decide_eq_true (by kernel_rfl)⟩
theorem keeps_holds:Rows.ReduceKeepsSaid:=
 OpenClaim.holds_of_wide 9 Tryz.f9 rfl rfl rfl rfl rfl rfl rfl ⟨rfl,rfl,rfl,rfl,rfl⟩ rfl rfl rfl rfl rfl (by kernel_rfl) Tryz.func9 (by kernel_rfl)
  (of_decide_eq_true (by kernel_rfl)) (by unfold Func.isWrapper;first|(rw[if_pos (by decide+kernel)];kernel_rfl)|(rw[if_neg (by decide+kernel)];exact⟨rfl,rfl⟩))
  (fun os started H enc _=>aHx os started H enc)
#print axioms keeps_holds
end Go.Proofs.YtgejbpobaicgfaaGreat
