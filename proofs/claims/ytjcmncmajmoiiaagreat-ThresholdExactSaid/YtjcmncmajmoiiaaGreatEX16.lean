/-
  The statement ThresholdExact holds.
  Conditions: none.
-/
import Derived.Test.YtjcmncmajmoiiaaGreatEX06
import Derived.Test.YtjcmncmajmoiiaaGreatEX15
import Derived.Test.YtjcmncmajmoiiaaGreatRows
import Derived.ProofKit
set_option maxRecDepth 100000
set_option maxHeartbeats 4000000
set_option linter.all false
namespace Go.Proofs.YtjcmncmajmoiiaaGreat
open Go.ChangeShapes Go.WideShapes Go.ChangeAt Go.RowKit Go.Vi
theorem agp (os:Os) (started:os.Started) (H:Type) (enc:TypeId×Value->H):
  ReturnsInHanded {} Tryz.checked os 4 .any (Rows.thresholdExactSpec.pre6 enc Tryz.prog Tryz.f4 Rows.thresholdExactRow.domain false) (Rows.thresholdExactSpec.post enc Tryz.prog Tryz.f4 false true false false):=by
 refine returnsInHanded_of_change (C:=Tryz.checked) Tryz.own started (by kernel_rfl) Tryz.func4
  (ChangeSpec.witness6 (enc:=enc) (C:=Tryz.checked) false ⟨#[],#[.agg #[.int .i64 0,.int .i64 0,.int .i64 0,.int .i64 0,.int .i64 0,.int .i64 0,.int .i64 0,.int .i64 0,.int .i64 0,.int .i64 0,.int .i64 0,.int .i64 0,.int .i64 0,.int .i64 0,.int .i64 0,.int .i64 0,.int .i64 0,.int .i64 0,.slice none 0 0,.slice none 0 0],.int .u8 0,.int .i64 0],[]⟩ 8 (by kernel_rfl) (by kernel_rfl) (by kernel_rfl) (by kernel_rfl)) ?_;intro W base args ds gs before hval0 hW hcnd _;have hval:∀(j:Nat) t v,Tryz.f4.params[j]?=some t->args[j]?=some v->Value.okWide Tryz.prog W .any base t v:=hval0;have hW':=hW;obtain⟨p,q,hA0,hV,rfl,hfz,hnd⟩:=hW;have hA:DataW.TrodAll enc Tryz.prog W 0 (λ_=>true) true Tryz.f4.params.toList args.toList ds p:=hA0;have hA2:=hA;rw[Tryz.params4] at hA hval;obtain⟨v0,v1,v2,d0,d1,d2,p0,p1,p2,rfl,rfl,rfl,⟨n0,h0⟩,⟨n1,h1⟩,⟨n2,h2⟩⟩:=trodAll_three hA;obtain⟨rfl,rfl⟩:=trodVars_none hV;obtain⟨c0,rfl,e0⟩:=ZP Tryz.underlying27 (hval 0 27 v0 rfl rfl);rw[e0] at h0;obtain⟨a0,r0⟩:=aaj h0;rw[PZ Tryz.underlying5 (hval 1 5 v1 rfl rfl)] at h1;obtain⟨a1,b1,e1⟩:=aao h1;have hw1:v1= .int .u8 a1:=by simpa using e1
 subst hw1;rw[PZ Tryz.underlying2 (hval 2 2 v2 rfl rfl)] at h2;obtain⟨a2,b2,e2⟩:=aan h2;have hw2:v2= .int .i64 a2:=by simpa using e2
 subst hw2;have hcall:=aak (W:=W) (f:=4) (args:=MR.A.put (a0,a1,a2)) (h458 (a0,a1,a2) b1).2 (vs:=[.agg c0,.int .u8 a1,.int .i64 a2]) ⟨_,_,rfl,⟨c0,rfl,r0⟩,_,_,rfl,aap a1,_,_,rfl,aal a2,rfl⟩;refine hcall.mono λe W' ⟨he,hw⟩=>?_;subst he;have hlt:∀x∈p0++p1++p2,x.block<W.heap.size:=λx hx=>hW'.lt x (by simpa using hx);refine⟨_,rfl,[d0,d1,d2],[],p0++p1++p2++[],[],p0++p1++p2,[],hW',trodAll_mk1 (shut_bool Tryz.underlying4 true),P0 Tryz.laidOut hw hA2 ?_ hlt (λx hx=>by simpa using hlt x hx),rfl,hw.frame _,λh=>by cases h⟩;intro t ht;have ht2:t=27\/t=5\/t=2:=by
  have:Tryz.f4.params.toList=[27,5,2]:=rfl;rw[this] at ht;simpa using ht
 rcases ht2 with rfl|rfl|rfl;·exact⟨by kernel_rfl,of_decide_eq_true (by kernel_rfl)⟩
 ·exact⟨by kernel_rfl,of_decide_eq_true (by kernel_rfl)⟩
 ·exact⟨by kernel_rfl,of_decide_eq_true (by kernel_rfl)⟩
theorem agr:(Rows.thresholdExactRow.inPlace==Tryz.pinned.checked.prog.inPlace 4)=true:=by kernel_rfl
theorem ags:(Rows.thresholdExactRow.unfollowed==Tryz.pinned.checked.prog.unfollowed 4)=true:=by kernel_rfl
theorem agt:(Rows.thresholdExactRow.recurses==Tryz.pinned.checked.prog.recurses 4)=true:=by kernel_rfl
theorem agu:(Rows.thresholdExactRow.named==Tryz.pinned.checked.prog.varsNamed 4)=true:=by kernel_rfl
theorem agv:joinedFacts Tryz.pinned.checked.prog 4 Tryz.f4 Rows.thresholdExactSpec Rows.thresholdExactRow=true:=by
 simp only[joinedFacts,agr,ags,agt,agu,Bool.true_and,Bool.and_true];kernel_rfl
theorem exact_holds:Rows.ThresholdExactSaid:=
 OpenClaim.holds_of_wide 4 Tryz.f4 rfl rfl rfl rfl rfl rfl rfl ⟨rfl,rfl,rfl,rfl,rfl⟩ rfl rfl rfl rfl rfl (by kernel_rfl) Tryz.func4 agv
  (of_decide_eq_true (by kernel_rfl)) (by unfold Func.isWrapper;first|(rw[if_pos (by decide+kernel)];kernel_rfl)|(rw[if_neg (by decide+kernel)];exact⟨rfl,rfl⟩))
  (λos started H enc _=>agp os started H enc)
#print axioms exact_holds
end Go.Proofs.YtjcmncmajmoiiaaGreat
