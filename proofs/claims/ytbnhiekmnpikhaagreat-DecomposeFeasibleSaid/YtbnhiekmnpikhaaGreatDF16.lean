/-
  The statement DecomposeFeasible holds.
  Conditions: none.
-/
import Derived.Test.YtbnhiekmnpikhaaGreatDF06
import Derived.Test.YtbnhiekmnpikhaaGreatDF11
import Derived.Test.YtbnhiekmnpikhaaGreatDF15
import Derived.Test.YtbnhiekmnpikhaaGreatRows
import Derived.ProofKit
set_option maxRecDepth 100000
set_option maxHeartbeats 4000000
set_option linter.all false
namespace Go.Proofs.YtbnhiekmnpikhaaGreat
open Go.ChangeShapes Go.WideShapes Go.ChangeAt Go.RowKit Go.Vi
theorem ain (os:Os) (started:os.Started) (H:Type) (enc:TypeId×Value->H):
  ReturnsInHanded {} Tryz.checked os 7 .any (Rows.decomposeFeasibleSpec.pre6 enc Tryz.prog Tryz.f7 Rows.decomposeFeasibleRow.domain false) (Rows.decomposeFeasibleSpec.post enc Tryz.prog Tryz.f7 false true false false):=by
 refine returnsInHanded_of_change (C:=Tryz.checked) Tryz.own started (by kernel_rfl) Tryz.func7
  (ChangeSpec.witness6 (enc:=enc) (C:=Tryz.checked) false ⟨#[],#[.agg #[.int .i64 0,.int .i64 0,.int .i64 0,.int .i64 0,.int .i64 0,.int .i64 0,.int .i64 0,.int .i64 0,.int .i64 0,.int .i64 0,.int .i64 0,.int .i64 0,.int .i64 0,.int .i64 0,.int .i64 0,.int .i64 0,.int .i64 0,.int .i64 0,.slice none 0 0,.slice none 0 0],.int .u64 0],[]⟩ 8 (by kernel_rfl) (by kernel_rfl) (by kernel_rfl) (by kernel_rfl)) ?_;intro W base args ds gs before hval0 hW hcnd _;have hval:∀(j:Nat) t v,Tryz.f7.params[j]?=some t->args[j]?=some v->Value.okWide Tryz.prog W .any base t v:=hval0;have hW':=hW;obtain⟨p,q,hA0,hV,rfl,hfz,hnd⟩:=hW;have hA:DataW.TrodAll enc Tryz.prog W 0 (λ_=>true) true Tryz.f7.params.toList args.toList ds p:=hA0;have hA2:=hA;rw[Tryz.params7] at hA hval;obtain⟨v0,v1,d0,d1,p0,p1,rfl,rfl,rfl,⟨n0,h0⟩,⟨n1,h1⟩⟩:=trodAll_two hA;obtain⟨rfl,rfl⟩:=trodVars_none hV;obtain⟨c0,rfl,e0⟩:=aao Tryz.underlying27 (hval 0 27 v0 rfl rfl);rw[e0] at h0;obtain⟨a0,r0⟩:=aaK h0;rw[aap Tryz.underlying53 (hval 1 53 v1 rfl rfl)] at h1;obtain⟨a1,b1,e1⟩:=ae5 h1;have hw1:v1= .int .u64 a1:=by simpa using e1
 subst hw1;have hcall:=aaL (W:=W) (f:=7) (args:=MV.A.put (a0,a1)) (h547 (a0,a1) b1).2 (vs:=[.agg c0,.int .u64 a1]) ⟨_,_,rfl,⟨c0,rfl,r0⟩,_,_,rfl,ae6 a1,rfl⟩;refine hcall.mono λe W' ⟨he,hw⟩=>?_;subst he;have hlt:∀x∈p0++p1,x.block<W.heap.size:=λx hx=>hW'.lt x (by simpa using hx);refine⟨_,rfl,[d0,d1],[],p0++p1++[],[],p0++p1,[],hW',trodAll_mk1 (shut_bool Tryz.underlying4 true),Qc Tryz.laidOut hw hA2 ?_ hlt (λx hx=>by simpa using hlt x hx),rfl,hw.frame _,λh=>by cases h⟩;intro t ht;have ht2:t=27\/t=53:=by
  have:Tryz.f7.params.toList=[27,53]:=rfl;rw[this] at ht;simpa using ht
 rcases ht2 with rfl|rfl;·exact⟨by kernel_rfl,of_decide_eq_true (by kernel_rfl)⟩
 ·exact⟨by kernel_rfl,of_decide_eq_true (by kernel_rfl)⟩
theorem aip:(Rows.decomposeFeasibleRow.inPlace==Tryz.pinned.checked.prog.inPlace 7)=true:=by kernel_rfl
theorem aiq:(Rows.decomposeFeasibleRow.unfollowed==Tryz.pinned.checked.prog.unfollowed 7)=true:=by kernel_rfl
theorem air:(Rows.decomposeFeasibleRow.recurses==Tryz.pinned.checked.prog.recurses 7)=true:=by kernel_rfl
theorem ais:(Rows.decomposeFeasibleRow.named==Tryz.pinned.checked.prog.varsNamed 7)=true:=by kernel_rfl
theorem ait:joinedFacts Tryz.pinned.checked.prog 7 Tryz.f7 Rows.decomposeFeasibleSpec Rows.decomposeFeasibleRow=true:=by
 simp only[joinedFacts,aip,aiq,air,ais,Bool.true_and,Bool.and_true];kernel_rfl
theorem dfea_holds:Rows.DecomposeFeasibleSaid:=
 OpenClaim.holds_of_wide 7 Tryz.f7 rfl rfl rfl rfl rfl rfl rfl ⟨rfl,rfl,rfl,rfl,rfl⟩ rfl rfl rfl rfl rfl (by kernel_rfl) Tryz.func7 ait
  (of_decide_eq_true (by kernel_rfl)) (by unfold Func.isWrapper;first|(rw[if_pos (by decide+kernel)];kernel_rfl)|(rw[if_neg (by decide+kernel)];exact⟨rfl,rfl⟩))
  (λos started H enc _=>ain os started H enc)
#print axioms dfea_holds
end Go.Proofs.YtbnhiekmnpikhaaGreat
