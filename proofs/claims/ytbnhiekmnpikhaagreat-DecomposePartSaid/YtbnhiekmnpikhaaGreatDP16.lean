/-
  The statement DecomposePart holds.
  Conditions: none.
-/
import Derived.Test.YtbnhiekmnpikhaaGreatDP06
import Derived.Test.YtbnhiekmnpikhaaGreatDP15
import Derived.Test.YtbnhiekmnpikhaaGreatRows
import Derived.ProofKit
set_option maxRecDepth 100000
set_option maxHeartbeats 4000000
set_option linter.all false
namespace Go.Proofs.YtbnhiekmnpikhaaGreat
open Go.ChangeShapes Go.WideShapes Go.ChangeAt Go.RowKit Go.Vi
theorem ahG (os:Os) (started:os.Started) (H:Type) (enc:TypeId×Value->H):
  ReturnsInHanded {} Tryz.checked os 4 .any (Rows.decomposePartSpec.pre6 enc Tryz.prog Tryz.f4 Rows.decomposePartRow.domain false) (Rows.decomposePartSpec.post enc Tryz.prog Tryz.f4 false true false false):=by
 refine returnsInHanded_of_change (C:=Tryz.checked) Tryz.own started (by kernel_rfl) Tryz.func4
  (ChangeSpec.witness6 (enc:=enc) (C:=Tryz.checked) false ⟨#[],#[.agg #[.int .i64 0,.int .i64 0,.int .i64 0,.int .i64 0,.int .i64 0,.int .i64 0,.int .i64 0,.int .i64 0,.int .i64 0,.int .i64 0,.int .i64 0,.int .i64 0,.int .i64 0,.int .i64 0,.int .i64 0,.int .i64 0,.int .i64 0,.int .i64 0,.slice none 0 0,.slice none 0 0],.slice none 0 0],[]⟩ 8 (by kernel_rfl) (by kernel_rfl) (by kernel_rfl) (by kernel_rfl)) ?_;intro W base args ds gs before hval0 hW hcnd _;have hval:∀(j:Nat) t v,Tryz.f4.params[j]?=some t->args[j]?=some v->Value.okWide Tryz.prog W .any base t v:=hval0;have hW':=hW;obtain⟨p,q,hA0,hV,rfl,hfz,hnd⟩:=hW;have hA:DataW.TrodAll enc Tryz.prog W 0 (λ_=>true) true Tryz.f4.params.toList args.toList ds p:=hA0;have hA2:=hA;rw[Tryz.params4] at hA hval;obtain⟨v0,v1,d0,d1,p0,p1,rfl,rfl,rfl,⟨n0,h0⟩,⟨n1,h1⟩⟩:=trodAll_two hA;obtain⟨rfl,rfl⟩:=trodVars_none hV;obtain⟨c0,rfl,e0⟩:=ZV Tryz.underlying27 (hval 0 27 v0 rfl rfl);rw[e0] at h0;obtain⟨a0,r0⟩:=aak h0;rw[ZW Tryz.underlying24 (hval 1 24 v1 rfl rfl)] at h1;obtain⟨w1,a1,e1,b1,r1⟩:=aao h1;have hw1:v1=w1:=by simpa using e1
 subst hw1;have hcall:=aal (W:=W) (f:=4) (args:=MN.A.put (a0,a1)) (h544 (a0,a1) trivial).2 (vs:=[.agg c0,v1]) ⟨_,_,rfl,⟨c0,rfl,r0⟩,_,_,rfl,r1,rfl⟩;refine hcall.mono λe W' ⟨he,hw⟩=>?_;subst he;have hlt:∀x∈p0++p1,x.block<W.heap.size:=λx hx=>hW'.lt x (by simpa using hx);refine⟨_,rfl,[d0,d1],[],p0++p1++[],[],p0++p1,[],hW',trodAll_mk1 (shut_bool Tryz.underlying4 true),P3 Tryz.laidOut hw hA2 ?_ hlt (λx hx=>by simpa using hlt x hx),rfl,hw.frame _,λh=>by cases h⟩;intro t ht;have ht2:t=27\/t=24:=by
  have:Tryz.f4.params.toList=[27,24]:=rfl;rw[this] at ht;simpa using ht
 rcases ht2 with rfl|rfl;·exact⟨by kernel_rfl,of_decide_eq_true (by kernel_rfl)⟩
 ·exact⟨by kernel_rfl,of_decide_eq_true (by kernel_rfl)⟩
theorem ahI:(Rows.decomposePartRow.inPlace==Tryz.pinned.checked.prog.inPlace 4)=true:=by kernel_rfl
theorem ahJ:(Rows.decomposePartRow.unfollowed==Tryz.pinned.checked.prog.unfollowed 4)=true:=by kernel_rfl
theorem ahK:(Rows.decomposePartRow.recurses==Tryz.pinned.checked.prog.recurses 4)=true:=by kernel_rfl
theorem ahL:(Rows.decomposePartRow.named==Tryz.pinned.checked.prog.varsNamed 4)=true:=by kernel_rfl
theorem ahM:joinedFacts Tryz.pinned.checked.prog 4 Tryz.f4 Rows.decomposePartSpec Rows.decomposePartRow=true:=by
 simp only[joinedFacts,ahI,ahJ,ahK,ahL,Bool.true_and,Bool.and_true];kernel_rfl
theorem dpar_holds:Rows.DecomposePartSaid:=
 OpenClaim.holds_of_wide 4 Tryz.f4 rfl rfl rfl rfl rfl rfl rfl ⟨rfl,rfl,rfl,rfl,rfl⟩ rfl rfl rfl rfl rfl (by kernel_rfl) Tryz.func4 ahM
  (of_decide_eq_true (by kernel_rfl)) (by unfold Func.isWrapper;first|(rw[if_pos (by decide+kernel)];kernel_rfl)|(rw[if_neg (by decide+kernel)];exact⟨rfl,rfl⟩))
  (λos started H enc _=>ahG os started H enc)
#print axioms dpar_holds
end Go.Proofs.YtbnhiekmnpikhaaGreat
