/-
  The statement VickreyTruthful holds.
  Conditions: none.
-/
import Derived.Test.YtjcmncmajmoiiaaGreatTX06
import Derived.Carry
import Derived.Test.YtjcmncmajmoiiaaGreatTX15
import Derived.Test.YtjcmncmajmoiiaaGreatRows
import Derived.ProofKit
set_option maxRecDepth 100000
set_option maxHeartbeats 4000000
set_option linter.all false
namespace Go.Proofs.YtjcmncmajmoiiaaGreat
open Go.ChangeShapes Go.WideShapes Go.ChangeAt Go.RowKit Go.Vi
theorem afN (os:Os) (started:os.Started) (H:Type) (enc:TypeId×Value->H):
  ReturnsInHanded {} Tryz.checked os 3 .any (Rows.vickreyTruthfulSpec.pre6 enc Tryz.prog Tryz.f3 Rows.vickreyTruthfulRow.domain false) (Rows.vickreyTruthfulSpec.post enc Tryz.prog Tryz.f3 false true false false):=by
 refine returnsInHanded_of_change (C:=Tryz.checked) Tryz.own started (by kernel_rfl) Tryz.func3
  (ChangeSpec.witness6 (enc:=enc) (C:=Tryz.checked) false ⟨#[],#[.agg #[.int .i64 0,.int .i64 0,.int .i64 0,.int .i64 0,.int .i64 0,.int .i64 0,.int .i64 0,.int .i64 0,.int .i64 0,.int .i64 0,.int .i64 0,.int .i64 0,.int .i64 0,.int .i64 0,.int .i64 0,.int .i64 0,.int .i64 0,.int .i64 0,.slice none 0 0,.slice none 0 0],.int .i64 0,.slice none 0 0,.slice none 0 0],[]⟩ 8 (by kernel_rfl) (by kernel_rfl) (by kernel_rfl) (by kernel_rfl)) ?_
 intro W base args ds gs before hval0 hW hcnd _
 have hval:∀(j:Nat) t v,Tryz.f3.params[j]?=some t->args[j]?=some v->Value.okWide Tryz.prog W .any base t v:=hval0
 have hW':=hW
 obtain⟨p,q,hA0,hV,rfl,hfz,hnd⟩:=hW
 have hA:DataW.TrodAll enc Tryz.prog W 0 (λ_=>true) true Tryz.f3.params.toList args.toList ds p:=hA0
 have hA2:=hA
 rw[Tryz.params3] at hA hval
 obtain⟨v0,v1,v2,v3,d0,d1,d2,d3,p0,p1,p2,p3,rfl,rfl,rfl,⟨n0,h0⟩,⟨n1,h1⟩,⟨n2,h2⟩,⟨n3,h3⟩⟩:=trodAll_four hA
 obtain⟨rfl,rfl⟩:=trodVars_none hV
 obtain⟨c0,rfl,e0⟩:=Zr Tryz.underlying27 (hval 0 27 v0 rfl rfl)
 rw[e0] at h0
 obtain⟨a0,r0⟩:=ZQ h0
 obtain⟨a1,e1⟩:=PN _ _ _ _ _ _ _ _ _ h1
 have hw1:v1= .int .i64 a1:=by simpa[Zs Tryz.underlying3 (hval 1 3 v1 rfl rfl),dE] using e1
 subst hw1;rw[Px Tryz.underlying25 (hval 2 25 v2 rfl rfl)] at h2
 obtain⟨w2,a2,e2,r2⟩:=PR h2
 have hw2:v2=w2:=by simpa using e2
 subst hw2;rw[Px Tryz.underlying25 (hval 3 25 v3 rfl rfl)] at h3
 obtain⟨w3,a3,e3,r3⟩:=PR h3
 have hw3:v3=w3:=by simpa using e3
 subst hw3
 have hcall:=ZR (W:=W) (f:=3) (args:=L1.A.put (a0,a1,a2,a3)) (h457 (a0,a1,a2,a3) trivial).2 (vs:=[.agg c0,.int .i64 a1,v2,v3]) ⟨_,_,rfl,⟨c0,rfl,r0⟩,_,_,rfl,ZS a1,_,_,rfl,r2,_,_,rfl,r3,rfl⟩
 refine hcall.mono λe W' ⟨he,hw⟩=>?_
 subst he
 have hlt:∀x∈p0++p1++p2++p3,x.block<W.heap.size:=λx hx=>hW'.lt x (by simpa using hx)
 refine⟨_,rfl,[d0,d1,d2,d3],[],p0++p1++p2++p3++[],[],p0++p1++p2++p3,[],hW',trodAll_mk1 (shut_bool Tryz.underlying4 true),Py Tryz.laidOut hw hA2 ?_ hlt (λx hx=>by simpa using hlt x hx),rfl,hw.frame _,λh=>by cases h⟩
 intro t ht
 have ht2:t=27\/t=3\/t=25\/t=25:=by
  have:Tryz.f3.params.toList=[27,3,25,25]:=rfl
  rw[this] at ht
  simpa using ht
 rcases ht2 with rfl|rfl|rfl|rfl
 ·exact⟨by kernel_rfl,of_decide_eq_true (by kernel_rfl)⟩
 ·exact⟨by kernel_rfl,of_decide_eq_true (by kernel_rfl)⟩
 ·exact⟨by kernel_rfl,of_decide_eq_true (by kernel_rfl)⟩
 ·exact⟨by kernel_rfl,of_decide_eq_true (by kernel_rfl)⟩
theorem afP:(Rows.vickreyTruthfulRow.inPlace==Tryz.pinned.checked.prog.inPlace 3)=true:=by kernel_rfl
theorem afQ:(Rows.vickreyTruthfulRow.unfollowed==Tryz.pinned.checked.prog.unfollowed 3)=true:=by kernel_rfl
theorem afR:(Rows.vickreyTruthfulRow.recurses==Tryz.pinned.checked.prog.recurses 3)=true:=by kernel_rfl
theorem afS:(Rows.vickreyTruthfulRow.named==Tryz.pinned.checked.prog.varsNamed 3)=true:=by kernel_rfl
theorem afT:joinedFacts Tryz.pinned.checked.prog 3 Tryz.f3 Rows.vickreyTruthfulSpec Rows.vickreyTruthfulRow=true:=by
 simp only[joinedFacts,afP,afQ,afR,afS,Bool.true_and,Bool.and_true]
 kernel_rfl
theorem truthful_holds:Rows.VickreyTruthfulSaid:=
 OpenClaim.holds_of_wide 3 Tryz.f3 rfl rfl rfl rfl rfl rfl rfl ⟨rfl,rfl,rfl,rfl,rfl⟩ rfl rfl rfl rfl rfl (by kernel_rfl) Tryz.func3 afT
  (of_decide_eq_true (by kernel_rfl)) (by unfold Func.isWrapper;first|(rw[if_pos (by decide+kernel)];kernel_rfl)|(rw[if_neg (by decide+kernel)];exact⟨rfl,rfl⟩))
  (λos started H enc _=>afN os started H enc)
#print axioms truthful_holds
end Go.Proofs.YtjcmncmajmoiiaaGreat
