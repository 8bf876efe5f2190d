/-
  The statements BranchOptimal, BranchBetter, BranchNever, BranchAgrees and BranchValue hold.
  Conditions: none.
-/
import Derived.Test.YtgejbpobaicgfaaGreatBX06
import Derived.Test.YtgejbpobaicgfaaGreatBX14
import Derived.Test.YtgejbpobaicgfaaGreatRows
import Derived.ProofKit
set_option maxRecDepth 100000
set_option maxHeartbeats 4000000
set_option linter.all false
namespace Go.Proofs.YtgejbpobaicgfaaGreat
open Go.ChangeShapes Go.WideShapes Go.ChangeAt Go.RowKit Go.Vi
theorem aHP (os:Os) (b:os.Started) (H:Type) (enc:TypeId×Value->H):
  ReturnsInHanded {} Tryz.checked os 4 .any (Rows.branchOptimalSpec.pre6 enc Tryz.prog Tryz.f4 Rows.branchOptimalRow.domain false) (Rows.branchOptimalSpec.post enc Tryz.prog Tryz.f4 false true false false):=by
 refine returnsInHanded_of_change (C:=Tryz.checked) Tryz.own b (by kernel_rfl) Tryz.func4
  (ChangeSpec.witness6 (enc:=enc) (C:=Tryz.checked) false ⟨#[],#[.agg #[.int .i64 0,.int .i64 0,.int .i64 0,.int .i64 0,.int .i64 0,.int .i64 0,.int .i64 0,.int .i64 0,.int .i64 0,.int .i64 0,.int .i64 0,.int .i64 0,.int .i64 0,.int .i64 0,.int .i64 0,.int .i64 0,.int .i64 0,.int .i64 0,.slice none 0 0,.slice none 0 0],.slice none 0 0,.int .i64 0],[]⟩ 8 (by kernel_rfl) (by kernel_rfl) (by kernel_rfl) (by kernel_rfl)) ?_
 intro W l c ds gs m d N L _
 have a:∀(j:Nat) t v,Tryz.f4.params[j]?=some t->c[j]?=some v->Value.okWide Tryz.prog W .any l t v:=d
 have k:=N
 obtain⟨p,q,o,hV,rfl,U,a3⟩:=N
 have r:DataW.TrodAll enc Tryz.prog W 0 (λ_=>true) true Tryz.f4.params.toList c.toList ds p:=o
 have s:=r
 rw[Tryz.params4] at r a
 obtain⟨v0,B,K,d0,R,d2,D,E,u,rfl,rfl,rfl,⟨n0,O⟩,⟨n1,P⟩,⟨n2,T⟩⟩:=trodAll_three r
 obtain⟨rfl,rfl⟩:=trodVars_none hV
 obtain⟨I,rfl,e0⟩:=ahF Tryz.underlying27 (a 0 27 v0 rfl rfl)
 rw[e0] at O
 obtain⟨G,S⟩:=aji O
 rw[ao4 Tryz.underlying24 (a 1 24 B rfl rfl)] at P
 obtain⟨Q,M,Z,b1,V⟩:=apf P
 have w:B=Q:=by simpa using Z
 subst w
 obtain⟨i,X⟩:=alL _ _ _ _ _ _ _ _ _ T
 have z:K= .int .i64 i:=by simpa[alx Tryz.underlying3 (a 2 3 K rfl rfl),pF] using X
 subst z
 have g:=ajj (W:=W) (f:=4) (args:=asr.A.put (G,M,i)) (h420 (G,M,i) b1).2 (vs:=[.agg I,B,.int .i64 i]) ⟨_,_,rfl,⟨I,rfl,S⟩,_,_,rfl,V,_,_,rfl,alM i,rfl⟩
 refine g.mono λe W' ⟨Y,F⟩=>?_
 subst Y
 have y:∀x∈D++E++u,x.block<W.heap.size:=λx J=>k.lt x (by simpa using J)
 refine⟨_,rfl,[d0,R,d2],[],D++E++u++[],[],D++E++u,[],k,trodAll_mk1 (shut_bool Tryz.underlying4 true),ahG Tryz.laidOut F s ?_ y (λx J=>by simp_all),rfl,F.frame _,λh=>by cases h⟩
 intro t ht
 have n:t=27\/t=24\/t=3:=by
  simp_all
 rcases n with rfl|rfl|rfl
 ·exact⟨by kernel_rfl,of_decide_eq_true (by kernel_rfl)⟩
 ·exact⟨by kernel_rfl,of_decide_eq_true (by kernel_rfl)⟩
 ·exact⟨by kernel_rfl,of_decide_eq_true (by kernel_rfl)⟩
theorem optimal_holds:Rows.BranchOptimalSaid:=
 OpenClaim.holds_of_wide 4 Tryz.f4 rfl rfl rfl rfl rfl rfl rfl ⟨rfl,rfl,rfl,rfl,rfl⟩ rfl rfl rfl rfl rfl (by kernel_rfl) Tryz.func4 (by kernel_rfl)
  (of_decide_eq_true (by kernel_rfl)) (by unfold Func.isWrapper;first|(rw[if_pos (by decide+kernel)];kernel_rfl)|(rw[if_neg (by decide+kernel)];exact⟨rfl,rfl⟩))
  (λc a H b _=>aHP c a H b)
#print axioms optimal_holds
theorem aHQ (os:Os) (started:os.Started) (H:Type) (enc:TypeId×Value->H):
  ReturnsInHanded {} Tryz.checked os 5 .any (Rows.branchBetterSpec.pre6 enc Tryz.prog Tryz.f5 Rows.branchBetterRow.domain false) (Rows.branchBetterSpec.post enc Tryz.prog Tryz.f5 false true false false):=by
 refine returnsInHanded_of_change (C:=Tryz.checked) Tryz.own started (by kernel_rfl) Tryz.func5
  (ChangeSpec.witness6 (enc:=enc) (C:=Tryz.checked) false ⟨#[],#[.agg #[.int .i64 0,.int .i64 0,.int .i64 0,.int .i64 0,.int .i64 0,.int .i64 0,.int .i64 0,.int .i64 0,.int .i64 0,.int .i64 0,.int .i64 0,.int .i64 0,.int .i64 0,.int .i64 0,.int .i64 0,.int .i64 0,.int .i64 0,.int .i64 0,.slice none 0 0,.slice none 0 0],.int .i64 0,.int .i64 0],[]⟩ 8 (by kernel_rfl) (by kernel_rfl) (by kernel_rfl) (by kernel_rfl)) ?_
 intro W base args ds gs before hval0 hW hcnd _
 have hval:∀(j:Nat) t v,Tryz.f5.params[j]?=some t->args[j]?=some v->Value.okWide Tryz.prog W .any base t v:=hval0
 have hW':=hW
 obtain⟨p,q,hA0,hV,rfl,hfz,hnd⟩:=hW
 have hA:DataW.TrodAll enc Tryz.prog W 0 (λ_=>true) true Tryz.f5.params.toList args.toList ds p:=hA0
 have hA2:=hA
 rw[Tryz.params5] at hA hval
 obtain⟨v0,v1,v2,d0,d1,d2,p0,p1,p2,rfl,rfl,rfl,⟨n0,h0⟩,⟨n1,h1⟩,⟨n2,h2⟩⟩:=trodAll_three hA
 obtain⟨rfl,rfl⟩:=trodVars_none hV
 obtain⟨c0,rfl,e0⟩:=ahF Tryz.underlying27 (hval 0 27 v0 rfl rfl)
 rw[e0] at h0
 obtain⟨a0,r0⟩:=aji h0
 rw[alx Tryz.underlying2 (hval 1 2 v1 rfl rfl)] at h1
 obtain⟨a1,b1,e1⟩:=aCR h1
 have hw1:v1= .int .i64 a1:=by simpa using e1
 subst hw1
 obtain⟨a2,e2⟩:=alL _ _ _ _ _ _ _ _ _ h2
 have hw2:v2= .int .i64 a2:=by simpa[alx Tryz.underlying3 (hval 2 3 v2 rfl rfl),pF] using e2
 subst hw2
 have hcall:=ajj (W:=W) (f:=5) (args:=asu.A.put (a0,a1,a2)) (h421 (a0,a1,a2) b1).2 (vs:=[.agg c0,.int .i64 a1,.int .i64 a2]) ⟨_,_,rfl,⟨c0,rfl,r0⟩,_,_,rfl,alM a1,_,_,rfl,alM a2,rfl⟩
 refine hcall.mono λe W' ⟨he,hw⟩=>?_
 subst he
 have hlt:∀x∈p0++p1++p2,x.block<W.heap.size:=λx hx=>hW'.lt x (by simpa using hx)
 refine⟨_,rfl,[d0,d1,d2],[],p0++p1++p2++[],[],p0++p1++p2,[],hW',trodAll_mk1 (shut_bool Tryz.underlying4 true),ahG Tryz.laidOut hw hA2 ?_ hlt (λx hx=>by simpa using hlt x hx),rfl,hw.frame _,λh=>by cases h⟩
 intro t ht
 have ht2:t=27\/t=2\/t=3:=by
  have:Tryz.f5.params.toList=[27,2,3]:=rfl
  rw[this] at ht
  simpa using ht
 rcases ht2 with rfl|rfl|rfl
 ·exact⟨by kernel_rfl,of_decide_eq_true (by kernel_rfl)⟩
 ·exact⟨by kernel_rfl,of_decide_eq_true (by kernel_rfl)⟩
 ·exact⟨by kernel_rfl,of_decide_eq_true (by kernel_rfl)⟩
theorem better_holds:Rows.BranchBetterSaid:=
 OpenClaim.holds_of_wide 5 Tryz.f5 rfl rfl rfl rfl rfl rfl rfl ⟨rfl,rfl,rfl,rfl,rfl⟩ rfl rfl rfl rfl rfl (by kernel_rfl) Tryz.func5 (by kernel_rfl)
  (of_decide_eq_true (by kernel_rfl)) (by unfold Func.isWrapper;first|(rw[if_pos (by decide+kernel)];kernel_rfl)|(rw[if_neg (by decide+kernel)];exact⟨rfl,rfl⟩))
  (λos started H enc _=>aHQ os started H enc)
#print axioms better_holds
theorem aHR (os:Os) (started:os.Started) (H:Type) (enc:TypeId×Value->H):
  ReturnsInHanded {} Tryz.checked os 6 .any (Rows.branchNeverSpec.pre6 enc Tryz.prog Tryz.f6 Rows.branchNeverRow.domain false) (Rows.branchNeverSpec.post enc Tryz.prog Tryz.f6 false true false false):=by
 refine returnsInHanded_of_change (C:=Tryz.checked) Tryz.own started (by kernel_rfl) Tryz.func6
  (ChangeSpec.witness6 (enc:=enc) (C:=Tryz.checked) false ⟨#[],#[.agg #[.int .i64 0,.int .i64 0,.int .i64 0,.int .i64 0,.int .i64 0,.int .i64 0,.int .i64 0,.int .i64 0,.int .i64 0,.int .i64 0,.int .i64 0,.int .i64 0,.int .i64 0,.int .i64 0,.int .i64 0,.int .i64 0,.int .i64 0,.int .i64 0,.slice none 0 0,.slice none 0 0],.slice none 0 0,.slice none 0 0],[]⟩ 8 (by kernel_rfl) (by kernel_rfl) (by kernel_rfl) (by kernel_rfl)) ?_
 intro W base args ds gs before hval0 hW hcnd _
 have hval:∀(j:Nat) t v,Tryz.f6.params[j]?=some t->args[j]?=some v->Value.okWide Tryz.prog W .any base t v:=hval0
 have hW':=hW
 obtain⟨p,q,hA0,hV,rfl,hfz,hnd⟩:=hW
 have hA:DataW.TrodAll enc Tryz.prog W 0 (λ_=>true) true Tryz.f6.params.toList args.toList ds p:=hA0
 have hA2:=hA
 rw[Tryz.params6] at hA hval
 obtain⟨v0,v1,v2,d0,d1,d2,p0,p1,p2,rfl,rfl,rfl,⟨n0,h0⟩,⟨n1,h1⟩,⟨n2,h2⟩⟩:=trodAll_three hA
 obtain⟨rfl,rfl⟩:=trodVars_none hV
 obtain⟨c0,rfl,e0⟩:=ahF Tryz.underlying27 (hval 0 27 v0 rfl rfl)
 rw[e0] at h0
 obtain⟨a0,r0⟩:=aji h0
 rw[ao4 Tryz.underlying24 (hval 1 24 v1 rfl rfl)] at h1
 obtain⟨w1,a1,e1,b1,r1⟩:=apf h1
 have hw1:v1=w1:=by simpa using e1
 subst hw1;rw[ao4 Tryz.underlying24 (hval 2 24 v2 rfl rfl)] at h2
 obtain⟨w2,a2,e2,b2,r2⟩:=apf h2
 have hw2:v2=w2:=by simpa using e2
 subst hw2
 have hcall:=ajj (W:=W) (f:=6) (args:=asv.A.put (a0,a1,a2)) (h422 (a0,a1,a2) ⟨b1,b2⟩).2 (vs:=[.agg c0,v1,v2]) ⟨_,_,rfl,⟨c0,rfl,r0⟩,_,_,rfl,r1,_,_,rfl,r2,rfl⟩
 refine hcall.mono λe W' ⟨he,hw⟩=>?_
 subst he
 have hlt:∀x∈p0++p1++p2,x.block<W.heap.size:=λx hx=>hW'.lt x (by simpa using hx)
 refine⟨_,rfl,[d0,d1,d2],[],p0++p1++p2++[],[],p0++p1++p2,[],hW',trodAll_mk1 (shut_bool Tryz.underlying4 true),ahG Tryz.laidOut hw hA2 ?_ hlt (λx hx=>by simpa using hlt x hx),rfl,hw.frame _,λh=>by cases h⟩
 intro t ht
 have ht2:t=27\/t=24\/t=24:=by
  have:Tryz.f6.params.toList=[27,24,24]:=rfl
  rw[this] at ht
  simpa using ht
 rcases ht2 with rfl|rfl|rfl
 ·exact⟨by kernel_rfl,of_decide_eq_true (by kernel_rfl)⟩
 ·exact⟨by kernel_rfl,of_decide_eq_true (by kernel_rfl)⟩
 ·exact⟨by kernel_rfl,of_decide_eq_true (by kernel_rfl)⟩
theorem never_holds:Rows.BranchNeverSaid:=
 OpenClaim.holds_of_wide 6 Tryz.f6 rfl rfl rfl rfl rfl rfl rfl ⟨rfl,rfl,rfl,rfl,rfl⟩ rfl rfl rfl rfl rfl (by kernel_rfl) Tryz.func6 (by kernel_rfl)
  (of_decide_eq_true (by kernel_rfl)) (by unfold Func.isWrapper;first|(rw[if_pos (by decide+kernel)];kernel_rfl)|(rw[if_neg (by decide+kernel)];exact⟨rfl,rfl⟩))
  (λos started H enc _=>aHR os started H enc)
#print axioms never_holds
theorem aHS (os:Os) (started:os.Started) (H:Type) (enc:TypeId×Value->H):
  ReturnsInHanded {} Tryz.checked os 7 .any (Rows.branchAgreesSpec.pre6 enc Tryz.prog Tryz.f7 Rows.branchAgreesRow.domain false) (Rows.branchAgreesSpec.post enc Tryz.prog Tryz.f7 false true false false):=by
 refine returnsInHanded_of_change (C:=Tryz.checked) Tryz.own started (by kernel_rfl) Tryz.func7
  (ChangeSpec.witness6 (enc:=enc) (C:=Tryz.checked) false ⟨#[],#[.agg #[.int .i64 0,.int .i64 0,.int .i64 0,.int .i64 0,.int .i64 0,.int .i64 0,.int .i64 0,.int .i64 0,.int .i64 0,.int .i64 0,.int .i64 0,.int .i64 0,.int .i64 0,.int .i64 0,.int .i64 0,.int .i64 0,.int .i64 0,.int .i64 0,.slice none 0 0,.slice none 0 0]],[]⟩ 8 (by kernel_rfl) (by kernel_rfl) (by kernel_rfl) (by kernel_rfl)) ?_
 intro W base args ds gs before hval0 hW hcnd _
 have hval:∀(j:Nat) t v,Tryz.f7.params[j]?=some t->args[j]?=some v->Value.okWide Tryz.prog W .any base t v:=hval0
 have hW':=hW
 obtain⟨p,q,hA0,hV,rfl,hfz,hnd⟩:=hW
 have hA:DataW.TrodAll enc Tryz.prog W 0 (λ_=>true) true Tryz.f7.params.toList args.toList ds p:=hA0
 have hA2:=hA
 rw[Tryz.params7] at hA hval
 obtain⟨v0,d0,rfl,rfl,n0,h0⟩:=trodAll_one hA
 obtain⟨rfl,rfl⟩:=trodVars_none hV
 obtain⟨c0,rfl,e0⟩:=ahF Tryz.underlying27 (hval 0 27 v0 rfl rfl)
 rw[e0] at h0
 obtain⟨a0,r0⟩:=aji h0
 have hcall:=ajj (W:=W) (f:=7) (args:=asw.A.put (a0)) (h423 (a0) trivial).2 (vs:=[.agg c0]) ⟨_,_,rfl,⟨c0,rfl,r0⟩,rfl⟩
 refine hcall.mono λe W' ⟨he,hw⟩=>?_
 subst he
 have hlt:∀x∈p,x.block<W.heap.size:=λx hx=>hW'.lt x (by simpa using hx)
 refine⟨_,rfl,[d0],[],p++[],[],p,[],hW',trodAll_mk1 (shut_bool Tryz.underlying4 true),ahG Tryz.laidOut hw hA2 ?_ hlt (λx hx=>by simpa using hlt x hx),rfl,hw.frame _,λh=>by cases h⟩
 intro t ht
 have ht2:t=27:=by
  have:Tryz.f7.params.toList=[27]:=rfl
  rw[this] at ht
  simpa using ht
 rcases ht2 with rfl
 ·exact⟨by kernel_rfl,of_decide_eq_true (by kernel_rfl)⟩
theorem agrees_holds:Rows.BranchAgreesSaid:=
 OpenClaim.holds_of_wide 7 Tryz.f7 rfl rfl rfl rfl rfl rfl rfl ⟨rfl,rfl,rfl,rfl,rfl⟩ rfl rfl rfl rfl rfl (by kernel_rfl) Tryz.func7 (by kernel_rfl)
  (of_decide_eq_true (by kernel_rfl)) (by unfold Func.isWrapper;first|(rw[if_pos (by decide+kernel)];kernel_rfl)|(rw[if_neg (by decide+kernel)];exact⟨rfl,rfl⟩))
  (λos started H enc _=>aHS os started H enc)
#print axioms agrees_holds
theorem aHT (os:Os) (started:os.Started) (H:Type) (enc:TypeId×Value->H):
  ReturnsInHanded {} Tryz.checked os 8 .any (Rows.branchValueSpec.pre6 enc Tryz.prog Tryz.f8 Rows.branchValueRow.domain false) (Rows.branchValueSpec.post enc Tryz.prog Tryz.f8 false true false false):=by
 refine returnsInHanded_of_change (C:=Tryz.checked) Tryz.own started (by kernel_rfl) Tryz.func8
  (ChangeSpec.witness6 (enc:=enc) (C:=Tryz.checked) false ⟨#[],#[.agg #[.int .i64 0,.int .i64 0,.int .i64 0,.int .i64 0,.int .i64 0,.int .i64 0,.int .i64 0,.int .i64 0,.int .i64 0,.int .i64 0,.int .i64 0,.int .i64 0,.int .i64 0,.int .i64 0,.int .i64 0,.int .i64 0,.int .i64 0,.int .i64 0,.slice none 0 0,.slice none 0 0],.agg #[.slice none 0 0,.int .i64 0],.int .i64 0],[]⟩ 8 (by kernel_rfl) (by kernel_rfl) (by kernel_rfl) (by kernel_rfl)) ?_
 intro W base args ds gs before hval0 hW hcnd _
 have hval:∀(j:Nat) t v,Tryz.f8.params[j]?=some t->args[j]?=some v->Value.okWide Tryz.prog W .any base t v:=hval0
 have hW':=hW
 obtain⟨p,q,hA0,hV,rfl,hfz,hnd⟩:=hW
 have hA:DataW.TrodAll enc Tryz.prog W 0 (λ_=>true) true Tryz.f8.params.toList args.toList ds p:=hA0
 have hA2:=hA
 rw[Tryz.params8] at hA hval
 obtain⟨v0,v1,v2,d0,d1,d2,p0,p1,p2,rfl,rfl,rfl,⟨n0,h0⟩,⟨n1,h1⟩,⟨n2,h2⟩⟩:=trodAll_three hA
 obtain⟨rfl,rfl⟩:=trodVars_none hV
 obtain⟨c0,rfl,e0⟩:=ahF Tryz.underlying27 (hval 0 27 v0 rfl rfl)
 rw[e0] at h0
 obtain⟨a0,r0⟩:=aji h0
 obtain⟨c1,rfl,e1⟩:=ahF Tryz.underlying37 (hval 1 37 v1 rfl rfl)
 rw[e1] at h1
 obtain⟨a1,b1,r1⟩:=aCQ h1
 obtain⟨a2,e2⟩:=alL _ _ _ _ _ _ _ _ _ h2
 have hw2:v2= .int .i64 a2:=by simpa[alx Tryz.underlying3 (hval 2 3 v2 rfl rfl),pF] using e2
 subst hw2
 have hcall:=ajj (W:=W) (f:=8) (args:=asx.A.put (a0,a1,a2)) (h424 (a0,a1,a2) b1).2 (vs:=[.agg c0,.agg c1,.int .i64 a2]) ⟨_,_,rfl,⟨c0,rfl,r0⟩,_,_,rfl,⟨c1,rfl,r1⟩,_,_,rfl,alM a2,rfl⟩
 refine hcall.mono λe W' ⟨he,hw⟩=>?_
 subst he
 have hlt:∀x∈p0++p1++p2,x.block<W.heap.size:=λx hx=>hW'.lt x (by simpa using hx)
 refine⟨_,rfl,[d0,d1,d2],[],p0++p1++p2++[],[],p0++p1++p2,[],hW',trodAll_mk1 (shut_bool Tryz.underlying4 true),ahG Tryz.laidOut hw hA2 ?_ hlt (λx hx=>by simpa using hlt x hx),rfl,hw.frame _,λh=>by cases h⟩
 intro t ht
 have ht2:t=27\/t=37\/t=3:=by
  have:Tryz.f8.params.toList=[27,37,3]:=rfl
  rw[this] at ht
  simpa using ht
 rcases ht2 with rfl|rfl|rfl
 ·exact⟨by kernel_rfl,of_decide_eq_true (by kernel_rfl)⟩
 ·exact⟨by kernel_rfl,of_decide_eq_true (by kernel_rfl)⟩
 ·exact⟨by kernel_rfl,of_decide_eq_true (by kernel_rfl)⟩
theorem value_holds:Rows.BranchValueSaid:=
 OpenClaim.holds_of_wide 8 Tryz.f8 rfl rfl rfl rfl rfl rfl rfl ⟨rfl,rfl,rfl,rfl,rfl⟩ rfl rfl rfl rfl rfl (by kernel_rfl) Tryz.func8 (by kernel_rfl)
  (of_decide_eq_true (by kernel_rfl)) (by unfold Func.isWrapper;first|(rw[if_pos (by decide+kernel)];kernel_rfl)|(rw[if_neg (by decide+kernel)];exact⟨rfl,rfl⟩))
  (λos started H enc _=>aHT os started H enc)
#print axioms value_holds
end Go.Proofs.YtgejbpobaicgfaaGreat
