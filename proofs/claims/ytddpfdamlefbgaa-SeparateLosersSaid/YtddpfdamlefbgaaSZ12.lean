/-
  The statements hold.
  Conditions: none.
-/
import Derived.Test.YtddpfdamlefbgaaSZ06
import Derived.Test.YtddpfdamlefbgaaSZ10
import Derived.Test.YtddpfdamlefbgaaRows
import Derived.ProofKit
import Derived.Carry
import Derived.Test.YtddpfdamlefbgaaSZ11
set_option maxRecDepth 100000
set_option maxHeartbeats 4000000
set_option linter.all false
namespace Go.Proofs.Ytddpfdamlefbgaa
open Go.ChangeShapes Go.WideShapes Go.ChangeAt Go.RowKit Go.Vi
theorem nil_lifted (os:Os) (started:os.Started) (H:Type) (enc:TypeId×Value→H):
  ReturnsInHanded {} Try.checked os 5 .any (Rows.separateNilSpec.pre6 enc Try.prog Try.f5 Rows.separateNilRow.domain false) (Rows.separateNilSpec.post enc Try.prog Try.f5 false true false false):=by
 refine returnsInHanded_of_change (C:=Try.checked) Try.own started (by kernel_rfl) Try.func5
  (ChangeSpec.witness6 (enc:=enc) (C:=Try.checked) false ⟨#[],#[.slice none 0 0],[]⟩ 8 (by kernel_rfl) (by kernel_rfl) (by kernel_rfl) (by kernel_rfl)) ?_
 intro W base args ds gs before hval0 hW hcnd _
 have hval:∀(j:Nat) t v,Try.f5.params[j]?=some t→args[j]?=some v→Value.okWide Try.prog W .any base t v:=hval0
 have hW':=hW
 obtain⟨p,q,hA0,hV,rfl,hfz,hnd⟩:=hW
 have hA:DataW.TrodAll enc Try.prog W 0 (fun _=>true) true Try.f5.params.toList args.toList ds p:=hA0
 have hA2:=hA
 rw[Try.params5] at hA hval
 obtain⟨v0,d0,rfl,rfl,n0,h0⟩:=trodAll_one hA
 obtain⟨rfl,rfl⟩:=trodVars_none hV
 rw[cell_slice Try.underlying30 (hval 0 30 v0 rfl rfl)] at h0
 obtain⟨w0,a0,e0,b0,g0,r0⟩:=rd_pay h0
 have hw0:v0=w0:=by simpa using e0
 subst hw0
 have hcall:=law_calls (W:=W) (f:=5) (args:=r510.A.put (a0)) (h510 (a0) trivial).2 (vs:=[v0]) ⟨_,_,rfl,r0,rfl⟩
 refine hcall.mono fun e W' ⟨he,hw⟩=>?_
 subst he
 have hlt:∀x∈p,x.block<W.heap.size:=fun x hx=>hW'.lt x (by simpa using hx)
 refine⟨_,rfl,[d0],[],p++[],[],p,[],hW',trodAll_mk1 (shut_bool Try.underlying4 true),stays_all Try.laidOut hw hA2 ?_ hlt (fun x hx=>by simpa using hlt x hx),rfl,hw.frame _,fun h=>by cases h⟩
 intro t ht
 have ht2:t=30:=by
  have:Try.f5.params.toList=[30]:=rfl
  rw[this] at ht
  simpa using ht
 rcases ht2 with rfl
 ·exact⟨by kernel_rfl,of_decide_eq_true (by kernel_rfl)⟩
theorem nil_j1:(Rows.separateNilRow.inPlace==Try.pinned.checked.prog.inPlace 5)=true:=by kernel_rfl
theorem nil_j2:(Rows.separateNilRow.unfollowed==Try.pinned.checked.prog.unfollowed 5)=true:=by kernel_rfl
theorem nil_j3:(Rows.separateNilRow.recurses==Try.pinned.checked.prog.recurses 5)=true:=by kernel_rfl
theorem nil_j4:(Rows.separateNilRow.named==Try.pinned.checked.prog.varsNamed 5)=true:=by kernel_rfl
theorem nil_closed:joinedFacts Try.pinned.checked.prog 5 Try.f5 Rows.separateNilSpec Rows.separateNilRow=true:=by
 simp only[joinedFacts,nil_j1,nil_j2,nil_j3,nil_j4,Bool.true_and,Bool.and_true]
 kernel_rfl
theorem nil_holds:Rows.SeparateNilSaid:=
 OpenClaim.holds_of_wide 5 Try.f5 rfl rfl rfl rfl rfl rfl rfl ⟨rfl,rfl,rfl,rfl,rfl⟩ rfl rfl rfl rfl rfl (by kernel_rfl) Try.func5 nil_closed
  (of_decide_eq_true (by kernel_rfl)) (by unfold Func.isWrapper;first|(rw[if_pos (by decide+kernel)];kernel_rfl)|(rw[if_neg (by decide+kernel)];exact⟨rfl,rfl⟩))
  (fun os started H enc _=>nil_lifted os started H enc)
#print axioms nil_holds
theorem needs29_lifted (os:Os) (started:os.Started) (H:Type) (enc:TypeId×Value→H):
  ReturnsInHanded {} Try.checked os 3 .any (Rows.separateNeedsSpec.pre6 enc Try.prog Try.f3 Rows.separateNeedsRow.domain false) (Rows.separateNeedsSpec.post enc Try.prog Try.f3 false true false false):=by
 refine returnsInHanded_of_change (C:=Try.checked) Try.own started (by kernel_rfl) Try.func3
  (ChangeSpec.witness6 (enc:=enc) (C:=Try.checked) false ⟨#[],#[.agg #[.int .i64 0,.int .i64 0,.int .i64 0,.int .i64 0,.int .i64 0,.int .i64 0,.int .i64 0,.int .i64 0,.int .i64 0,.int .i64 0,.int .i64 0,.int .i64 0,.int .i64 0,.int .i64 0,.int .i64 0,.int .i64 0,.int .i64 0,.int .i64 0,.slice none 0 0,.slice none 0 0],.agg #[.slice none 0 0,.int .i64 0],.slice none 0 0],[]⟩ 8 (by kernel_rfl) (by kernel_rfl) (by kernel_rfl) (by kernel_rfl)) ?_
 intro W base args ds gs before hval0 hW hcnd _
 have hval:∀(j:Nat) t v,Try.f3.params[j]?=some t→args[j]?=some v→Value.okWide Try.prog W .any base t v:=hval0
 have hW':=hW
 obtain⟨p,q,hA0,hV,rfl,hfz,hnd⟩:=hW
 have hA:DataW.TrodAll enc Try.prog W 0 (fun _=>true) true Try.f3.params.toList args.toList ds p:=hA0
 have hA2:=hA
 rw[Try.params3] at hA hval
 obtain⟨v0,v1,v2,d0,d1,d2,p0,p1,p2,rfl,rfl,rfl,⟨n0,h0⟩,⟨n1,h1⟩,⟨n2,h2⟩⟩:=trodAll_three hA
 obtain⟨rfl,rfl⟩:=trodVars_none hV
 obtain⟨c0,rfl,e0⟩:=agg_cells Try.underlying27 (hval 0 27 v0 rfl rfl)
 rw[e0] at h0
 obtain⟨a0,r0⟩:=rd_prob h0
 obtain⟨c1,rfl,e1⟩:=agg_cells Try.underlying29 (hval 1 29 v1 rfl rfl)
 rw[e1] at h1
 obtain⟨a1,b1,r1⟩:=rd_allocQ h1
 rw[cell_slice Try.underlying30 (hval 2 30 v2 rfl rfl)] at h2
 obtain⟨w2,a2,e2,b2,g2,r2⟩:=rd_pay h2
 have hw2:v2=w2:=by simpa using e2
 subst hw2
 have hcall:=law_calls (W:=W) (f:=3) (args:=r508.A.put (a0,a1,a2)) (h508 (a0,a1,a2) ⟨g2,trivial⟩).2 (vs:=[.agg c0,.agg c1,v2]) ⟨_,_,rfl,⟨c0,rfl,r0⟩,_,_,rfl,⟨c1,rfl,r1⟩,_,_,rfl,r2,rfl⟩
 refine hcall.mono fun e W' ⟨he,hw⟩=>?_
 subst he
 have hlt:∀x∈p0++p1++p2,x.block<W.heap.size:=fun x hx=>hW'.lt x (by simpa using hx)
 refine⟨_,rfl,[d0,d1,d2],[],p0++p1++p2++[],[],p0++p1++p2,[],hW',trodAll_mk1 (shut_bool Try.underlying4 true),stays_all Try.laidOut hw hA2 ?_ hlt (fun x hx=>by simpa using hlt x hx),rfl,hw.frame _,fun h=>by cases h⟩
 intro t ht
 have ht2:t=27∨t=29∨t=30:=by
  have:Try.f3.params.toList=[27,29,30]:=rfl
  rw[this] at ht
  simpa using ht
 rcases ht2 with rfl|rfl|rfl
 ·exact⟨by kernel_rfl,of_decide_eq_true (by kernel_rfl)⟩
 ·exact⟨by kernel_rfl,of_decide_eq_true (by kernel_rfl)⟩
 ·exact⟨by kernel_rfl,of_decide_eq_true (by kernel_rfl)⟩
theorem needs29_j1:(Rows.separateNeedsRow.inPlace==Try.pinned.checked.prog.inPlace 3)=true:=by kernel_rfl
theorem needs29_j2:(Rows.separateNeedsRow.unfollowed==Try.pinned.checked.prog.unfollowed 3)=true:=by kernel_rfl
theorem needs29_j3:(Rows.separateNeedsRow.recurses==Try.pinned.checked.prog.recurses 3)=true:=by kernel_rfl
theorem needs29_j4:(Rows.separateNeedsRow.named==Try.pinned.checked.prog.varsNamed 3)=true:=by kernel_rfl
theorem needs29_closed:joinedFacts Try.pinned.checked.prog 3 Try.f3 Rows.separateNeedsSpec Rows.separateNeedsRow=true:=by
 simp only[joinedFacts,needs29_j1,needs29_j2,needs29_j3,needs29_j4,Bool.true_and,Bool.and_true]
 kernel_rfl
theorem needs29_holds:Rows.SeparateNeedsSaid:=
 OpenClaim.holds_of_wide 3 Try.f3 rfl rfl rfl rfl rfl rfl rfl ⟨rfl,rfl,rfl,rfl,rfl⟩ rfl rfl rfl rfl rfl (by kernel_rfl) Try.func3 needs29_closed
  (of_decide_eq_true (by kernel_rfl)) (by unfold Func.isWrapper;first|(rw[if_pos (by decide+kernel)];kernel_rfl)|(rw[if_neg (by decide+kernel)];exact⟨rfl,rfl⟩))
  (fun os started H enc _=>needs29_lifted os started H enc)
#print axioms needs29_holds
theorem losers_lifted (os:Os) (started:os.Started) (H:Type) (enc:TypeId×Value→H):
  ReturnsInHanded {} Try.checked os 4 .any (Rows.separateLosersSpec.pre6 enc Try.prog Try.f4 Rows.separateLosersRow.domain false) (Rows.separateLosersSpec.post enc Try.prog Try.f4 false true false false):=by
 refine returnsInHanded_of_change (C:=Try.checked) Try.own started (by kernel_rfl) Try.func4
  (ChangeSpec.witness6 (enc:=enc) (C:=Try.checked) false ⟨#[],#[.agg #[.int .i64 0,.int .i64 0,.int .i64 0,.int .i64 0,.int .i64 0,.int .i64 0,.int .i64 0,.int .i64 0,.int .i64 0,.int .i64 0,.int .i64 0,.int .i64 0,.int .i64 0,.int .i64 0,.int .i64 0,.int .i64 0,.int .i64 0,.int .i64 0,.slice none 0 0,.slice none 0 0],.agg #[.slice none 0 0,.int .i64 0],.slice none 0 0,.agg #[.bool false,.slice none 0 0,.slice none 0 0]],[]⟩ 8 (by kernel_rfl) (by kernel_rfl) (by kernel_rfl) (by kernel_rfl)) ?_
 intro W base args ds gs before hval0 hW hcnd _
 have hval:∀(j:Nat) t v,Try.f4.params[j]?=some t→args[j]?=some v→Value.okWide Try.prog W .any base t v:=hval0
 have hW':=hW
 obtain⟨p,q,hA0,hV,rfl,hfz,hnd⟩:=hW
 have hA:DataW.TrodAll enc Try.prog W 0 (fun _=>true) true Try.f4.params.toList args.toList ds p:=hA0
 have hA2:=hA
 rw[Try.params4] at hA hval
 obtain⟨v0,v1,v2,v3,d0,d1,d2,d3,p0,p1,p2,p3,rfl,rfl,rfl,⟨n0,h0⟩,⟨n1,h1⟩,⟨n2,h2⟩,⟨n3,h3⟩⟩:=trodAll_four hA
 obtain⟨rfl,rfl⟩:=trodVars_none hV
 obtain⟨c0,rfl,e0⟩:=agg_cells Try.underlying27 (hval 0 27 v0 rfl rfl)
 rw[e0] at h0
 obtain⟨a0,r0⟩:=rd_prob h0
 obtain⟨c1,rfl,e1⟩:=agg_cells Try.underlying29 (hval 1 29 v1 rfl rfl)
 rw[e1] at h1
 obtain⟨a1,b1,r1⟩:=rd_allocQ h1
 rw[cell_slice Try.underlying30 (hval 2 30 v2 rfl rfl)] at h2
 obtain⟨w2,a2,e2,b2,g2,r2⟩:=rd_pay h2
 have hw2:v2=w2:=by simpa using e2
 subst hw2
 obtain⟨c3,rfl,e3⟩:=agg_cells Try.underlying45 (hval 3 45 v3 rfl rfl)
 rw[e3] at h3
 obtain⟨a3,b3,r3⟩:=rd_frac _ _ _ _ _ _ _ _ h3
 have hcall:=law_calls (W:=W) (f:=4) (args:=r509.A.put (a0,a1,a2,a3)) (h509 (a0,a1,a2,a3) ⟨⟨g2,b3⟩,trivial⟩).2 (vs:=[.agg c0,.agg c1,v2,.agg c3]) ⟨_,_,rfl,⟨c0,rfl,r0⟩,_,_,rfl,⟨c1,rfl,r1⟩,_,_,rfl,r2,_,_,rfl,⟨c3,rfl,r3⟩,rfl⟩
 refine hcall.mono fun e W' ⟨he,hw⟩=>?_
 subst he
 have hlt:∀x∈p0++p1++p2++p3,x.block<W.heap.size:=fun x hx=>hW'.lt x (by simpa using hx)
 refine⟨_,rfl,[d0,d1,d2,d3],[],p0++p1++p2++p3++[],[],p0++p1++p2++p3,[],hW',trodAll_mk1 (shut_bool Try.underlying4 true),stays_all Try.laidOut hw hA2 ?_ hlt (fun x hx=>by simpa using hlt x hx),rfl,hw.frame _,fun h=>by cases h⟩
 intro t ht
 have ht2:t=27∨t=29∨t=30∨t=45:=by
  have:Try.f4.params.toList=[27,29,30,45]:=rfl
  rw[this] at ht
  simpa using ht
 rcases ht2 with rfl|rfl|rfl|rfl
 ·exact⟨by kernel_rfl,of_decide_eq_true (by kernel_rfl)⟩
 ·exact⟨by kernel_rfl,of_decide_eq_true (by kernel_rfl)⟩
 ·exact⟨by kernel_rfl,of_decide_eq_true (by kernel_rfl)⟩
 ·exact⟨by kernel_rfl,of_decide_eq_true (by kernel_rfl)⟩
theorem losers_j1:(Rows.separateLosersRow.inPlace==Try.pinned.checked.prog.inPlace 4)=true:=by kernel_rfl
theorem losers_j2:(Rows.separateLosersRow.unfollowed==Try.pinned.checked.prog.unfollowed 4)=true:=by kernel_rfl
theorem losers_j3:(Rows.separateLosersRow.recurses==Try.pinned.checked.prog.recurses 4)=true:=by kernel_rfl
theorem losers_j4:(Rows.separateLosersRow.named==Try.pinned.checked.prog.varsNamed 4)=true:=by kernel_rfl
theorem losers_closed:joinedFacts Try.pinned.checked.prog 4 Try.f4 Rows.separateLosersSpec Rows.separateLosersRow=true:=by
 simp only[joinedFacts,losers_j1,losers_j2,losers_j3,losers_j4,Bool.true_and,Bool.and_true]
 kernel_rfl
theorem losers_holds:Rows.SeparateLosersSaid:=
 OpenClaim.holds_of_wide 4 Try.f4 rfl rfl rfl rfl rfl rfl rfl ⟨rfl,rfl,rfl,rfl,rfl⟩ rfl rfl rfl rfl rfl (by kernel_rfl) Try.func4 losers_closed
  (of_decide_eq_true (by kernel_rfl)) (by unfold Func.isWrapper;first|(rw[if_pos (by decide+kernel)];kernel_rfl)|(rw[if_neg (by decide+kernel)];exact⟨rfl,rfl⟩))
  (fun os started H enc _=>losers_lifted os started H enc)
#print axioms losers_holds
end Go.Proofs.Ytddpfdamlefbgaa
