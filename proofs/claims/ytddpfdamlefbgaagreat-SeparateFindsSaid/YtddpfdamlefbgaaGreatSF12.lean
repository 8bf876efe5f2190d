/-
  The statement SeparateFinds holds.
  Conditions: none.
-/
import Derived.Test.YtddpfdamlefbgaaGreatSF06
import Derived.Test.YtddpfdamlefbgaaGreatSF10
import Derived.Test.YtddpfdamlefbgaaGreatSF11
import Derived.Test.YtddpfdamlefbgaaGreatRows
import Derived.ProofKit
set_option maxRecDepth 100000
set_option maxHeartbeats 4000000
set_option linter.all false
namespace Go.Proofs.YtddpfdamlefbgaaGreat
open Go.ChangeShapes Go.WideShapes Go.ChangeAt Go.RowKit Go.Vi
theorem finds_lifted (os:Os) (started:os.Started) (H:Type) (enc:TypeId×Value→H):
  ReturnsInHanded {} Tryz.checked os 3 .any (Rows.separateFindsSpec.pre6 enc Tryz.prog Tryz.f3 Rows.separateFindsRow.domain false) (Rows.separateFindsSpec.post enc Tryz.prog Tryz.f3 false true false false):=by
 refine returnsInHanded_of_change (C:=Tryz.checked) Tryz.own started (by kernel_rfl) Tryz.func3
  (ChangeSpec.witness6 (enc:=enc) (C:=Tryz.checked) false ⟨#[],#[.agg #[.int .i64 0,.int .i64 0,.int .i64 0,.int .i64 0,.int .i64 0,.int .i64 0,.int .i64 0,.int .i64 0,.int .i64 0,.int .i64 0,.int .i64 0,.int .i64 0,.int .i64 0,.int .i64 0,.int .i64 0,.int .i64 0,.int .i64 0,.int .i64 0,.slice none 0 0,.slice none 0 0],.agg #[.slice none 0 0,.int .i64 0],.slice none 0 0],[]⟩ 8 (by kernel_rfl) (by kernel_rfl) (by kernel_rfl) (by kernel_rfl)) ?_
 intro W base args ds gs before hval0 hW hcnd _
 have hval:∀(j:Nat) t v,Tryz.f3.params[j]?=some t→args[j]?=some v→Value.okWide Tryz.prog W .any base t v:=hval0
 have hW':=hW
 obtain⟨p,q,hA0,hV,rfl,hfz,hnd⟩:=hW
 have hA:DataW.TrodAll enc Tryz.prog W 0 (fun _=>true) true Tryz.f3.params.toList args.toList ds p:=hA0
 have hA2:=hA
 rw[Tryz.params3] at hA hval
 obtain⟨v0,v1,v2,d0,d1,d2,p0,p1,p2,rfl,rfl,rfl,⟨n0,h0⟩,⟨n1,h1⟩,⟨n2,h2⟩⟩:=trodAll_three hA
 obtain⟨rfl,rfl⟩:=trodVars_none hV
 obtain⟨c0,rfl,e0⟩:=agg_cells Tryz.underlying27 (hval 0 27 v0 rfl rfl)
 rw[e0] at h0
 obtain⟨a0,r0⟩:=rd_prob h0
 obtain⟨c1,rfl,e1⟩:=agg_cells Tryz.underlying29 (hval 1 29 v1 rfl rfl)
 rw[e1] at h1
 obtain⟨a1,b1,r1⟩:=rd_allocQ h1
 rw[cell_slice Tryz.underlying30 (hval 2 30 v2 rfl rfl)] at h2
 obtain⟨w2,a2,e2,b2,g2,r2⟩:=rd_pays h2
 have hw2:v2=w2:=by simpa using e2
 subst hw2
 have hcall:=law_calls (W:=W) (f:=3) (args:=r536.A.put (a0,a1,a2)) (h536 (a0,a1,a2) ⟨fun r hr=>(g2 r hr).2,trivial⟩).2 (vs:=[.agg c0,.agg c1,v2]) ⟨_,_,rfl,⟨c0,rfl,r0⟩,_,_,rfl,⟨c1,rfl,r1⟩,_,_,rfl,r2,rfl⟩
 refine hcall.mono fun e W' ⟨he,hw⟩=>?_
 subst he
 have hlt:∀x∈p0++p1++p2,x.block<W.heap.size:=fun x hx=>hW'.lt x (by simpa using hx)
 refine⟨_,rfl,[d0,d1,d2],[],p0++p1++p2++[],[],p0++p1++p2,[],hW',trodAll_mk1 (shut_bool Tryz.underlying4 true),stays_all Tryz.laidOut hw hA2 ?_ hlt (fun x hx=>by simpa using hlt x hx),rfl,hw.frame _,fun h=>by cases h⟩
 intro t ht
 have ht2:t=27∨t=29∨t=30:=by
  have:Tryz.f3.params.toList=[27,29,30]:=rfl
  rw[this] at ht
  simpa using ht
 rcases ht2 with rfl|rfl|rfl
 ·exact⟨by kernel_rfl,of_decide_eq_true (by kernel_rfl)⟩
 ·exact⟨by kernel_rfl,of_decide_eq_true (by kernel_rfl)⟩
 ·exact⟨by kernel_rfl,of_decide_eq_true (by kernel_rfl)⟩
theorem finds_j1:(Rows.separateFindsRow.inPlace==Tryz.pinned.checked.prog.inPlace 3)=true:=by kernel_rfl
theorem finds_j2:(Rows.separateFindsRow.unfollowed==Tryz.pinned.checked.prog.unfollowed 3)=true:=by kernel_rfl
theorem finds_j3:(Rows.separateFindsRow.recurses==Tryz.pinned.checked.prog.recurses 3)=true:=by kernel_rfl
theorem finds_j4:(Rows.separateFindsRow.named==Tryz.pinned.checked.prog.varsNamed 3)=true:=by kernel_rfl
theorem finds_closed:joinedFacts Tryz.pinned.checked.prog 3 Tryz.f3 Rows.separateFindsSpec Rows.separateFindsRow=true:=by
 simp only[joinedFacts,finds_j1,finds_j2,finds_j3,finds_j4,Bool.true_and,Bool.and_true]
 kernel_rfl
theorem finds_holds:Rows.SeparateFindsSaid:=
 OpenClaim.holds_of_wide 3 Tryz.f3 rfl rfl rfl rfl rfl rfl rfl ⟨rfl,rfl,rfl,rfl,rfl⟩ rfl rfl rfl rfl rfl (by kernel_rfl) Tryz.func3 finds_closed
  (of_decide_eq_true (by kernel_rfl)) (by unfold Func.isWrapper;first|(rw[if_pos (by decide+kernel)];kernel_rfl)|(rw[if_neg (by decide+kernel)];exact⟨rfl,rfl⟩))
  (fun os started H enc _=>finds_lifted os started H enc)
#print axioms finds_holds
end Go.Proofs.YtddpfdamlefbgaaGreat
