/-
  The statement WinnerChecks holds, where what it reads is of bulk at most 1048576.
  Conditions: none.
-/
import Derived.Test.YtlphnffeeefcdaaGreatWC15
import Derived.JoinedCond
import Derived.ProofKit
set_option maxRecDepth 100000
set_option maxHeartbeats 4000000
set_option linter.all false
namespace Go.Proofs.YtlphnffeeefcdaaGreat
open Go.ChangeShapes Go.WideShapes Go.ChangeAt Go.RowKit Go.Vi
theorem agj (os:Os) (started:os.Started) (H:Type) (enc:TypeId×Value->H) (F:Stop.Interp):
  ReturnsInHanded {} Tryz.checked os 5 .any ((Rows.OpenSpec.upto Rows.winnerChecksSpec).pre6 enc Tryz.prog Tryz.f5 Rows.winnerChecksUptoRow.domain false) (((Rows.OpenSpec.upto Rows.winnerChecksSpec).at F).post enc Tryz.prog Tryz.f5 false true false false):=by
 refine returnsInHanded_of_cond (C:=Tryz.checked) (s:=Rows.OpenSpec.upto Rows.winnerChecksSpec) (k:=Rows.uptoSmall) rfl Tryz.own started (by kernel_rfl) Tryz.func5
  (OpenSpec.witness (enc:=enc) (C:=Tryz.checked) (s:=Rows.OpenSpec.upto Rows.winnerChecksSpec) (k:=Rows.uptoSmall) rfl false ⟨#[],#[.agg #[.int .i64 0,.int .i64 0,.int .i64 0,.int .i64 0,.int .i64 0,.int .i64 0,.int .i64 0,.int .i64 0,.int .i64 0,.int .i64 0,.int .i64 0,.int .i64 0,.int .i64 0,.int .i64 0,.int .i64 0,.int .i64 0,.int .i64 0,.int .i64 0,.slice none 0 0,.slice none 0 0],.agg #[.slice none 0 0,.int .i64 0],.slice none 0 0],[]⟩ 8 (by kernel_rfl) (by kernel_rfl) (by kernel_rfl) (x:=([.agg [.agg [.lit (.int .i64 0),.lit (.int .i64 0),.lit (.int .i64 0),.lit (.int .i64 0),.lit (.int .i64 0),.lit (.int .i64 0)],.agg [.lit (.int .i64 0),.lit (.int .i64 0),.lit (.int .i64 0),.lit (.int .i64 0),.lit (.int .i64 0),.lit (.int .i64 0)],.agg [.lit (.int .i64 0),.lit (.int .i64 0),.lit (.int .i64 0),.lit (.int .i64 0),.lit (.int .i64 0),.lit (.int .i64 0)],.nil,.nil],.agg [.nil,.lit (.int .i64 0)],.nil],[],[])) (by kernel_rfl) rfl (by kernel_rfl)) ?_;intro W base args ds gs before hval0 hW hcnd hk _;have hval:∀(j:Nat) t v,Tryz.f5.params[j]?=some t->args[j]?=some v->Value.okWide Tryz.prog W .any base t v:=hval0;have hW':=hW;obtain⟨p,q,hA0,hV,rfl,hfz,hnd⟩:=hW;have hA:DataW.TrodAll enc Tryz.prog W 0 (λ_=>true) true Tryz.f5.params.toList args.toList ds p:=hA0;have hA2:=hA;rw[Tryz.params5] at hA hval;obtain⟨v0,v1,v2,d0,d1,d2,p0,p1,p2,rfl,rfl,rfl,⟨n0,h0⟩,⟨n1,h1⟩,⟨n2,h2⟩⟩:=trodAll_three hA;obtain⟨rfl,rfl⟩:=trodVars_none hV;obtain⟨c0,rfl,e0⟩:=P9 Tryz.underlying27 (hval 0 27 v0 rfl rfl);rw[e0] at h0;obtain⟨a0,r0⟩:=Z3 h0;obtain⟨c1,rfl,e1⟩:=P9 Tryz.underlying31 (hval 1 31 v1 rfl rfl);rw[e1] at h1;obtain⟨a1,b1,r1⟩:=Z7 h1;rw[ZH Tryz.underlying33 (hval 2 33 v2 rfl rfl)] at h2;obtain⟨w2,a2,e2,b2,q2,z2,r2⟩:=agi h2;have hw2:v2=w2:=by simpa using e2
 subst hw2;have s2:Bw a2<=1048576:=by
  have hk2:=of_decide_eq_true hk;simp only[List.append_nil,Rows.uptoBulkAll] at hk2;simp only at z2;omega
 have hcall:=Z4 (W:=W) (f:=5) (args:=M4.A.put (a0,a1,a2)) (h461 (a0,a1,a2) ⟨b1,b2,q2,s2⟩).2 (vs:=[.agg c0,.agg c1,v2]) ⟨_,_,rfl,⟨c0,rfl,r0⟩,_,_,rfl,⟨c1,rfl,r1⟩,_,_,rfl,r2,rfl⟩;refine hcall.mono λe W' ⟨he,hw⟩=>?_;subst he;have hlt:∀x∈p0++p1++p2,x.block<W.heap.size:=λx hx=>hW'.lt x (by simpa using hx);refine⟨_,rfl,[d0,d1,d2],[],p0++p1++p2++[],[],p0++p1++p2,[],hW',trodAll_mk1 (shut_bool Tryz.underlying4 true),Qa Tryz.laidOut hw hA2 ?_ hlt (λx hx=>by simpa using hlt x hx),rfl,hw.frame _,λh=>by cases h⟩;intro t ht;have ht2:t=27\/t=31\/t=33:=by
  have:Tryz.f5.params.toList=[27,31,33]:=rfl;rw[this] at ht;simpa using ht
 rcases ht2 with rfl|rfl|rfl;·exact⟨by kernel_rfl,of_decide_eq_true (by kernel_rfl)⟩
 ·exact⟨by kernel_rfl,of_decide_eq_true (by kernel_rfl)⟩
 ·exact⟨by kernel_rfl,of_decide_eq_true (by kernel_rfl)⟩
theorem agl:(Rows.winnerChecksUptoRow.inPlace==Tryz.pinned.checked.prog.inPlace 5)=true:=by kernel_rfl
theorem agm:(Rows.winnerChecksUptoRow.unfollowed==Tryz.pinned.checked.prog.unfollowed 5)=true:=by kernel_rfl
theorem agn:(Rows.winnerChecksUptoRow.recurses==Tryz.pinned.checked.prog.recurses 5)=true:=by kernel_rfl
theorem agp:(Rows.winnerChecksUptoRow.named==Tryz.pinned.checked.prog.varsNamed 5)=true:=by kernel_rfl
theorem agq:joinedFacts Tryz.pinned.checked.prog 5 Tryz.f5 (Rows.OpenSpec.upto Rows.winnerChecksSpec).bare Rows.winnerChecksUptoRow=true:=by
 simp only[joinedFacts,agl,agm,agn,agp,Bool.true_and,Bool.and_true];kernel_rfl
theorem wchk_holds:Rows.WinnerChecksUptoSaid:=
 OpenClaim.holds_of_cond 5 Tryz.f5 rfl rfl rfl rfl rfl rfl rfl ⟨rfl,rfl,rfl,rfl,rfl⟩ rfl rfl rfl rfl rfl (by kernel_rfl) Tryz.func5 agq
  (of_decide_eq_true (by kernel_rfl)) (by unfold Func.isWrapper;first|(rw[if_pos (by decide+kernel)];kernel_rfl)|(rw[if_neg (by decide+kernel)];exact⟨rfl,rfl⟩))
  (λos started H enc _ F=>agj os started H enc F)
#print axioms wchk_holds
end Go.Proofs.YtlphnffeeefcdaaGreat
