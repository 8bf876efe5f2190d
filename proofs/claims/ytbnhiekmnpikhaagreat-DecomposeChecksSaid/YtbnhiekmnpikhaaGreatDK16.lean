/-
  The statement DecomposeChecks holds.
  Conditions: none.
-/
import Derived.Test.YtbnhiekmnpikhaaGreatDK06
import Derived.Test.YtbnhiekmnpikhaaGreatDK12
import Derived.Carry
import Derived.Test.YtbnhiekmnpikhaaGreatDK15
import Derived.Test.YtbnhiekmnpikhaaGreatRows
import Derived.ProofKit
set_option maxRecDepth 100000
set_option maxHeartbeats 4000000
set_option linter.all false
namespace Go.Proofs.YtbnhiekmnpikhaaGreat
open Go.ChangeShapes Go.WideShapes Go.ChangeAt Go.RowKit Go.Vi
theorem ahK (os:Os) (started:os.Started) (H:Type) (enc:TypeId×Value->H):
  ReturnsInHanded {} Tryz.checked os 8 .any (Rows.decomposeChecksSpec.pre6 enc Tryz.prog Tryz.f8 Rows.decomposeChecksRow.domain false) (Rows.decomposeChecksSpec.post enc Tryz.prog Tryz.f8 false true false false):=by
 refine returnsInHanded_of_change (C:=Tryz.checked) Tryz.own started (by kernel_rfl) Tryz.func8
  (ChangeSpec.witness6 (enc:=enc) (C:=Tryz.checked) false ⟨#[],#[.agg #[.int .i64 0,.int .i64 0,.int .i64 0,.int .i64 0,.int .i64 0,.int .i64 0,.int .i64 0,.int .i64 0,.int .i64 0,.int .i64 0,.int .i64 0,.int .i64 0,.int .i64 0,.int .i64 0,.int .i64 0,.int .i64 0,.int .i64 0,.int .i64 0,.slice none 0 0,.slice none 0 0],.int .u8 0,.int .u8 0,.int .i8 0],[]⟩ 8 (by kernel_rfl) (by kernel_rfl) (by kernel_rfl) (by kernel_rfl)) ?_;intro W base args ds gs before hval0 hW hcnd _;have hval:∀(j:Nat) t v,Tryz.f8.params[j]?=some t->args[j]?=some v->Value.okWide Tryz.prog W .any base t v:=hval0;have hW':=hW;obtain⟨p,q,hA0,hV,rfl,hfz,hnd⟩:=hW;have hA:DataW.TrodAll enc Tryz.prog W 0 (λ_=>true) true Tryz.f8.params.toList args.toList ds p:=hA0;have hA2:=hA;rw[Tryz.params8] at hA hval;obtain⟨v0,v1,v2,v3,d0,d1,d2,d3,p0,p1,p2,p3,rfl,rfl,rfl,⟨n0,h0⟩,⟨n1,h1⟩,⟨n2,h2⟩,⟨n3,h3⟩⟩:=trodAll_four hA;obtain⟨rfl,rfl⟩:=trodVars_none hV;obtain⟨c0,rfl,e0⟩:=ZZ Tryz.underlying27 (hval 0 27 v0 rfl rfl);rw[e0] at h0;obtain⟨a0,r0⟩:=aao h0;rw[HH Tryz.underlying5 (hval 1 5 v1 rfl rfl)] at h1;obtain⟨a1,b1,e1⟩:=Qc h1;have hw1:v1= .int .u8 a1:=by simpa using e1
 subst hw1;rw[HH Tryz.underlying5 (hval 2 5 v2 rfl rfl)] at h2;obtain⟨a2,b2,e2⟩:=Qc h2;have hw2:v2= .int .u8 a2:=by simpa using e2
 subst hw2;rw[HH Tryz.underlying58 (hval 3 58 v3 rfl rfl)] at h3;obtain⟨a3,b3,e3⟩:=aeI h3;have hw3:v3= .int .i8 a3:=by simpa using e3
 subst hw3;have hcall:=aap (W:=W) (f:=8) (args:=MN.A.put (a0,a1,a2,a3)) (h548 (a0,a1,a2,a3) ⟨b1,b2,b3⟩).2 (vs:=[.agg c0,.int .u8 a1,.int .u8 a2,.int .i8 a3]) ⟨_,_,rfl,⟨c0,rfl,r0⟩,_,_,rfl,Qd a1,_,_,rfl,Qd a2,_,_,rfl,aeJ a3,rfl⟩;refine hcall.mono λe W' ⟨he,hw⟩=>?_;subst he;have hlt:∀x∈p0++p1++p2++p3,x.block<W.heap.size:=λx hx=>hW'.lt x (by simpa using hx);refine⟨_,rfl,[d0,d1,d2,d3],[],p0++p1++p2++p3++[],[],p0++p1++p2++p3,[],hW',trodAll_mk1 (shut_bool Tryz.underlying4 true),P4 Tryz.laidOut hw hA2 ?_ hlt (λx hx=>by simpa using hlt x hx),rfl,hw.frame _,λh=>by cases h⟩;intro t ht;have ht2:t=27\/t=5\/t=5\/t=58:=by
  have:Tryz.f8.params.toList=[27,5,5,58]:=rfl;rw[this] at ht;simpa using ht
 rcases ht2 with rfl|rfl|rfl|rfl;·exact⟨by kernel_rfl,of_decide_eq_true (by kernel_rfl)⟩
 ·exact⟨by kernel_rfl,of_decide_eq_true (by kernel_rfl)⟩
 ·exact⟨by kernel_rfl,of_decide_eq_true (by kernel_rfl)⟩
 ·exact⟨by kernel_rfl,of_decide_eq_true (by kernel_rfl)⟩
theorem ahM:(Rows.decomposeChecksRow.inPlace==Tryz.pinned.checked.prog.inPlace 8)=true:=by kernel_rfl
theorem ahN:(Rows.decomposeChecksRow.unfollowed==Tryz.pinned.checked.prog.unfollowed 8)=true:=by kernel_rfl
theorem ahO:(Rows.decomposeChecksRow.recurses==Tryz.pinned.checked.prog.recurses 8)=true:=by kernel_rfl
theorem ahP:(Rows.decomposeChecksRow.named==Tryz.pinned.checked.prog.varsNamed 8)=true:=by kernel_rfl
theorem ahQ:joinedFacts Tryz.pinned.checked.prog 8 Tryz.f8 Rows.decomposeChecksSpec Rows.decomposeChecksRow=true:=by
 simp only[joinedFacts,ahM,ahN,ahO,ahP,Bool.true_and,Bool.and_true];kernel_rfl
theorem dchk_holds:Rows.DecomposeChecksSaid:=
 OpenClaim.holds_of_wide 8 Tryz.f8 rfl rfl rfl rfl rfl rfl rfl ⟨rfl,rfl,rfl,rfl,rfl⟩ rfl rfl rfl rfl rfl (by kernel_rfl) Tryz.func8 ahQ
  (of_decide_eq_true (by kernel_rfl)) (by unfold Func.isWrapper;first|(rw[if_pos (by decide+kernel)];kernel_rfl)|(rw[if_neg (by decide+kernel)];exact⟨rfl,rfl⟩))
  (λos started H enc _=>ahK os started H enc)
#print axioms dchk_holds
end Go.Proofs.YtbnhiekmnpikhaaGreat
