import Derived.Test.YtbnhiekmnpikhaaGreatDW08
set_option maxRecDepth 100000
set_option maxHeartbeats 4000000
set_option linter.all false
namespace Go.Proofs.YtbnhiekmnpikhaaGreat
open Go.ChangeShapes Go.WideShapes Go.ChangeAt Go.RowKit Go.Vi
theorem Sa (os:Os) (started:os.Started) (H:Type) (enc:TypeId×Value->H):
  ReturnsInHanded {} Tryz.checked os 9 .any (Rows.decomposeWorthSpec.pre6 enc Tryz.prog Tryz.f9 Rows.decomposeWorthRow.domain false) (Rows.decomposeWorthSpec.post enc Tryz.prog Tryz.f9 false true false false):=by
 refine returnsInHanded_of_change (C:=Tryz.checked) Tryz.own started (by kernel_rfl) Tryz.func9
  (ChangeSpec.witness6 (enc:=enc) (C:=Tryz.checked) false ⟨#[],#[.agg #[.int .i64 0,.int .i64 0,.int .i64 0,.int .i64 0,.int .i64 0,.int .i64 0,.int .i64 0,.int .i64 0,.int .i64 0,.int .i64 0,.int .i64 0,.int .i64 0,.int .i64 0,.int .i64 0,.int .i64 0,.int .i64 0,.int .i64 0,.int .i64 0,.slice none 0 0,.slice none 0 0]],[]⟩ 8 (by kernel_rfl) (by kernel_rfl) (by kernel_rfl) (by kernel_rfl)) ?_;intro W base args D gs before b r w _;have a:∀(j:Nat) t v,Tryz.f9.params[j]?=some t->args[j]?=some v->Value.okWide Tryz.prog W .any base t v:=b;have g:=r;obtain⟨p,q,n,z,rfl,F,E⟩:=r;have k:DataW.TrodAll enc Tryz.prog W 0 (λ_=>true) true Tryz.f9.params.toList args.toList D p:=n;have m:=k;rw[Tryz.params9] at k a;obtain⟨v0,d0,rfl,rfl,n0,s⟩:=trodAll_one k;obtain⟨rfl,rfl⟩:=trodVars_none z;obtain⟨u,rfl,B⟩:=X9 Tryz.underlying27 (a 0 27 v0 rfl rfl);rw[B] at s;obtain⟨a0,y⟩:=Yw s;have c:=Yv (W:=W) (f:=9) (args:=Dx.A.put (a0)) (It (a0) trivial).2 (vs:=[.agg u]) ⟨_,_,rfl,⟨u,rfl,y⟩,rfl⟩;refine c.mono λe G ⟨he,hw⟩=>?_;subst he;have d:∀x∈p,x.block<W.heap.size:=λx i=>g.lt x (by simpa using i);refine⟨_,rfl,[d0],[],p++[],[],p,[],g,trodAll_mk1 (shut_bool Tryz.underlying4 true),Oa Tryz.laidOut hw m ?_ d (λx i=>by simpa using d x i),rfl,hw.frame _,λh=>by cases h⟩;intro t o;have l:t=27:=by have:Tryz.f9.params.toList=[27]:=rfl;rw[this] at o;simpa using o
 rcases l with rfl;·exact⟨by kernel_rfl,of_decide_eq_true (by kernel_rfl)⟩
theorem R_:(Rows.decomposeWorthRow.inPlace==Tryz.pinned.checked.prog.inPlace 9)=true:=by kernel_rfl
theorem R9:(Rows.decomposeWorthRow.unfollowed==Tryz.pinned.checked.prog.unfollowed 9)=true:=by kernel_rfl
theorem RC:(Rows.decomposeWorthRow.recurses==Tryz.pinned.checked.prog.recurses 9)=true:=by kernel_rfl
theorem RB:(Rows.decomposeWorthRow.named==Tryz.pinned.checked.prog.varsNamed 9)=true:=by kernel_rfl
theorem RA:joinedFacts Tryz.pinned.checked.prog 9 Tryz.f9 Rows.decomposeWorthSpec Rows.decomposeWorthRow=true:=by simp only[joinedFacts,R_,R9,RC,RB,Bool.true_and,Bool.and_true];kernel_rfl
theorem dwor_holds:Rows.DecomposeWorthSaid:=
 OpenClaim.holds_of_wide 9 Tryz.f9 rfl rfl rfl rfl rfl rfl rfl ⟨rfl,rfl,rfl,rfl,rfl⟩ rfl rfl rfl rfl rfl (by kernel_rfl) Tryz.func9 RA
  (of_decide_eq_true (by kernel_rfl)) (by unfold Func.isWrapper;first|(rw[if_pos (by decide+kernel)];kernel_rfl)|(rw[if_neg (by decide+kernel)];exact⟨rfl,rfl⟩))
  (λos started H enc _=>Sa os started H enc)
#print axioms dwor_holds
end Go.Proofs.YtbnhiekmnpikhaaGreat
