/-
  The table of the functions' code.
  Conditions: none.
-/
import Derived.Test.YtigbjjkijfkeeaaVaIr
import Derived.Test.YtigbjjkijfkeeaaSxProg
import Derived.Test.YtigbjjkijfkeeaaSxF
import Derived.KernelRfl
set_option maxRecDepth 100000
namespace Go.Vi
open Go.Proofs.Ytigbjjkijfkeeaa.Ir
open Go.Proofs

structure Ent where
  f : FuncId
  F : IFn
  fn : Func
  H : List RH

def lookF (f : FuncId) : List Ent → Option IFn
  | [] => none
  | e :: r => bif Nat.beq e.f f then some e.F else lookF f r

theorem lookF_mem {f : FuncId} {F : IFn} : ∀ {l : List Ent}, lookF f l = some F → ∃ e ∈ l, e.f = f ∧ e.F = F
  | [], h => by cases h
  | e :: r, h => by
    simp only [lookF] at h
    cases hq : Nat.beq e.f f with
    | true =>
      rw [hq] at h
      simp only [cond_true, Option.some.injEq] at h
      exact ⟨e, by simp, Nat.eq_of_beq_eq_true hq, h⟩
    | false =>
      rw [hq] at h
      simp only [cond_false] at h
      obtain ⟨e', h1, h2⟩ := lookF_mem h
      exact ⟨e', by simp [h1], h2⟩

def GoodE (P : Program) (e : Ent) : Prop := P.funcs[e.f]? = some e.fn ∧ compFn P e.H e.fn = some e.F ∧ goodF P e.f = true

theorem tab0_ok {P : Program} {l : List Ent} (h : ∀ e ∈ l, GoodE P e) : TabOK P ⟨fun f => lookF f l, fun _ _ _ _ => none⟩ where
  fn := fun f F hF => by
    obtain ⟨e, h1, rfl, rfl⟩ := lookF_mem hF
    obtain ⟨h2, h3, h4⟩ := h e h1
    exact ⟨e.fn, e.H, h2, h3, h4⟩
  K := fun _ _ _ _ _ _ h => by cases h

theorem ge3 : GoodE Try.prog ⟨3, F3, Try.f3, h3⟩ := ⟨by kernel_rfl, is3, by kernel_rfl⟩
theorem ge4 : GoodE Try.prog ⟨4, F4, Try.f4, h4⟩ := ⟨by kernel_rfl, is4, by kernel_rfl⟩
theorem ge5 : GoodE Try.prog ⟨5, F5, Try.f5, h5⟩ := ⟨by kernel_rfl, is5, by kernel_rfl⟩
theorem ge6 : GoodE Try.prog ⟨6, F6, Try.f6, h6⟩ := ⟨by kernel_rfl, is6, by kernel_rfl⟩
theorem ge15 : GoodE Try.prog ⟨15, F15, Try.f15, h15⟩ := ⟨by kernel_rfl, is15, by kernel_rfl⟩
theorem ge16 : GoodE Try.prog ⟨16, F16, Try.f16, h16⟩ := ⟨by kernel_rfl, is16, by kernel_rfl⟩
theorem ge17 : GoodE Try.prog ⟨17, F17, Try.f17, h17⟩ := ⟨by kernel_rfl, is17, by kernel_rfl⟩
theorem ge18 : GoodE Try.prog ⟨18, F18, Try.f18, h18⟩ := ⟨by kernel_rfl, is18, by kernel_rfl⟩
theorem ge19 : GoodE Try.prog ⟨19, F19, Try.f19, h19⟩ := ⟨by kernel_rfl, is19, by kernel_rfl⟩
theorem ge20 : GoodE Try.prog ⟨20, F20, Try.f20, h20⟩ := ⟨by kernel_rfl, is20, by kernel_rfl⟩
theorem ge21 : GoodE Try.prog ⟨21, F21, Try.f21, h21⟩ := ⟨by kernel_rfl, is21, by kernel_rfl⟩
theorem ge22 : GoodE Try.prog ⟨22, F22, Try.f22, h22⟩ := ⟨by kernel_rfl, is22, by kernel_rfl⟩
theorem ge23 : GoodE Try.prog ⟨23, F23, Try.f23, h23⟩ := ⟨by kernel_rfl, is23, by kernel_rfl⟩
theorem ge24 : GoodE Try.prog ⟨24, F24, Try.f24, h24⟩ := ⟨by kernel_rfl, is24, by kernel_rfl⟩
theorem ge25 : GoodE Try.prog ⟨25, F25, Try.f25, h25⟩ := ⟨by kernel_rfl, is25, by kernel_rfl⟩
theorem ge26 : GoodE Try.prog ⟨26, F26, Try.f26, h26⟩ := ⟨by kernel_rfl, is26, by kernel_rfl⟩
theorem ge27 : GoodE Try.prog ⟨27, F27, Try.f27, h27⟩ := ⟨by kernel_rfl, is27, by kernel_rfl⟩
theorem ge32 : GoodE Try.prog ⟨32, F32, Try.f32, h32⟩ := ⟨by kernel_rfl, is32, by kernel_rfl⟩
theorem ge55 : GoodE Try.prog ⟨55, F55, Try.f55, h55⟩ := ⟨by kernel_rfl, is55, by kernel_rfl⟩
theorem ge58 : GoodE Try.prog ⟨58, F58, Try.f58, h58⟩ := ⟨by kernel_rfl, is58, by kernel_rfl⟩
theorem ge59 : GoodE Try.prog ⟨59, F59, Try.f59, h59⟩ := ⟨by kernel_rfl, is59, by kernel_rfl⟩
theorem ge60 : GoodE Try.prog ⟨60, F60, Try.f60, h60⟩ := ⟨by kernel_rfl, is60, by kernel_rfl⟩
theorem ge61 : GoodE Try.prog ⟨61, F61, Try.f61, h61⟩ := ⟨by kernel_rfl, is61, by kernel_rfl⟩
theorem ge62 : GoodE Try.prog ⟨62, F62, Try.f62, h62⟩ := ⟨by kernel_rfl, is62, by kernel_rfl⟩
theorem ge63 : GoodE Try.prog ⟨63, F63, Try.f63, h63⟩ := ⟨by kernel_rfl, is63, by kernel_rfl⟩
theorem ge64 : GoodE Try.prog ⟨64, F64, Try.f64, h64⟩ := ⟨by kernel_rfl, is64, by kernel_rfl⟩
theorem ge65 : GoodE Try.prog ⟨65, F65, Try.f65, h65⟩ := ⟨by kernel_rfl, is65, by kernel_rfl⟩
theorem ge66 : GoodE Try.prog ⟨66, F66, Try.f66, h66⟩ := ⟨by kernel_rfl, is66, by kernel_rfl⟩
theorem ge67 : GoodE Try.prog ⟨67, F67, Try.f67, h67⟩ := ⟨by kernel_rfl, is67, by kernel_rfl⟩
theorem ge68 : GoodE Try.prog ⟨68, F68, Try.f68, h68⟩ := ⟨by kernel_rfl, is68, by kernel_rfl⟩
theorem ge69 : GoodE Try.prog ⟨69, F69, Try.f69, h69⟩ := ⟨by kernel_rfl, is69, by kernel_rfl⟩
theorem ge70 : GoodE Try.prog ⟨70, F70, Try.f70, h70⟩ := ⟨by kernel_rfl, is70, by kernel_rfl⟩
theorem ge71 : GoodE Try.prog ⟨71, F71, Try.f71, h71⟩ := ⟨by kernel_rfl, is71, by kernel_rfl⟩
theorem ge79 : GoodE Try.prog ⟨79, F79, Try.f79, h79⟩ := ⟨by kernel_rfl, is79, by kernel_rfl⟩
theorem ge80 : GoodE Try.prog ⟨80, F80, Try.f80, h80⟩ := ⟨by kernel_rfl, is80, by kernel_rfl⟩
theorem ge100 : GoodE Try.prog ⟨100, F100, Try.f100, h100⟩ := ⟨by kernel_rfl, is100, by kernel_rfl⟩
theorem ge109 : GoodE Try.prog ⟨109, F109, Try.f109, h109⟩ := ⟨by kernel_rfl, is109, by kernel_rfl⟩
theorem ge110 : GoodE Try.prog ⟨110, F110, Try.f110, h110⟩ := ⟨by kernel_rfl, is110, by kernel_rfl⟩
theorem ge111 : GoodE Try.prog ⟨111, F111, Try.f111, h111⟩ := ⟨by kernel_rfl, is111, by kernel_rfl⟩
theorem ge112 : GoodE Try.prog ⟨112, F112, Try.f112, h112⟩ := ⟨by kernel_rfl, is112, by kernel_rfl⟩
theorem ge113 : GoodE Try.prog ⟨113, F113, Try.f113, h113⟩ := ⟨by kernel_rfl, is113, by kernel_rfl⟩
theorem ge114 : GoodE Try.prog ⟨114, F114, Try.f114, h114⟩ := ⟨by kernel_rfl, is114, by kernel_rfl⟩
theorem ge115 : GoodE Try.prog ⟨115, F115, Try.f115, h115⟩ := ⟨by kernel_rfl, is115, by kernel_rfl⟩
theorem ge116 : GoodE Try.prog ⟨116, F116, Try.f116, h116⟩ := ⟨by kernel_rfl, is116, by kernel_rfl⟩
theorem ge118 : GoodE Try.prog ⟨118, F118, Try.f118, h118⟩ := ⟨by kernel_rfl, is118, by kernel_rfl⟩
theorem ge119 : GoodE Try.prog ⟨119, F119, Try.f119, h119⟩ := ⟨by kernel_rfl, is119, by kernel_rfl⟩
theorem ge133 : GoodE Try.prog ⟨133, F133, Try.f133, h133⟩ := ⟨by kernel_rfl, is133, by kernel_rfl⟩
theorem ge134 : GoodE Try.prog ⟨134, F134, Try.f134, h134⟩ := ⟨by kernel_rfl, is134, by kernel_rfl⟩
theorem ge143 : GoodE Try.prog ⟨143, F143, Try.f143, h143⟩ := ⟨by kernel_rfl, is143, by kernel_rfl⟩
theorem ge144 : GoodE Try.prog ⟨144, F144, Try.f144, h144⟩ := ⟨by kernel_rfl, is144, by kernel_rfl⟩
theorem ge145 : GoodE Try.prog ⟨145, F145, Try.f145, h145⟩ := ⟨by kernel_rfl, is145, by kernel_rfl⟩
theorem ge146 : GoodE Try.prog ⟨146, F146, Try.f146, h146⟩ := ⟨by kernel_rfl, is146, by kernel_rfl⟩
theorem ge147 : GoodE Try.prog ⟨147, F147, Try.f147, h147⟩ := ⟨by kernel_rfl, is147, by kernel_rfl⟩
theorem ge156 : GoodE Try.prog ⟨156, F156, Try.f156, h156⟩ := ⟨by kernel_rfl, is156, by kernel_rfl⟩
theorem ge157 : GoodE Try.prog ⟨157, F157, Try.f157, h157⟩ := ⟨by kernel_rfl, is157, by kernel_rfl⟩
theorem ge158 : GoodE Try.prog ⟨158, F158, Try.f158, h158⟩ := ⟨by kernel_rfl, is158, by kernel_rfl⟩
theorem ge163 : GoodE Try.prog ⟨163, F163, Try.f163, h163⟩ := ⟨by kernel_rfl, is163, by kernel_rfl⟩
noncomputable def entL : List Ent := [⟨3, F3, Try.f3, h3⟩, ⟨4, F4, Try.f4, h4⟩, ⟨5, F5, Try.f5, h5⟩, ⟨6, F6, Try.f6, h6⟩, ⟨15, F15, Try.f15, h15⟩, ⟨16, F16, Try.f16, h16⟩, ⟨17, F17, Try.f17, h17⟩, ⟨18, F18, Try.f18, h18⟩, ⟨19, F19, Try.f19, h19⟩, ⟨20, F20, Try.f20, h20⟩, ⟨21, F21, Try.f21, h21⟩, ⟨22, F22, Try.f22, h22⟩, ⟨23, F23, Try.f23, h23⟩, ⟨24, F24, Try.f24, h24⟩, ⟨25, F25, Try.f25, h25⟩, ⟨26, F26, Try.f26, h26⟩, ⟨27, F27, Try.f27, h27⟩, ⟨32, F32, Try.f32, h32⟩, ⟨55, F55, Try.f55, h55⟩, ⟨58, F58, Try.f58, h58⟩, ⟨59, F59, Try.f59, h59⟩, ⟨60, F60, Try.f60, h60⟩, ⟨61, F61, Try.f61, h61⟩, ⟨62, F62, Try.f62, h62⟩, ⟨63, F63, Try.f63, h63⟩, ⟨64, F64, Try.f64, h64⟩, ⟨65, F65, Try.f65, h65⟩, ⟨66, F66, Try.f66, h66⟩, ⟨67, F67, Try.f67, h67⟩, ⟨68, F68, Try.f68, h68⟩, ⟨69, F69, Try.f69, h69⟩, ⟨70, F70, Try.f70, h70⟩, ⟨71, F71, Try.f71, h71⟩, ⟨79, F79, Try.f79, h79⟩, ⟨80, F80, Try.f80, h80⟩, ⟨100, F100, Try.f100, h100⟩, ⟨109, F109, Try.f109, h109⟩, ⟨110, F110, Try.f110, h110⟩, ⟨111, F111, Try.f111, h111⟩, ⟨112, F112, Try.f112, h112⟩, ⟨113, F113, Try.f113, h113⟩, ⟨114, F114, Try.f114, h114⟩, ⟨115, F115, Try.f115, h115⟩, ⟨116, F116, Try.f116, h116⟩, ⟨118, F118, Try.f118, h118⟩, ⟨119, F119, Try.f119, h119⟩, ⟨133, F133, Try.f133, h133⟩, ⟨134, F134, Try.f134, h134⟩, ⟨143, F143, Try.f143, h143⟩, ⟨144, F144, Try.f144, h144⟩, ⟨145, F145, Try.f145, h145⟩, ⟨146, F146, Try.f146, h146⟩, ⟨147, F147, Try.f147, h147⟩, ⟨156, F156, Try.f156, h156⟩, ⟨157, F157, Try.f157, h157⟩, ⟨158, F158, Try.f158, h158⟩, ⟨163, F163, Try.f163, h163⟩]
theorem entL_ok : ∀ e ∈ entL, GoodE Try.prog e := by
  unfold entL
  simp only [List.mem_cons, List.not_mem_nil, or_false]
  rintro e (rfl | rfl | rfl | rfl | rfl | rfl | rfl | rfl | rfl | rfl | rfl | rfl | rfl | rfl | rfl | rfl | rfl | rfl | rfl | rfl | rfl | rfl | rfl | rfl | rfl | rfl | rfl | rfl | rfl | rfl | rfl | rfl | rfl | rfl | rfl | rfl | rfl | rfl | rfl | rfl | rfl | rfl | rfl | rfl | rfl | rfl | rfl | rfl | rfl | rfl | rfl | rfl | rfl | rfl | rfl | rfl | rfl)
  · exact ge3
  · exact ge4
  · exact ge5
  · exact ge6
  · exact ge15
  · exact ge16
  · exact ge17
  · exact ge18
  · exact ge19
  · exact ge20
  · exact ge21
  · exact ge22
  · exact ge23
  · exact ge24
  · exact ge25
  · exact ge26
  · exact ge27
  · exact ge32
  · exact ge55
  · exact ge58
  · exact ge59
  · exact ge60
  · exact ge61
  · exact ge62
  · exact ge63
  · exact ge64
  · exact ge65
  · exact ge66
  · exact ge67
  · exact ge68
  · exact ge69
  · exact ge70
  · exact ge71
  · exact ge79
  · exact ge80
  · exact ge100
  · exact ge109
  · exact ge110
  · exact ge111
  · exact ge112
  · exact ge113
  · exact ge114
  · exact ge115
  · exact ge116
  · exact ge118
  · exact ge119
  · exact ge133
  · exact ge134
  · exact ge143
  · exact ge144
  · exact ge145
  · exact ge146
  · exact ge147
  · exact ge156
  · exact ge157
  · exact ge158
  · exact ge163

noncomputable def fnN (f : FuncId) : Option IFn := lookF f entL
theorem base_ok : TabOK Try.prog ⟨fnN, fun _ _ _ _ => none⟩ := tab0_ok entL_ok

structure Vc (A : Prop) : Prop where
  out : A
theorem vcOf {A : Prop} (B : Prop) (h : B = A) (hb : B) : Vc A := ⟨h ▸ hb⟩

/-- A contract of one of the functions, from what must hold for its code. -/
theorem con {L : List SCtr} {W : OwnT} (c : SCtr) (F : IFn) (Λ : c.α → Nat → LoopAnn) (hW : OwnOK Try.prog W) (hL : ∀ c ∈ L, Holds Try.prog c)
    (hF : fnN c.f = some F) (hfr : findC c.f L = none) (hlen : ∀ a, (c.A.put a).length = F.params)
    (h : ∀ a, c.dom a → Vc (fnK (parL L W tyN mtN) (Λ a) F (c.A.put a) fun v => v.same (c.res a))) : Holds Try.prog c :=
  holds_of c base_ok hW hL hF hfr hlen fun a ha => (h a ha).out

/-- A contract of a call that may write. -/
theorem conO {L : List SCtr} {W : List OCtr} (c : OCtr) (F : IFn) (Λ : c.α → Nat → LoopAnn) (hW : ∀ c ∈ W, HoldsO Try.prog c) (hL : ∀ c ∈ L, Holds Try.prog c)
    (hF : fnN c.f = some F) (hlen : ∀ a, (c.put a).length = F.params) (hfr : findO c.f W = none)
    (h : ∀ a, c.dom a → Vc (fnOwnK (parL L (ownT W) tyN mtN) (Λ a) F (c.put a) (c.st a) fun v s => v.same (c.res a) ∧ sameO s (c.out a))) : HoldsO Try.prog c :=
  fun a ha => holdsO_of c base_ok hW hL hF hlen a (fun d hd => by rw [hfr] at hd; cases hd) (h a ha).out

/-- A contract of a call that hands back objects of its own. -/
theorem conN {L : List SCtr} {W : List OCtr} (c : OCtr) (F : IFn) (sp : Nat → Option (Nat × Nat × Nat)) (Λ : c.α → Nat → LoopAnn) (hW : ∀ c ∈ W, HoldsO Try.prog c) (hL : ∀ c ∈ L, Holds Try.prog c)
    (hF : fnN c.f = some F) (hlen : ∀ a, (c.put a).length = F.params) (hst : ∀ a, c.st a = []) (hfr : findO c.f W = none)
    (h : ∀ a, c.dom a → Vc (fnNewK ⟨⟨pureK L, (ownT W).C⟩, tyN, mtN, sp⟩ (Λ a) F (c.put a) fun v s => v.same (c.res a) ∧ sameO s (c.out a))) : HoldsO Try.prog c :=
  fun a ha => by
    rw [hst a]
    refine fnNewK_sound (p := ⟨⟨pureK L, (ownT W).C⟩, tyN, mtN, sp⟩) (Λ := Λ a) (Q := fun v s => v.same (c.res a) ∧ sameO s (c.out a)) (tabL_ok (ownT_ok hW) hL base_ok) (tabL_calls (ownT_ok hW)) hF ?_ (hlen a) (fun v s hs => ⟨hs.1, sameO_g hs.2⟩) (h a ha).out
    simp only [tabL, tabK, if_true, ownT]
    exact ownA_fresh hfr

end Go.Vi
