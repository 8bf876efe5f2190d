/-
  The abstract interpreter: known results, given by a plain function on plain data.
  Conditions: none.
-/
import Derived.Test.YtigbjjkijfkeeaaViEv
namespace Go.Vi

open Classical in
/-- The known result of a call whose arguments are the cells of some data. -/
noncomputable def ans {α : Type} (enc : α → List AV) (dom : α → Prop) (spec : α → AV) (args : List AV) : Option AV :=
  if h : ∃ a, args = enc a ∧ dom a then some (spec (Classical.choose h)) else none

theorem ans_eq {α : Type} {enc : α → List AV} {dom : α → Prop} {spec : α → AV} (hinj : ∀ a b, enc a = enc b → a = b) {a : α} (hd : dom a) : ans enc dom spec (enc a) = some (spec a) := by
  have h : ∃ b, enc a = enc b ∧ dom b := ⟨a, rfl, hd⟩
  unfold ans
  rw [dif_pos h, ← hinj _ _ (Classical.choose_spec h).1]

theorem ans_some {α : Type} {enc : α → List AV} {dom : α → Prop} {spec : α → AV} {args : List AV} {v : AV} (h : ans enc dom spec args = some v) : ∃ a, args = enc a ∧ dom a ∧ v = spec a := by
  unfold ans at h
  split at h
  · rename_i hx
    injection h with h
    exact ⟨_, (Classical.choose_spec hx).1, (Classical.choose_spec hx).2, h.symm⟩
  · cases h

/-- A contract: pure calls of 'f' by the cells of data of the domain come to 'spec'. -/
def Con (P : Program) (f : FuncId) {α : Type} (enc : α → List AV) (dom : α → Prop) (spec : α → AV) : Prop :=
  ∀ a, dom a → goodF P f = true ∧ CallO P f (enc a) [] (spec a) []

/-- One more function is known. -/
noncomputable def Tab.add {α : Type} (T : Tab) (f : FuncId) (enc : α → List AV) (dom : α → Prop) (spec : α → AV) : Tab :=
  ⟨T.fn, fun g args o own => if g = f ∧ o = [] ∧ own = false then (ans enc dom spec args).map fun v => (v, []) else T.K g args o own⟩

theorem TabOK.add {P : Program} {T : Tab} (hT : TabOK P T) {f : FuncId} {α : Type} {enc : α → List AV} {dom : α → Prop} {spec : α → AV} (hc : Con P f enc dom spec) : TabOK P (T.add f enc dom spec) where
  fn := hT.fn
  K := fun g args o own r o' h => by
    simp only [Tab.add] at h
    split at h
    · rename_i hg
      obtain ⟨rfl, rfl, rfl⟩ := hg
      obtain ⟨v, hv, h2⟩ := Option.map_eq_some_iff.1 h
      simp only [Prod.mk.injEq] at h2
      obtain ⟨rfl, rfl⟩ := h2
      obtain ⟨a, rfl, hd, rfl⟩ := ans_some hv
      exact ⟨(hc a hd).1, (hc a hd).2, fun _ => rfl⟩
    · exact hT.K g args o own r o' h

theorem Tab.add_hit {α : Type} {T : Tab} {f : FuncId} {enc : α → List AV} {dom : α → Prop} {spec : α → AV} (hinj : ∀ a b, enc a = enc b → a = b) {a : α} (hd : dom a) : (T.add f enc dom spec).K f (enc a) [] false = some (spec a, []) := by
  simp [Tab.add, ans_eq hinj hd]

theorem Tab.add_miss {α : Type} {T : Tab} {f g : FuncId} {enc : α → List AV} {dom : α → Prop} {spec : α → AV} {args : List AV} {o : Store} {own : Bool} (h : g ≠ f) : (T.add f enc dom spec).K g args o own = T.K g args o own := by
  simp [Tab.add, h]

end Go.Vi
