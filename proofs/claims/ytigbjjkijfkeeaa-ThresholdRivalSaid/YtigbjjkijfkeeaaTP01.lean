/-
  The small code of the functions, printed by program; each is what 'compFn' makes of the function.
-/
import Derived.Test.YtigbjjkijfkeeaaChecked
import Derived.Test.YtigbjjkijfkeeaaTP00
import Derived.KernelRfl
set_option linter.unusedVariables false
set_option linter.unusedSimpArgs false
set_option maxRecDepth 100000
namespace Go.Proofs.Ytigbjjkijfkeeaa.Ir
open Go Go.Vi

def bodyF : Option IFn → IR
  | some F => F.body
  | none => .skip

/-- saleroom/saleroomlaw27.VickreyPays -/
noncomputable def h3 : List RH := [⟨0, [1, 2, 3], [], [], [], []⟩, ⟨1, [1, 2, 3, 27], [], [], [], []⟩, ⟨2, [6], [], [], [], []⟩, ⟨3, [2, 3, 7], [], [], [], []⟩, ⟨4, [2, 3, 7, 8, 9], [], [], [⟨false, 3, (some 18), 0, 0, false⟩, ⟨false, 3, (some 19), 0, 0, false⟩, ⟨false, 7, (some 0), 0, 0, false⟩], []⟩, ⟨5, [2, 3, 7, 8, 9, 10, 11], [], [], [⟨false, 3, (some 18), 0, 0, false⟩, ⟨false, 3, (some 19), 0, 0, false⟩, ⟨false, 7, (some 0), 0, 0, false⟩], []⟩, ⟨6, [2, 3, 7, 8, 9, 10, 11, 12, 13], [], [], [⟨false, 3, (some 18), 0, 0, false⟩, ⟨false, 3, (some 19), 0, 0, false⟩, ⟨false, 7, (some 0), 0, 0, false⟩], []⟩, ⟨7, [2, 3, 7, 8, 9, 10, 11, 12, 13, 14, 15], [], [], [⟨false, 3, (some 18), 0, 0, false⟩, ⟨false, 3, (some 19), 0, 0, false⟩, ⟨false, 7, (some 0), 0, 0, false⟩], []⟩, ⟨8, [2, 3, 7, 8, 9, 10, 11, 12, 13, 14, 15, 16, 17], [], [], [], []⟩, ⟨9, [8, 9, 10, 11, 12, 13, 14, 15, 16, 17, 18, 19], [], [], [], []⟩, ⟨10, [6], [], [], [], []⟩]
noncomputable def c3 : IR := bodyF (compFn Try.prog h3 Try.f3)
noncomputable def F3 : IFn := ⟨3, 100, c3, [⟨6, none⟩]⟩
theorem is3 : compFn Try.prog h3 Try.f3 = some F3 := by kernel_rfl

/-- saleroom/saleroomlaw27.VickreyBounds -/
noncomputable def h4 : List RH := [⟨0, [1], [], [], [], []⟩, ⟨1, [1, 19], [], [], [], []⟩, ⟨2, [2], [], [], [], []⟩, ⟨3, [1, 3], [], [], [⟨false, 1, (some 18), 0, 0, false⟩, ⟨false, 1, (some 19), 0, 0, false⟩], []⟩, ⟨4, [1, 3, 4, 5], [], [], [⟨false, 1, (some 18), 0, 0, false⟩, ⟨false, 1, (some 19), 0, 0, false⟩, ⟨false, 3, (some 0), 0, 0, false⟩], []⟩, ⟨5, [1, 3, 4, 5, 6, 7], [], [], [⟨false, 1, (some 18), 0, 0, false⟩, ⟨false, 1, (some 19), 0, 0, false⟩, ⟨false, 3, (some 0), 0, 0, false⟩], []⟩, ⟨6, [1, 3, 4, 6, 56], [], [], [], []⟩, ⟨7, [2], [], [], [], []⟩, ⟨8, [1, 3, 4, 6, 8], [], [], [], []⟩, ⟨9, [1, 3, 4, 6, 8, 60], [], [], [], []⟩, ⟨11, [1, 3, 4, 6, 8, 9], [], [], [], []⟩, ⟨12, [1, 3, 4, 6, 8, 9, 10], [], [], [], []⟩, ⟨13, [1, 3, 4, 6, 8, 9, 10, 67], [], [], [], []⟩, ⟨15, [1, 3, 4, 6, 8, 9, 10, 11], [], [], [], []⟩, ⟨16, [1, 3, 4, 6, 8, 9, 10, 11, 82], [], [], [], []⟩, ⟨17, [1, 3, 4, 6, 8, 9, 10], [], [], [], []⟩, ⟨14, [1, 3, 4, 6, 8, 9, 10], [], [], [], []⟩, ⟨18, [1, 3, 4, 6, 8, 112], [], [], [], []⟩, ⟨19, [2], [], [], [], []⟩, ⟨10, [1, 3, 4, 6, 8], [], [], [], []⟩, ⟨20, [2], [], [], [], []⟩]
noncomputable def c4 : IR := bodyF (compFn Try.prog h4 Try.f4)
noncomputable def F4 : IFn := ⟨1, 114, c4, [⟨2, none⟩]⟩
theorem is4 : compFn Try.prog h4 Try.f4 = some F4 := by kernel_rfl

/-- saleroom/saleroomlaw27.VickreyValue -/
noncomputable def h5 : List RH := [⟨0, [2, 3], [], [], [], []⟩, ⟨1, [2, 3, 17], [], [], [], []⟩, ⟨2, [4], [], [], [], []⟩, ⟨3, [2, 3, 5, 6], [], [], [⟨false, 2, (some 18), 0, 0, false⟩, ⟨false, 2, (some 19), 0, 0, false⟩, ⟨false, 3, (some 0), 0, 0, false⟩], []⟩, ⟨4, [5, 6, 7, 8], [], [], [⟨false, 2, (some 18), 0, 0, false⟩, ⟨false, 2, (some 19), 0, 0, false⟩, ⟨false, 3, (some 0), 0, 0, false⟩], []⟩, ⟨5, [4], [], [], [], []⟩]
noncomputable def c5 : IR := bodyF (compFn Try.prog h5 Try.f5)
noncomputable def F5 : IFn := ⟨2, 44, c5, [⟨4, none⟩]⟩
theorem is5 : compFn Try.prog h5 Try.f5 = some F5 := by kernel_rfl

/-- saleroom/saleroomlaw27.VickreyCompetes -/
noncomputable def h6 : List RH := [⟨0, [1, 2], [], [], [], []⟩, ⟨1, [1, 2, 33], [], [], [], []⟩, ⟨2, [4], [], [], [], []⟩, ⟨3, [1, 2, 5], [], [], [⟨false, 2, (some 18), 0, 0, false⟩, ⟨false, 2, (some 19), 0, 0, false⟩], []⟩, ⟨4, [1, 2, 5, 6], [], [], [], [⟨true, 6, (some 19), 43, 8, true⟩]⟩, ⟨5, [1, 2, 5, 6], [], [], [], [⟨true, 6, (some 19), 43, 8, true⟩]⟩, ⟨6, [1, 2, 5, 6, 7], [], [], [], [⟨true, 7, none, 3, 1, true⟩]⟩, ⟨7, [1, 2, 5, 6, 7, 8], [], [], [], []⟩, ⟨8, [1, 2, 5, 6, 7, 8, 43], [], [], [], []⟩, ⟨10, [1, 2, 5, 6, 7, 8, 53], [], [], [], []⟩, ⟨11, [1, 2, 5, 6, 7, 8, 9], [], [], [], []⟩, ⟨12, [1, 2, 5, 6, 7, 8, 9, 58], [], [], [], []⟩, ⟨14, [1, 2, 5, 6, 7, 8, 9, 67], [], [], [], []⟩, ⟨15, [1, 2, 5, 6, 7, 8, 9], [], [4, 5], [], []⟩, ⟨13, [1, 2, 5, 6, 7, 8, 9], [], [], [], []⟩, ⟨16, [1, 2, 5, 6, 7, 8], [], [8], [], []⟩, ⟨9, [1, 2, 5, 6, 7, 8], [], [], [], []⟩, ⟨17, [2, 5, 6, 7, 89], [], [], [], []⟩, ⟨18, [4], [], [], [], []⟩, ⟨19, [2, 5, 6, 7, 10, 11], [], [], [⟨false, 2, (some 18), 0, 0, false⟩, ⟨false, 2, (some 19), 0, 0, false⟩, ⟨false, 5, (some 0), 0, 0, false⟩], []⟩, ⟨20, [2, 10, 11, 12, 13], [], [], [⟨false, 6, (some 18), 0, 0, false⟩, ⟨false, 6, (some 19), 0, 0, false⟩, ⟨false, 7, none, 0, 0, false⟩], []⟩, ⟨21, [10, 12, 127], [], [], [], []⟩, ⟨22, [4], [], [], [], []⟩, ⟨23, [10, 12, 14], [], [], [], []⟩, ⟨24, [10, 12, 14, 131], [], [], [], []⟩, ⟨26, [10, 12, 14, 142], [], [], [], []⟩, ⟨27, [4], [], [], [], []⟩, ⟨25, [10, 12, 14], [], [], [], []⟩, ⟨28, [4], [], [], [], []⟩]
noncomputable def c6 : IR := bodyF (compFn Try.prog h6 Try.f6)
noncomputable def F6 : IFn := ⟨2, 144, c6, [⟨4, none⟩]⟩
theorem is6 : compFn Try.prog h6 Try.f6 = some F6 := by kernel_rfl

/-- saleroom/saleroomlaw52.ThresholdRival -/
noncomputable def h7 : List RH := [⟨0, [1, 2], [], [], [], []⟩, ⟨1, [1, 2, 11], [], [], [], []⟩, ⟨2, [4], [], [], [], []⟩, ⟨3, [1, 2, 5, 6], [], [], [⟨false, 2, (some 18), 0, 0, false⟩, ⟨false, 2, (some 19), 0, 0, false⟩, ⟨false, 1, none, 0, 0, false⟩], []⟩, ⟨4, [5, 6, 7, 8], [], [], [⟨false, 2, (some 18), 0, 0, false⟩, ⟨false, 2, (some 19), 0, 0, false⟩, ⟨false, 1, none, 0, 0, false⟩], []⟩, ⟨5, [4], [], [], [], []⟩]
noncomputable def c7 : IR := bodyF (compFn Try.prog h7 Try.f7)
noncomputable def F7 : IFn := ⟨2, 46, c7, [⟨4, none⟩]⟩
theorem is7 : compFn Try.prog h7 Try.f7 = some F7 := by kernel_rfl

/-- saleroom/saleroomlaw52.ThresholdPivotal -/
noncomputable def h8 : List RH := [⟨0, [1, 2], [], [], [], []⟩, ⟨1, [1, 2, 11], [], [], [], []⟩, ⟨2, [4], [], [], [], []⟩, ⟨3, [1, 2, 5, 6], [], [], [], []⟩, ⟨4, [5, 6, 7, 8], [], [], [], []⟩, ⟨5, [4], [], [], [], []⟩]
noncomputable def c8 : IR := bodyF (compFn Try.prog h8 Try.f8)
noncomputable def F8 : IFn := ⟨2, 36, c8, [⟨4, none⟩]⟩
theorem is8 : compFn Try.prog h8 Try.f8 = some F8 := by kernel_rfl

/-- saleroom/saleroomlaw52.ThresholdMargins -/
noncomputable def h9 : List RH := [⟨0, [1, 2], [], [], [], []⟩, ⟨1, [1, 2, 16], [], [], [], []⟩, ⟨2, [4], [], [], [], []⟩, ⟨3, [1, 2, 5, 6], [], [], [], []⟩, ⟨4, [2, 5, 6, 7, 8], [], [], [], []⟩, ⟨5, [2, 5, 6, 7, 8, 9, 10], [], [], [⟨false, 2, (some 18), 0, 0, false⟩, ⟨false, 2, (some 19), 0, 0, false⟩], []⟩, ⟨6, [2, 9, 10, 48], [], [], [], []⟩, ⟨7, [4], [], [], [], []⟩, ⟨8, [2, 9, 50], [], [], [], []⟩, ⟨9, [4], [], [], [], []⟩, ⟨10, [2, 9, 62], [], [], [], []⟩, ⟨11, [4], [], [], [], []⟩, ⟨12, [2, 9, 11], [], [], [], []⟩, ⟨13, [2, 9, 11, 66], [], [], [], []⟩, ⟨15, [2, 9, 11, 12], [], [], [], []⟩, ⟨16, [2, 9, 11, 84], [], [], [], []⟩, ⟨17, [4], [], [], [], []⟩, ⟨14, [2, 9, 11], [], [], [], []⟩, ⟨18, [4], [], [], [], []⟩]
noncomputable def c9 : IR := bodyF (compFn Try.prog h9 Try.f9)
noncomputable def F9 : IFn := ⟨2, 86, c9, [⟨4, none⟩]⟩
theorem is9 : compFn Try.prog h9 Try.f9 = some F9 := by kernel_rfl

/-- saleroom/saleroomlaw27.few -/
noncomputable def h15 : List RH := [⟨0, [1], [], [], [], []⟩, ⟨1, [2], [], [], [], []⟩]
noncomputable def c15 : IR := bodyF (compFn Try.prog h15 Try.f15)
noncomputable def F15 : IFn := ⟨1, 5, c15, [⟨2, none⟩]⟩
theorem is15 : compFn Try.prog h15 Try.f15 = some F15 := by kernel_rfl

/-- saleroom/saleroomlaw27.awake -/
noncomputable def h16 : List RH := [⟨0, [], [], [], [], []⟩, ⟨1, [1], [], [], [], []⟩, ⟨2, [1, 2], [], [0], [], []⟩, ⟨3, [1, 2, 3, 4], [], [], [⟨false, 1, (some 18), 0, 0, false⟩, ⟨false, 1, (some 19), 0, 0, false⟩, ⟨false, 2, (some 0), 0, 0, false⟩], []⟩, ⟨4, [1, 2, 3, 4, 5, 6], [], [], [⟨false, 1, (some 18), 0, 0, false⟩, ⟨false, 1, (some 19), 0, 0, false⟩, ⟨false, 2, (some 0), 0, 0, false⟩], []⟩, ⟨5, [1, 2, 3, 4, 5, 6, 7, 8], [], [], [], []⟩, ⟨6, [1, 2, 3, 4, 5, 6, 7, 8, 10], [], [1], [⟨false, 1, (some 18), 0, 0, false⟩, ⟨false, 1, (some 19), 0, 0, false⟩], []⟩, ⟨7, [1, 3, 4, 5, 6, 7, 8, 10, 12], [], [], [], []⟩, ⟨8, [3, 4, 5, 6, 7, 8, 10, 12, 14], [], [1], [⟨false, 1, (some 18), 0, 0, false⟩, ⟨false, 1, (some 19), 0, 0, false⟩], []⟩, ⟨9, [0], [], [4, 13], [], []⟩]
noncomputable def c16 : IR := bodyF (compFn Try.prog h16 Try.f16)
noncomputable def F16 : IFn := ⟨0, 92, c16, [⟨0, none⟩]⟩
theorem is16 : compFn Try.prog h16 Try.f16 = some F16 := by kernel_rfl

/-- saleroom/vickrey.Payments -/
noncomputable def h17 : List RH := [⟨0, [2, 3], [], [], [], []⟩, ⟨1, [6, 7], [], [], [⟨false, 2, (some 18), 0, 0, false⟩, ⟨false, 2, (some 19), 0, 0, false⟩, ⟨false, 3, (some 0), 0, 0, false⟩], []⟩, ⟨2, [6, 7, 15], [], [], [], []⟩, ⟨3, [4, 5], [], [], [], []⟩, ⟨4, [4, 5], [], [], [⟨false, 6, (some 18), 0, 0, false⟩, ⟨false, 6, (some 19), 0, 0, false⟩, ⟨false, 6, (some 20), 0, 0, false⟩], []⟩]
noncomputable def c17 : IR := bodyF (compFn Try.prog h17 Try.f17)
noncomputable def F17 : IFn := ⟨2, 21, c17, [⟨4, none⟩, ⟨5, none⟩]⟩
theorem is17 : compFn Try.prog h17 Try.f17 = some F17 := by kernel_rfl

/-- saleroom/saleroomref27.Payments -/
noncomputable def h18 : List RH := [⟨0, [2, 3], [], [], [], []⟩, ⟨1, [2, 3, 6], [], [], [], []⟩, ⟨2, [2, 3, 6, 13], [], [], [], []⟩, ⟨3, [4, 5], [], [], [], []⟩, ⟨4, [2, 3, 7], [], [], [], [⟨true, 7, none, 2, 1, true⟩]⟩, ⟨5, [2, 3, 7, 8], [], [], [], []⟩, ⟨6, [2, 3, 7, 8, 19], [], [], [], []⟩, ⟨8, [2, 3, 7, 8], [], [5, 6], [], []⟩, ⟨7, [2, 3, 7, 8], [], [], [], []⟩, ⟨9, [4, 5], [], [], [], []⟩]
noncomputable def c18 : IR := bodyF (compFn Try.prog h18 Try.f18)
noncomputable def F18 : IFn := ⟨2, 30, c18, [⟨4, none⟩, ⟨5, none⟩]⟩
theorem is18 : compFn Try.prog h18 Try.f18 = some F18 := by kernel_rfl

/-- saleroom/vickrey.Discounts -/
noncomputable def h19 : List RH := [⟨0, [2, 3], [], [], [], []⟩, ⟨1, [6, 7], [], [], [⟨false, 2, (some 18), 0, 0, false⟩, ⟨false, 2, (some 19), 0, 0, false⟩, ⟨false, 3, (some 0), 0, 0, false⟩], []⟩, ⟨2, [6, 7, 15], [], [], [], []⟩, ⟨3, [4, 5], [], [], [], []⟩, ⟨4, [4, 5], [], [], [⟨false, 6, (some 18), 0, 0, false⟩, ⟨false, 6, (some 19), 0, 0, false⟩, ⟨false, 6, (some 20), 0, 0, false⟩], []⟩]
noncomputable def c19 : IR := bodyF (compFn Try.prog h19 Try.f19)
noncomputable def F19 : IFn := ⟨2, 21, c19, [⟨4, none⟩, ⟨5, none⟩]⟩
theorem is19 : compFn Try.prog h19 Try.f19 = some F19 := by kernel_rfl

/-- saleroom/saleroomref27.Discounts -/
noncomputable def h20 : List RH := [⟨0, [2, 3], [], [], [], []⟩, ⟨1, [2, 3, 6, 7], [], [], [⟨false, 2, (some 18), 0, 0, false⟩, ⟨false, 2, (some 19), 0, 0, false⟩, ⟨false, 3, (some 0), 0, 0, false⟩], []⟩, ⟨2, [2, 3, 6, 7, 19], [], [], [], []⟩, ⟨3, [4, 5], [], [], [], []⟩, ⟨4, [2, 3, 6, 8], [], [], [], [⟨true, 8, none, 2, 1, true⟩]⟩, ⟨5, [2, 3, 6, 8, 9], [], [], [], []⟩, ⟨6, [2, 3, 6, 8, 9, 24], [], [], [], []⟩, ⟨8, [2, 3, 6, 8, 9, 10], [], [], [], []⟩, ⟨9, [2, 3, 6, 8, 9], [], [7, 8], [], []⟩, ⟨7, [2, 3, 6, 8, 9], [], [], [], []⟩, ⟨10, [4, 5], [], [], [], []⟩]
noncomputable def c20 : IR := bodyF (compFn Try.prog h20 Try.f20)
noncomputable def F20 : IFn := ⟨2, 44, c20, [⟨4, none⟩, ⟨5, none⟩]⟩
theorem is20 : compFn Try.prog h20 Try.f20 = some F20 := by kernel_rfl

/-- saleroom/vickrey.Externality -/
noncomputable def h21 : List RH := [⟨0, [2, 3, 4], [], [], [], []⟩, ⟨1, [2, 8, 9], [], [], [⟨false, 3, (some 18), 0, 0, false⟩, ⟨false, 3, (some 19), 0, 0, false⟩, ⟨false, 4, (some 0), 0, 0, false⟩], []⟩, ⟨2, [2, 8, 9, 17], [], [], [], []⟩, ⟨3, [6, 7], [], [], [], []⟩, ⟨4, [2, 8, 27], [], [], [], []⟩, ⟨5, [6, 7], [], [], [], []⟩, ⟨6, [6, 7], [], [], [], []⟩]
noncomputable def c21 : IR := bodyF (compFn Try.prog h21 Try.f21)
noncomputable def F21 : IFn := ⟨3, 31, c21, [⟨6, none⟩, ⟨7, none⟩]⟩
theorem is21 : compFn Try.prog h21 Try.f21 = some F21 := by kernel_rfl

/-- saleroom/saleroomref27.Externality -/
noncomputable def h22 : List RH := [⟨0, [2, 3, 4], [], [], [], []⟩, ⟨1, [2, 3, 4, 8], [], [], [], []⟩, ⟨2, [2, 3, 4, 8, 13], [], [], [], []⟩, ⟨3, [6, 7], [], [], [], []⟩, ⟨4, [2, 3, 4, 23], [], [], [], []⟩, ⟨5, [6, 7], [], [], [], []⟩, ⟨6, [6, 7], [], [], [], []⟩]
noncomputable def c22 : IR := bodyF (compFn Try.prog h22 Try.f22)
noncomputable def F22 : IFn := ⟨3, 28, c22, [⟨6, none⟩, ⟨7, none⟩]⟩
theorem is22 : compFn Try.prog h22 Try.f22 = some F22 := by kernel_rfl

/-- saleroom/saleroomref27.Same -/
noncomputable def h23 : List RH := [⟨0, [0, 1], [], [], [], []⟩, ⟨1, [0, 1, 10], [], [], [], []⟩, ⟨2, [4], [], [], [], []⟩, ⟨3, [0, 1, 5], [], [], [], []⟩, ⟨4, [0, 1, 5, 14], [], [], [], []⟩, ⟨6, [0, 1, 5, 25], [], [], [], []⟩, ⟨7, [4], [], [], [], []⟩, ⟨5, [0, 1, 5], [], [], [], []⟩, ⟨8, [4], [], [], [], []⟩]
noncomputable def c23 : IR := bodyF (compFn Try.prog h23 Try.f23)
noncomputable def F23 : IFn := ⟨2, 26, c23, [⟨4, none⟩]⟩
theorem is23 : compFn Try.prog h23 Try.f23 = some F23 := by kernel_rfl

/-- saleroom/saleroomref20.Check -/
noncomputable def h24 : List RH := [⟨0, [1], [], [], [], []⟩, ⟨1, [1, 11], [], [], [], []⟩, ⟨2, [2], [], [], [], []⟩, ⟨3, [1, 3], [], [], [], []⟩, ⟨4, [1, 3, 13], [], [], [], []⟩, ⟨6, [1, 3, 63], [], [], [], []⟩, ⟨7, [2], [], [], [], []⟩, ⟨5, [1, 3], [], [], [], []⟩, ⟨8, [1, 73], [], [], [], []⟩, ⟨9, [2], [], [], [], []⟩, ⟨10, [1, 4], [], [], [], []⟩, ⟨11, [1, 4, 78], [], [], [], []⟩, ⟨13, [1, 4, 94], [], [], [], []⟩, ⟨14, [2], [], [], [], []⟩, ⟨12, [1, 4], [], [], [], []⟩, ⟨15, [1, 5], [], [], [], []⟩, ⟨16, [1, 5, 99], [], [], [], []⟩, ⟨18, [1, 5, 6], [], [], [], []⟩, ⟨19, [1, 5, 6, 117], [], [], [], []⟩, ⟨20, [2], [], [], [], []⟩, ⟨21, [1, 5, 6, 137], [], [], [], []⟩, ⟨22, [2], [], [], [], []⟩, ⟨23, [1, 5, 6, 142], [], [2], [], []⟩, ⟨24, [2], [], [], [], []⟩, ⟨25, [1, 5, 6, 7], [], [], [], []⟩, ⟨26, [1, 5, 6, 7, 145], [], [], [], []⟩, ⟨28, [1, 5, 6, 7, 167], [], [], [], []⟩, ⟨29, [2], [], [], [], []⟩, ⟨27, [1, 5, 6, 7], [], [], [], []⟩, ⟨17, [1, 5], [], [], [], []⟩, ⟨30, [2], [], [], [], []⟩]
noncomputable def c24 : IR := bodyF (compFn Try.prog h24 Try.f24)
noncomputable def F24 : IFn := ⟨1, 168, c24, [⟨2, none⟩]⟩
theorem is24 : compFn Try.prog h24 Try.f24 = some F24 := by kernel_rfl

/-- saleroom/saleroomref23.Best -/
noncomputable def h25 : List RH := [⟨0, [1, 2], [], [], [], []⟩, ⟨1, [1, 2, 3], [], [], [], []⟩, ⟨2, [2], [], [], [⟨false, 1, (some 18), 0, 0, false⟩, ⟨false, 1, (some 19), 0, 0, false⟩, ⟨false, 3, (some 0), 0, 0, false⟩], []⟩]
noncomputable def c25 : IR := bodyF (compFn Try.prog h25 Try.f25)
noncomputable def F25 : IFn := ⟨1, 9, c25, [⟨2, (some (some 2))⟩]⟩
theorem is25 : compFn Try.prog h25 Try.f25 = some F25 := by kernel_rfl

/-- saleroom/saleroomref27.Worth -/
noncomputable def h26 : List RH := [⟨0, [1, 2], [], [], [], []⟩, ⟨1, [1, 2, 5], [], [], [], [⟨true, 5, (some 19), 43, 8, true⟩]⟩, ⟨2, [1, 2, 5], [], [], [], [⟨true, 5, (some 19), 43, 8, true⟩]⟩, ⟨3, [1, 2, 5, 6], [], [], [], []⟩, ⟨4, [1, 2, 5, 6, 13], [], [], [], []⟩, ⟨6, [1, 2, 5, 6, 23], [], [], [], []⟩, ⟨7, [1, 2, 5, 6], [], [8], [], []⟩, ⟨5, [1, 2, 5, 6], [], [], [], []⟩, ⟨8, [4], [], [], [⟨false, 5, (some 18), 0, 0, false⟩, ⟨false, 5, (some 19), 0, 0, false⟩], []⟩]
noncomputable def c26 : IR := bodyF (compFn Try.prog h26 Try.f26)
noncomputable def F26 : IFn := ⟨2, 37, c26, [⟨4, none⟩]⟩
theorem is26 : compFn Try.prog h26 Try.f26 = some F26 := by kernel_rfl

/-- saleroom/saleroomref27.All -/
noncomputable def h27 : List RH := [⟨0, [1, 2], [], [], [], []⟩, ⟨1, [1, 2, 5, 6], [], [], [], []⟩, ⟨2, [1, 2, 5, 6, 7], [], [], [], []⟩, ⟨3, [1, 2, 5, 6, 7, 12], [], [], [], []⟩, ⟨5, [1, 2, 5, 6, 7, 17], [], [], [], []⟩, ⟨6, [1, 2, 5, 6, 7], [], [], [], []⟩, ⟨7, [1, 2, 5, 6, 7], [], [], [], []⟩, ⟨4, [1, 2, 5, 6, 7], [], [], [], []⟩, ⟨8, [4], [], [], [], []⟩]
noncomputable def c27 : IR := bodyF (compFn Try.prog h27 Try.f27)
noncomputable def F27 : IFn := ⟨2, 24, c27, [⟨4, none⟩]⟩
theorem is27 : compFn Try.prog h27 Try.f27 = some F27 := by kernel_rfl

/-- saleroom/saleroomlaw52.light -/
noncomputable def h28 : List RH := [⟨0, [1], [], [], [], []⟩, ⟨1, [2], [], [], [], []⟩]
noncomputable def c28 : IR := bodyF (compFn Try.prog h28 Try.f28)
noncomputable def F28 : IFn := ⟨1, 13, c28, [⟨2, none⟩]⟩
theorem is28 : compFn Try.prog h28 Try.f28 = some F28 := by kernel_rfl

/-- saleroom/saleroomlaw52.awake -/
noncomputable def h29 : List RH := [⟨0, [], [], [], [], []⟩, ⟨1, [1, 2], [], [], [], []⟩, ⟨2, [1, 2, 3, 4], [], [], [], []⟩, ⟨3, [1, 2, 3, 4, 5, 6], [], [], [], []⟩, ⟨4, [1, 2, 3, 4, 5, 6, 7, 8], [], [], [], []⟩, ⟨5, [0], [], [37], [], []⟩]
noncomputable def c29 : IR := bodyF (compFn Try.prog h29 Try.f29)
noncomputable def F29 : IFn := ⟨0, 85, c29, [⟨0, none⟩]⟩
theorem is29 : compFn Try.prog h29 Try.f29 = some F29 := by kernel_rfl

/-- saleroom/threshold.Rival -/
noncomputable def h30 : List RH := [⟨0, [1, 2, 4], [], [], [], []⟩, ⟨1, [1, 2, 4, 6], [], [], [], []⟩, ⟨2, [1, 2, 4, 6, 16], [], [], [], []⟩, ⟨3, [4, 5], [], [], [], []⟩, ⟨4, [1, 4, 7], [], [], [⟨false, 1, none, 0, 0, false⟩, ⟨false, 2, (some 18), 0, 0, false⟩, ⟨false, 2, (some 19), 0, 0, false⟩], []⟩, ⟨5, [1, 4, 8, 9], [], [4], [], []⟩, ⟨6, [1, 4, 8, 9, 32], [], [], [], []⟩, ⟨7, [4, 5], [], [], [], []⟩, ⟨8, [1, 4, 8, 36, 37, 38], [], [], [], []⟩, ⟨9, [1, 4, 8, 36, 37, 38, 39], [], [], [], []⟩, ⟨10, [1, 4, 8, 10, 11, 36, 37, 38], [], [], [], []⟩, ⟨11, [1, 4, 8, 10, 11, 36, 37, 38, 45], [], [], [], []⟩, ⟨12, [1, 4, 8, 36, 37, 38], [], [], [], []⟩, ⟨13, [1, 4, 8, 36, 37, 38], [], [], [], []⟩, ⟨14, [4, 5], [], [], [], []⟩]
noncomputable def c30 : IR := bodyF (compFn Try.prog h30 Try.f30)
noncomputable def F30 : IFn := ⟨2, 54, c30, [⟨4, (some (some 2))⟩, ⟨5, none⟩]⟩
theorem is30 : compFn Try.prog h30 Try.f30 = some F30 := by kernel_rfl

/-- saleroom/saleroomref52.Rival -/
noncomputable def h31 : List RH := [⟨0, [1, 2, 4], [], [], [], []⟩, ⟨1, [1, 2, 4, 6], [], [], [], []⟩, ⟨2, [1, 2, 4, 6, 14], [], [], [], []⟩, ⟨3, [4, 5], [], [], [], []⟩, ⟨4, [1, 2, 4, 25], [], [], [], []⟩, ⟨5, [4, 5], [], [], [], []⟩, ⟨6, [1, 2, 4, 7], [], [1], [], []⟩, ⟨7, [1, 2, 4, 7, 8], [], [], [⟨false, 2, (some 18), 0, 0, false⟩, ⟨false, 2, (some 19), 0, 0, false⟩], []⟩, ⟨8, [1, 2, 4, 7, 8, 9], [], [], [], []⟩, ⟨9, [1, 2, 4, 7, 8, 9, 33], [], [], [], []⟩, ⟨11, [1, 2, 4, 7, 8, 9, 10], [], [], [], []⟩, ⟨12, [1, 2, 4, 7, 8, 9, 10, 47], [], [], [], []⟩, ⟨13, [1, 2, 4, 7, 8, 9, 10, 67], [], [], [], []⟩, ⟨14, [1, 2, 4, 7, 8, 9], [], [], [], []⟩, ⟨10, [1, 2, 4, 7, 8, 9], [], [], [], []⟩, ⟨15, [4, 5], [], [], [], []⟩]
noncomputable def c31 : IR := bodyF (compFn Try.prog h31 Try.f31)
noncomputable def F31 : IFn := ⟨2, 75, c31, [⟨4, (some (some 2))⟩, ⟨5, none⟩]⟩
theorem is31 : compFn Try.prog h31 Try.f31 = some F31 := by kernel_rfl

/-- saleroom/saleroomref20.Compare -/
noncomputable def h32 : List RH := [⟨0, [0, 1], [], [], [], []⟩, ⟨1, [0, 1, 5], [], [], [], []⟩, ⟨2, [0, 1, 5, 15], [], [], [], []⟩, ⟨4, [0, 1, 5, 26], [], [], [], []⟩, ⟨5, [4], [], [], [], []⟩, ⟨6, [0, 1, 5, 35], [], [], [], []⟩, ⟨7, [4], [], [], [], []⟩, ⟨3, [0, 1, 5], [], [], [], []⟩, ⟨8, [0, 1, 36], [], [], [], []⟩, ⟨9, [4], [], [], [], []⟩, ⟨10, [42], [], [], [], []⟩, ⟨11, [4], [], [], [], []⟩, ⟨12, [4], [], [], [], []⟩]
noncomputable def c32 : IR := bodyF (compFn Try.prog h32 Try.f32)
noncomputable def F32 : IFn := ⟨2, 48, c32, [⟨4, none⟩]⟩
theorem is32 : compFn Try.prog h32 Try.f32 = some F32 := by kernel_rfl

/-- saleroom/threshold.Pivotal -/
noncomputable def h33 : List RH := [⟨0, [1, 2], [], [], [], []⟩, ⟨1, [1, 2, 6], [], [], [], []⟩, ⟨2, [1, 2, 6, 13], [], [], [], []⟩, ⟨3, [4, 5], [], [], [], []⟩, ⟨4, [1, 2, 23], [], [], [], []⟩, ⟨5, [4, 5], [], [], [], []⟩, ⟨6, [1, 2, 7], [], [], [], []⟩, ⟨7, [7, 8, 9], [], [], [], []⟩, ⟨8, [4, 5], [], [], [], []⟩]
noncomputable def c33 : IR := bodyF (compFn Try.prog h33 Try.f33)
noncomputable def F33 : IFn := ⟨2, 45, c33, [⟨4, none⟩, ⟨5, none⟩]⟩
theorem is33 : compFn Try.prog h33 Try.f33 = some F33 := by kernel_rfl

/-- saleroom/saleroomref52.Pivotal -/
noncomputable def h34 : List RH := [⟨0, [1, 2], [], [], [], []⟩, ⟨1, [1, 2, 6], [], [], [], []⟩, ⟨2, [1, 2, 6, 10], [], [], [], []⟩, ⟨3, [4, 5], [], [], [], []⟩, ⟨4, [1, 2, 20], [], [], [], []⟩, ⟨5, [4, 5], [], [], [], []⟩, ⟨6, [4, 5], [], [], [⟨false, 2, (some 18), 0, 0, false⟩, ⟨false, 2, (some 19), 0, 0, false⟩], []⟩]
noncomputable def c34 : IR := bodyF (compFn Try.prog h34 Try.f34)
noncomputable def F34 : IFn := ⟨2, 30, c34, [⟨4, none⟩, ⟨5, none⟩]⟩
theorem is34 : compFn Try.prog h34 Try.f34 = some F34 := by kernel_rfl

/-- saleroom/threshold.Margin -/
noncomputable def h35 : List RH := [⟨0, [1, 2], [], [], [], []⟩, ⟨1, [1, 2, 6], [], [], [], []⟩, ⟨2, [1, 2, 6, 11], [], [], [], []⟩, ⟨3, [4, 5], [], [], [], []⟩, ⟨4, [4, 5], [], [], [], []⟩]
noncomputable def c35 : IR := bodyF (compFn Try.prog h35 Try.f35)
noncomputable def F35 : IFn := ⟨2, 17, c35, [⟨4, none⟩, ⟨5, none⟩]⟩
theorem is35 : compFn Try.prog h35 Try.f35 = some F35 := by kernel_rfl

/-- saleroom/saleroomref52.Margin -/
noncomputable def h36 : List RH := [⟨0, [1, 2], [], [], [], []⟩, ⟨1, [1, 2, 6], [], [], [], []⟩, ⟨2, [1, 2, 6, 15], [], [], [], []⟩, ⟨3, [4, 5], [], [], [], []⟩, ⟨4, [1, 2, 25], [], [], [], []⟩, ⟨5, [4, 5], [], [], [], []⟩, ⟨6, [1, 2, 7, 8], [], [], [], []⟩, ⟨7, [1, 2, 7, 8, 9], [], [], [⟨false, 2, (some 18), 0, 0, false⟩, ⟨false, 2, (some 19), 0, 0, false⟩], []⟩, ⟨8, [1, 2, 7, 8, 9, 10], [], [], [], []⟩, ⟨9, [1, 2, 7, 8, 9, 10, 31], [], [], [], []⟩, ⟨11, [1, 2, 7, 8, 9, 10, 11], [], [], [], []⟩, ⟨12, [1, 2, 7, 8, 9, 10, 11, 45], [], [], [], []⟩, ⟨13, [1, 2, 7, 8, 9, 10, 11], [], [], [], []⟩, ⟨14, [1, 2, 7, 8, 9, 10, 11, 56], [], [], [], []⟩, ⟨15, [1, 2, 7, 8, 9, 10], [], [], [], []⟩, ⟨16, [1, 2, 7, 8, 9, 10, 11, 60], [], [], [], []⟩, ⟨17, [1, 2, 7, 8, 9, 10], [], [], [], []⟩, ⟨10, [1, 2, 7, 8, 9, 10], [], [], [], []⟩, ⟨18, [4, 5], [], [], [], []⟩]
noncomputable def c36 : IR := bodyF (compFn Try.prog h36 Try.f36)
noncomputable def F36 : IFn := ⟨2, 65, c36, [⟨4, none⟩, ⟨5, none⟩]⟩
theorem is36 : compFn Try.prog h36 Try.f36 = some F36 := by kernel_rfl

/-- saleroom/threshold.Margins -/
noncomputable def h37 : List RH := [⟨0, [1], [], [], [], []⟩, ⟨1, [1, 4], [], [], [], []⟩, ⟨2, [1, 4, 8], [], [], [], []⟩, ⟨3, [2, 3], [], [], [], []⟩, ⟨4, [2, 3], [], [], [⟨false, 1, (some 18), 0, 0, false⟩, ⟨false, 1, (some 19), 0, 0, false⟩], []⟩]
noncomputable def c37 : IR := bodyF (compFn Try.prog h37 Try.f37)
noncomputable def F37 : IFn := ⟨1, 17, c37, [⟨2, none⟩, ⟨3, none⟩]⟩
theorem is37 : compFn Try.prog h37 Try.f37 = some F37 := by kernel_rfl

/-- saleroom/saleroomref20.Feasible -/
noncomputable def h55 : List RH := [⟨0, [1, 2], [], [], [], []⟩, ⟨1, [1, 2, 5], [], [], [], []⟩, ⟨2, [1, 2, 5, 11], [], [], [], []⟩, ⟨3, [4], [], [], [], []⟩, ⟨4, [2, 6, 7], [], [], [⟨false, 2, (some 18), 0, 0, false⟩, ⟨false, 2, (some 19), 0, 0, false⟩, ⟨false, 1, none, 0, 0, false⟩], []⟩, ⟨5, [2, 6, 20], [], [], [], []⟩, ⟨6, [4], [], [], [], []⟩, ⟨7, [24], [], [], [], []⟩, ⟨8, [4], [], [], [], []⟩, ⟨9, [4], [], [], [], []⟩]
noncomputable def c55 : IR := bodyF (compFn Try.prog h55 Try.f55)
noncomputable def F55 : IFn := ⟨2, 25, c55, [⟨4, none⟩]⟩
theorem is55 : compFn Try.prog h55 Try.f55 = some F55 := by kernel_rfl

/-- saleroom/saleroomref20.Value -/
noncomputable def h58 : List RH := [⟨0, [1, 2], [], [], [], []⟩, ⟨1, [1, 2, 11], [], [], [], []⟩, ⟨2, [4], [], [], [], []⟩, ⟨3, [5], [], [], [⟨false, 2, (some 18), 0, 0, false⟩, ⟨false, 2, (some 19), 0, 0, false⟩, ⟨false, 1, none, 0, 0, false⟩], []⟩, ⟨4, [5, 7], [], [], [], []⟩, ⟨5, [5, 7, 8], [], [], [], []⟩, ⟨6, [5, 7, 8, 21], [], [], [], []⟩, ⟨8, [5, 7, 8], [], [], [], []⟩, ⟨7, [5, 7, 8], [], [], [], []⟩, ⟨9, [4], [], [], [], []⟩]
noncomputable def c58 : IR := bodyF (compFn Try.prog h58 Try.f58)
noncomputable def F58 : IFn := ⟨2, 32, c58, [⟨4, none⟩]⟩
theorem is58 : compFn Try.prog h58 Try.f58 = some F58 := by kernel_rfl

/-- saleroom/saleroomref23.Few -/
noncomputable def h59 : List RH := [⟨0, [1, 2], [], [], [], []⟩, ⟨1, [4], [], [], [], []⟩]
noncomputable def c59 : IR := bodyF (compFn Try.prog h59 Try.f59)
noncomputable def F59 : IFn := ⟨2, 16, c59, [⟨4, none⟩]⟩
theorem is59 : compFn Try.prog h59 Try.f59 = some F59 := by kernel_rfl

/-- saleroom/saleroomlaw23.Three -/
noncomputable def h60 : List RH := [⟨0, [0], [], [], [], []⟩, ⟨1, [0, 1], [], [], [], []⟩, ⟨2, [0], [], [2, 9], [], []⟩]
noncomputable def c60 : IR := bodyF (compFn Try.prog h60 Try.f60)
noncomputable def F60 : IFn := ⟨0, 14, c60, [⟨0, (some (some 20))⟩]⟩
theorem is60 : compFn Try.prog h60 Try.f60 = some F60 := by kernel_rfl

/-- saleroom/vickrey.open -/
noncomputable def h61 : List RH := [⟨0, [2, 3, 4], [], [], [], []⟩, ⟨1, [2, 3, 4, 6], [], [], [], []⟩, ⟨2, [2, 3, 4, 6, 19], [], [], [], []⟩, ⟨3, [4, 5], [], [], [], []⟩, ⟨4, [2, 3, 4, 7], [], [4], [], []⟩, ⟨5, [2, 3, 4, 7, 8], [], [], [], []⟩, ⟨6, [2, 4, 7, 8, 34, 35, 36], [], [], [], []⟩, ⟨7, [2, 4, 7, 8, 34, 35, 36, 37], [], [], [], []⟩, ⟨8, [2, 4, 7, 8, 10, 34, 35, 36], [], [], [], []⟩, ⟨9, [2, 4, 7, 8, 11, 34, 35, 36], [], [], [], []⟩, ⟨10, [2, 4, 7, 8, 11, 34, 35, 36], [], [], [], []⟩, ⟨11, [2, 4, 7, 8, 34, 35, 36], [], [], [], []⟩, ⟨12, [2, 4, 7, 8, 34, 35, 36], [], [], [], []⟩, ⟨13, [4, 7, 8, 12, 13], [], [], [], []⟩, ⟨14, [4, 7, 8, 12, 13, 65], [], [], [], []⟩, ⟨15, [4, 5], [], [], [], []⟩, ⟨16, [4, 7, 8, 70], [], [], [], []⟩, ⟨17, [4, 5], [], [], [], []⟩, ⟨18, [4, 7], [], [], [], []⟩, ⟨19, [4, 5], [], [], [], []⟩]
noncomputable def c61 : IR := bodyF (compFn Try.prog h61 Try.f61)
noncomputable def F61 : IFn := ⟨2, 75, c61, [⟨4, (some (some 23))⟩, ⟨5, none⟩]⟩
theorem is61 : compFn Try.prog h61 Try.f61 = some F61 := by kernel_rfl

/-- (saleroom/vickrey.deal).each -/
noncomputable def h62 : List RH := [⟨0, [1, 2], [], [], [], []⟩, ⟨1, [1, 2, 5], [], [], [], [⟨true, 5, none, 2, 1, true⟩]⟩, ⟨2, [1, 5, 9, 10], [], [], [], []⟩, ⟨3, [1, 5, 9, 10, 11], [], [], [], []⟩, ⟨4, [1, 5, 6, 9, 10], [], [], [], []⟩, ⟨5, [1, 5, 9, 10], [], [4, 5], [], []⟩, ⟨6, [1, 5, 9, 10], [], [], [], []⟩, ⟨7, [4], [], [], [], []⟩]
noncomputable def c62 : IR := bodyF (compFn Try.prog h62 Try.f62)
noncomputable def F62 : IFn := ⟨2, 21, c62, [⟨4, none⟩]⟩
theorem is62 : compFn Try.prog h62 Try.f62 = some F62 := by kernel_rfl

/-- (saleroom/vickrey.deal).payment -/
noncomputable def h63 : List RH := [⟨0, [1, 2], [], [], [], []⟩, ⟨1, [1, 2, 12], [], [], [], []⟩, ⟨2, [4], [], [], [], []⟩, ⟨3, [1, 2, 5], [], [], [], []⟩, ⟨4, [4], [], [], [], []⟩]
noncomputable def c63 : IR := bodyF (compFn Try.prog h63 Try.f63)
noncomputable def F63 : IFn := ⟨2, 34, c63, [⟨4, none⟩]⟩
theorem is63 : compFn Try.prog h63 Try.f63 = some F63 := by kernel_rfl

/-- saleroom/saleroomref27.Fault -/
noncomputable def h64 : List RH := [⟨0, [2, 3], [], [], [], []⟩, ⟨1, [2, 3, 5], [], [], [], []⟩, ⟨2, [2, 3, 5, 11], [], [], [], []⟩, ⟨3, [4], [], [], [], []⟩, ⟨4, [21], [], [], [], []⟩, ⟨5, [4], [], [], [], []⟩, ⟨6, [4], [], [], [], []⟩]
noncomputable def c64 : IR := bodyF (compFn Try.prog h64 Try.f64)
noncomputable def F64 : IFn := ⟨2, 22, c64, [⟨4, none⟩]⟩
theorem is64 : compFn Try.prog h64 Try.f64 = some F64 := by kernel_rfl

/-- saleroom/saleroomref27.pays -/
noncomputable def h65 : List RH := [⟨0, [2, 3, 4], [], [], [], []⟩, ⟨1, [2, 3, 7, 8], [], [], [], []⟩, ⟨2, [2, 3, 8, 17], [], [], [], []⟩, ⟨3, [6], [], [], [], []⟩, ⟨4, [6], [], [], [], []⟩]
noncomputable def c65 : IR := bodyF (compFn Try.prog h65 Try.f65)
noncomputable def F65 : IFn := ⟨3, 25, c65, [⟨6, none⟩]⟩
theorem is65 : compFn Try.prog h65 Try.f65 = some F65 := by kernel_rfl

/-- (saleroom/vickrey.deal).discount -/
noncomputable def h66 : List RH := [⟨0, [1, 2], [], [], [], []⟩, ⟨1, [4], [], [], [], []⟩]
noncomputable def c66 : IR := bodyF (compFn Try.prog h66 Try.f66)
noncomputable def F66 : IFn := ⟨2, 14, c66, [⟨4, none⟩]⟩
theorem is66 : compFn Try.prog h66 Try.f66 = some F66 := by kernel_rfl

/-- saleroom/saleroomref27.won -/
noncomputable def h67 : List RH := [⟨0, [2, 3, 4], [], [], [], []⟩, ⟨1, [2, 3, 4, 8, 9], [], [], [], []⟩, ⟨2, [2, 3, 4, 8, 9, 10], [], [], [], []⟩, ⟨3, [2, 3, 4, 8, 9, 10, 16], [], [], [], []⟩, ⟨5, [2, 3, 4, 8, 9, 10, 11], [], [], [], []⟩, ⟨6, [2, 3, 4, 8, 9, 10, 11, 31], [], [], [], []⟩, ⟨7, [2, 3, 4, 8, 9, 10], [], [], [], []⟩, ⟨8, [2, 3, 4, 8, 9, 10], [], [], [], []⟩, ⟨4, [2, 3, 4, 8, 9, 10], [], [], [], []⟩, ⟨9, [6, 7], [], [], [], []⟩]
noncomputable def c67 : IR := bodyF (compFn Try.prog h67 Try.f67)
noncomputable def F67 : IFn := ⟨3, 40, c67, [⟨6, none⟩, ⟨7, none⟩]⟩
theorem is67 : compFn Try.prog h67 Try.f67 = some F67 := by kernel_rfl

/-- saleroom/saleroomref08.Valid -/
noncomputable def h68 : List RH := [⟨0, [1], [], [], [], []⟩, ⟨1, [1, 3], [], [], [], []⟩, ⟨2, [1, 3, 5], [], [], [], []⟩, ⟨4, [1, 3, 17], [], [], [], []⟩, ⟨5, [2], [], [], [], []⟩, ⟨3, [1, 3], [], [], [], []⟩, ⟨6, [2], [], [], [], []⟩]
noncomputable def c68 : IR := bodyF (compFn Try.prog h68 Try.f68)
noncomputable def F68 : IFn := ⟨1, 18, c68, [⟨2, none⟩]⟩
theorem is68 : compFn Try.prog h68 Try.f68 = some F68 := by kernel_rfl

/-- saleroom/saleroomref20.fits -/
noncomputable def h69 : List RH := [⟨0, [1, 2], [], [], [], []⟩, ⟨1, [1, 2, 5], [], [], [], []⟩, ⟨2, [1, 2, 5, 17], [], [], [], []⟩, ⟨4, [1, 2, 5, 6], [], [], [], []⟩, ⟨5, [1, 2, 5, 6, 7], [], [], [], []⟩, ⟨6, [1, 2, 5, 6, 7, 23], [], [], [], []⟩, ⟨8, [1, 2, 5, 6, 7, 8], [], [], [], []⟩, ⟨9, [1, 2, 5, 6, 7], [], [], [], []⟩, ⟨7, [1, 2, 5, 6, 7], [], [], [], []⟩, ⟨10, [1, 2, 5, 6, 11], [], [], [], []⟩, ⟨11, [1, 2, 5, 48], [], [], [], []⟩, ⟨12, [4], [], [], [], []⟩, ⟨3, [1, 2, 5], [], [], [], []⟩, ⟨13, [4], [], [], [], []⟩]
noncomputable def c69 : IR := bodyF (compFn Try.prog h69 Try.f69)
noncomputable def F69 : IFn := ⟨2, 49, c69, [⟨4, none⟩]⟩
theorem is69 : compFn Try.prog h69 Try.f69 = some F69 := by kernel_rfl

/-- saleroom/saleroomref23.extend -/
noncomputable def h70 : List RH := [⟨0, [2, 4, 5, 7, 8], [], [], [], []⟩, ⟨1, [2, 4, 5, 7, 8, 30], [], [], [], []⟩, ⟨2, [2, 4, 5, 7, 8], [], [], [], []⟩, ⟨3, [4, 5, 7, 8, 9], [], [], [], []⟩, ⟨4, [4, 5, 7, 8, 9, 37], [], [], [], []⟩, ⟨6, [4, 5, 7, 8, 9, 10], [], [3, 5, 6], [], []⟩, ⟨7, [4, 5, 7, 8, 9, 10, 49], [], [], [], []⟩, ⟨8, [4, 5, 7, 8, 9], [], [], [⟨false, 4, (some 18), 0, 0, false⟩, ⟨false, 4, (some 19), 0, 0, false⟩, ⟨false, 7, (some 0), 0, 0, false⟩, ⟨false, 10, none, 0, 0, false⟩], []⟩, ⟨5, [4, 5, 7, 8, 9], [], [], [], []⟩, ⟨9, [8], [], [], [], []⟩]
noncomputable def c70 : IR := bodyF (compFn Try.prog h70 Try.f70)
noncomputable def F70 : IFn := ⟨4, 67, c70, [⟨8, (some (some 2))⟩]⟩
theorem is70 : compFn Try.prog h70 Try.f70 = some F70 := by kernel_rfl

/-- saleroom/saleroomref27.Has -/
noncomputable def h71 : List RH := [⟨0, [0, 1], [], [], [], []⟩, ⟨1, [0, 1, 5], [], [], [], []⟩, ⟨2, [0, 1, 5, 8], [], [], [], []⟩, ⟨4, [0, 1, 5], [], [], [], []⟩, ⟨3, [0, 1, 5], [], [], [], []⟩, ⟨5, [4], [], [], [], []⟩]
noncomputable def c71 : IR := bodyF (compFn Try.prog h71 Try.f71)
noncomputable def F71 : IFn := ⟨2, 16, c71, [⟨4, none⟩]⟩
theorem is71 : compFn Try.prog h71 Try.f71 = some F71 := by kernel_rfl

/-- saleroom/saleroomlaw52.three -/
noncomputable def h72 : List RH := [⟨0, [0], [], [], [], []⟩, ⟨1, [0, 1], [], [], [], []⟩, ⟨2, [0], [], [2, 9], [], []⟩]
noncomputable def c72 : IR := bodyF (compFn Try.prog h72 Try.f72)
noncomputable def F72 : IFn := ⟨0, 14, c72, [⟨0, (some (some 20))⟩]⟩
theorem is72 : compFn Try.prog h72 Try.f72 = some F72 := by kernel_rfl

/-- saleroom/threshold.fault -/
noncomputable def h73 : List RH := [⟨0, [1, 2], [], [], [], []⟩, ⟨1, [1, 2, 5], [], [], [], []⟩, ⟨2, [1, 2, 5, 9], [], [], [], []⟩, ⟨3, [4], [], [], [], []⟩, ⟨4, [19], [], [], [], []⟩, ⟨5, [4], [], [], [], []⟩, ⟨6, [4], [], [], [], []⟩]
noncomputable def c73 : IR := bodyF (compFn Try.prog h73 Try.f73)
noncomputable def F73 : IFn := ⟨2, 20, c73, [⟨4, none⟩]⟩
theorem is73 : compFn Try.prog h73 Try.f73 = some F73 := by kernel_rfl

/-- (saleroom/threshold.task).without -/
noncomputable def h74 : List RH := [⟨0, [1, 2, 4], [], [], [], []⟩, ⟨1, [1, 2, 4, 5], [], [], [], []⟩, ⟨2, [4, 5], [], [5, 12], [], []⟩, ⟨3, [4], [], [], [], []⟩]
noncomputable def c74 : IR := bodyF (compFn Try.prog h74 Try.f74)
noncomputable def F74 : IFn := ⟨2, 24, c74, [⟨4, (some (some 20))⟩]⟩
theorem is74 : compFn Try.prog h74 Try.f74 = some F74 := by kernel_rfl

/-- saleroom/coalition.Best -/
noncomputable def h75 : List RH := [⟨0, [1, 2, 4], [], [], [], []⟩, ⟨1, [1, 2, 4, 6], [], [], [], []⟩, ⟨2, [1, 2, 4, 6, 19], [], [], [], []⟩, ⟨3, [4, 5], [], [], [], []⟩, ⟨4, [1, 2, 4, 7], [], [1], [], []⟩, ⟨5, [2, 4, 7, 8], [], [2], [], []⟩, ⟨6, [2, 4, 7, 8, 9], [], [2], [], [⟨true, 9, (some 0), 3, 1, false⟩]⟩, ⟨7, [2, 4, 7, 8, 9, 10], [], [], [], []⟩, ⟨8, [4, 7, 8, 9, 10, 34, 35, 36], [], [], [], []⟩, ⟨9, [4, 7, 8, 9, 10, 34, 35, 36, 37], [], [], [], []⟩, ⟨10, [4, 7, 8, 9, 10, 11, 12, 34, 35, 36], [], [], [], []⟩, ⟨11, [4, 7, 8, 9, 10, 11, 12, 34, 35, 36, 47], [], [], [], []⟩, ⟨12, [4, 7, 8, 9, 10, 11, 12, 13, 14, 34, 35, 36], [], [3], [], []⟩, ⟨13, [4, 7, 8, 9, 10, 11, 12, 13, 34, 35, 36, 65], [], [6], [], []⟩, ⟨14, [4, 7, 8, 9, 10, 12, 13, 34, 35, 36], [], [4], [], []⟩, ⟨15, [4, 7, 8, 9, 10, 34, 35, 36], [], [], [], []⟩, ⟨16, [4, 7, 8, 9, 10, 34, 35, 36], [], [], [], []⟩, ⟨17, [4, 5], [], [], [], []⟩]
noncomputable def c75 : IR := bodyF (compFn Try.prog h75 Try.f75)
noncomputable def F75 : IFn := ⟨2, 79, c75, [⟨4, (some (some 2))⟩, ⟨5, none⟩]⟩
theorem is75 : compFn Try.prog h75 Try.f75 = some F75 := by kernel_rfl

/-- (saleroom/threshold.task).everyone -/
noncomputable def h76 : List RH := [⟨0, [1], [], [], [], []⟩, ⟨1, [2], [], [], [], []⟩]
noncomputable def c76 : IR := bodyF (compFn Try.prog h76 Try.f76)
noncomputable def F76 : IFn := ⟨1, 9, c76, [⟨2, none⟩]⟩
theorem is76 : compFn Try.prog h76 Try.f76 = some F76 := by kernel_rfl

/-- saleroom/saleroomref51.Lists -/
noncomputable def h77 : List RH := [⟨0, [1], [], [], [], []⟩, ⟨1, [2], [], [2], [], []⟩]
noncomputable def c77 : IR := bodyF (compFn Try.prog h77 Try.f77)
noncomputable def F77 : IFn := ⟨1, 6, c77, [⟨2, none⟩]⟩
theorem is77 : compFn Try.prog h77 Try.f77 = some F77 := by kernel_rfl

/-- saleroom/saleroomref51.Has -/
noncomputable def h78 : List RH := [⟨0, [0, 1], [], [], [], []⟩, ⟨1, [0, 1, 5], [], [], [], []⟩, ⟨2, [0, 1, 5, 9], [], [], [], []⟩, ⟨4, [0, 1, 5, 17], [], [], [], []⟩, ⟨5, [4], [], [], [], []⟩, ⟨3, [0, 1, 5], [], [], [], []⟩, ⟨6, [4], [], [], [], []⟩]
noncomputable def c78 : IR := bodyF (compFn Try.prog h78 Try.f78)
noncomputable def F78 : IFn := ⟨2, 18, c78, [⟨4, none⟩]⟩
theorem is78 : compFn Try.prog h78 Try.f78 = some F78 := by kernel_rfl

/-- saleroom/problem.Check -/
noncomputable def h79 : List RH := [⟨0, [1], [], [], [], []⟩, ⟨1, [1, 3], [], [], [], []⟩, ⟨2, [1, 3, 4], [], [], [], []⟩, ⟨3, [1, 3, 4, 15], [], [], [], []⟩, ⟨4, [2], [], [], [], []⟩, ⟨5, [1, 3, 5], [], [0], [], []⟩, ⟨6, [3, 5, 19, 20, 21], [], [], [], []⟩, ⟨7, [3, 5, 19, 20, 21, 22], [], [], [], []⟩, ⟨8, [3, 5, 7, 19, 20, 21], [], [], [], []⟩, ⟨9, [3, 5, 7, 8, 19, 20, 21], [], [], [], []⟩, ⟨10, [3, 5, 7, 8, 19, 20, 21, 29], [], [], [], []⟩, ⟨11, [2], [], [], [], []⟩, ⟨12, [3, 5, 9, 19, 20, 21], [], [], [], []⟩, ⟨13, [3, 5, 9, 19, 20, 21, 38], [], [], [], []⟩, ⟨14, [2], [], [], [], []⟩, ⟨15, [3, 5, 19, 20, 21], [], [], [], []⟩, ⟨16, [3, 5, 19, 20, 21], [], [], [], []⟩, ⟨17, [2], [], [], [], []⟩]
noncomputable def c79 : IR := bodyF (compFn Try.prog h79 Try.f79)
noncomputable def F79 : IFn := ⟨1, 42, c79, [⟨2, none⟩]⟩
theorem is79 : compFn Try.prog h79 Try.f79 = some F79 := by kernel_rfl

/-- saleroom/coalition.Worth -/
noncomputable def h80 : List RH := [⟨0, [1, 2], [], [], [], []⟩, ⟨1, [1, 2, 6], [], [], [], []⟩, ⟨2, [1, 2, 6, 12], [], [], [], []⟩, ⟨3, [4, 5], [], [], [], []⟩, ⟨4, [1, 7], [], [1], [], []⟩, ⟨5, [4, 5], [], [3, 4], [], []⟩]
noncomputable def c80 : IR := bodyF (compFn Try.prog h80 Try.f80)
noncomputable def F80 : IFn := ⟨2, 21, c80, [⟨4, none⟩, ⟨5, none⟩]⟩
theorem is80 : compFn Try.prog h80 Try.f80 = some F80 := by kernel_rfl

/-- (saleroom/threshold.task).worth -/
noncomputable def h81 : List RH := [⟨0, [1], [], [], [], []⟩, ⟨1, [3], [], [], [], []⟩, ⟨2, [2], [], [], [], []⟩]
noncomputable def c81 : IR := bodyF (compFn Try.prog h81 Try.f81)
noncomputable def F81 : IFn := ⟨1, 14, c81, [⟨2, none⟩]⟩
theorem is81 : compFn Try.prog h81 Try.f81 = some F81 := by kernel_rfl

/-- saleroom/saleroomref52.most -/
noncomputable def h82 : List RH := [⟨0, [1], [], [], [], []⟩, ⟨1, [1, 3], [], [], [], []⟩, ⟨2, [1, 3, 4], [], [], [⟨false, 1, (some 18), 0, 0, false⟩, ⟨false, 1, (some 19), 0, 0, false⟩], []⟩, ⟨3, [1, 3, 4, 5], [], [], [], []⟩, ⟨4, [1, 3, 4, 5, 12], [], [], [], []⟩, ⟨6, [1, 3, 4, 5, 6], [], [], [], []⟩, ⟨7, [1, 3, 4, 5, 6, 23], [], [], [], []⟩, ⟨8, [1, 3, 4, 5], [], [], [], []⟩, ⟨5, [1, 3, 4, 5], [], [], [], []⟩, ⟨9, [2], [], [], [], []⟩]
noncomputable def c82 : IR := bodyF (compFn Try.prog h82 Try.f82)
noncomputable def F82 : IFn := ⟨1, 26, c82, [⟨2, none⟩]⟩
theorem is82 : compFn Try.prog h82 Try.f82 = some F82 := by kernel_rfl

/-- saleroom/saleroomref20.Without -/
noncomputable def h83 : List RH := [⟨0, [1, 2, 4], [], [], [], []⟩, ⟨1, [1, 2, 4, 9], [], [], [], []⟩, ⟨2, [4], [], [], [], []⟩, ⟨3, [1, 2, 4, 5], [], [], [], [⟨true, 5, (some 19), 43, 8, true⟩]⟩, ⟨4, [1, 2, 4, 5], [], [], [], [⟨true, 5, (some 19), 43, 8, true⟩]⟩, ⟨5, [1, 2, 4, 5, 6], [], [], [], []⟩, ⟨6, [1, 2, 4, 5, 6, 17], [], [], [], []⟩, ⟨8, [1, 2, 4, 5, 6, 30], [], [], [], []⟩, ⟨9, [1, 2, 4, 5, 6], [], [8], [], []⟩, ⟨7, [1, 2, 4, 5, 6], [], [], [], []⟩, ⟨10, [4], [], [], [], []⟩]
noncomputable def c83 : IR := bodyF (compFn Try.prog h83 Try.f83)
noncomputable def F83 : IFn := ⟨2, 42, c83, [⟨4, (some (some 20))⟩]⟩
theorem is83 : compFn Try.prog h83 Try.f83 = some F83 := by kernel_rfl

/-- (saleroom/threshold.task).margin -/
noncomputable def h84 : List RH := [⟨0, [1, 2], [], [], [], []⟩, ⟨1, [4], [], [], [⟨false, 2, (some 18), 0, 0, false⟩, ⟨false, 2, (some 19), 0, 0, false⟩, ⟨false, 1, none, 0, 0, false⟩], []⟩]
noncomputable def c84 : IR := bodyF (compFn Try.prog h84 Try.f84)
noncomputable def F84 : IFn := ⟨2, 14, c84, [⟨4, none⟩]⟩
theorem is84 : compFn Try.prog h84 Try.f84 = some F84 := by kernel_rfl

/-- saleroom/threshold.each -/
noncomputable def h85 : List RH := [⟨0, [0, 1], [], [], [], []⟩, ⟨1, [0, 1, 5], [], [], [], [⟨true, 5, none, 2, 1, true⟩]⟩, ⟨2, [1, 5, 7, 8], [], [], [], []⟩, ⟨3, [1, 5, 7, 8, 9], [], [], [], []⟩, ⟨4, [1, 5, 6, 7, 8], [], [], [], []⟩, ⟨5, [1, 5, 7, 8], [], [4, 5], [], []⟩, ⟨6, [1, 5, 7, 8], [], [], [], []⟩, ⟨7, [4], [], [], [], []⟩]
noncomputable def c85 : IR := bodyF (compFn Try.prog h85 Try.f85)
noncomputable def F85 : IFn := ⟨2, 19, c85, [⟨4, none⟩]⟩
theorem is85 : compFn Try.prog h85 Try.f85 = some F85 := by kernel_rfl

/-- saleroom/problem.Feasible -/
noncomputable def h100 : List RH := [⟨0, [1, 2], [], [], [], []⟩, ⟨1, [1, 2, 5], [], [], [], []⟩, ⟨2, [1, 2, 5, 11], [], [], [], []⟩, ⟨3, [4], [], [], [], []⟩, ⟨4, [2, 6, 7], [], [], [⟨false, 2, (some 18), 0, 0, false⟩, ⟨false, 2, (some 19), 0, 0, false⟩, ⟨false, 1, none, 0, 0, false⟩], []⟩, ⟨5, [2, 6, 19], [], [], [], []⟩, ⟨6, [4], [], [], [], []⟩, ⟨7, [22], [], [], [], []⟩, ⟨8, [4], [], [], [], []⟩, ⟨9, [4], [], [], [], []⟩]
noncomputable def c100 : IR := bodyF (compFn Try.prog h100 Try.f100)
noncomputable def F100 : IFn := ⟨2, 28, c100, [⟨4, none⟩]⟩
theorem is100 : compFn Try.prog h100 Try.f100 = some F100 := by kernel_rfl

/-- saleroom/saleroomref20.Picked -/
noncomputable def h109 : List RH := [⟨0, [1, 2], [], [], [], []⟩, ⟨1, [1, 2, 6], [], [], [], [⟨true, 6, none, 43, 8, true⟩]⟩, ⟨2, [1, 2, 6, 7], [], [], [], []⟩, ⟨3, [1, 2, 6, 7, 11], [], [], [], []⟩, ⟨5, [1, 2, 6, 7, 44], [], [], [], []⟩, ⟨6, [4, 5], [], [], [], []⟩, ⟨7, [1, 2, 6, 7], [], [9, 10], [], []⟩, ⟨4, [1, 2, 6, 7], [], [], [], []⟩, ⟨8, [4, 5], [], [], [], []⟩]
noncomputable def c109 : IR := bodyF (compFn Try.prog h109 Try.f109)
noncomputable def F109 : IFn := ⟨2, 57, c109, [⟨4, none⟩, ⟨5, none⟩]⟩
theorem is109 : compFn Try.prog h109 Try.f109 = some F109 := by kernel_rfl

/-- saleroom/saleroomref20.coef -/
noncomputable def h110 : List RH := [⟨0, [1, 3, 5], [], [], [], []⟩, ⟨1, [1, 3, 5, 8], [], [], [], []⟩, ⟨2, [1, 3, 5, 8, 13], [], [], [], []⟩, ⟨3, [20], [], [], [], []⟩, ⟨4, [6, 7], [], [], [], []⟩, ⟨5, [6, 7], [], [], [], []⟩, ⟨6, [1, 3, 5, 8, 21], [], [], [], []⟩, ⟨7, [6, 7], [], [], [], []⟩, ⟨8, [3, 5, 9], [], [], [], []⟩, ⟨9, [3, 5, 9, 67], [], [], [], []⟩, ⟨10, [6, 7], [], [], [], []⟩, ⟨11, [6, 7], [], [], [], []⟩]
noncomputable def c110 : IR := bodyF (compFn Try.prog h110 Try.f110)
noncomputable def F110 : IFn := ⟨3, 80, c110, [⟨6, none⟩, ⟨7, none⟩]⟩
theorem is110 : compFn Try.prog h110 Try.f110 = some F110 := by kernel_rfl

/-- saleroom/saleroomref23.Fits -/
noncomputable def h111 : List RH := [⟨0, [1, 2], [], [], [], []⟩, ⟨1, [1, 2, 5, 6], [], [], [], []⟩, ⟨2, [1, 2, 5, 6, 7], [], [], [], []⟩, ⟨3, [1, 2, 5, 6, 7, 14], [], [], [], []⟩, ⟨5, [1, 2, 5, 6, 7, 8], [], [], [], []⟩, ⟨6, [1, 2, 5, 6, 7, 8, 9], [], [], [], []⟩, ⟨7, [1, 2, 5, 6, 7, 8, 9, 27], [], [], [], []⟩, ⟨9, [1, 2, 5, 6, 7, 8, 9, 41], [], [], [], []⟩, ⟨10, [4], [], [], [], []⟩, ⟨8, [1, 2, 5, 6, 7, 8, 9], [], [], [], []⟩, ⟨11, [1, 2, 5, 6, 7, 8, 10], [], [], [], []⟩, ⟨12, [1, 2, 5, 6, 7, 8, 10, 43], [], [], [], []⟩, ⟨14, [1, 2, 5, 6, 7, 8, 10], [], [], [], []⟩, ⟨15, [1, 2, 5, 6, 7, 8, 10, 73], [], [], [], []⟩, ⟨16, [1, 2, 5, 6, 7, 8, 10], [], [], [], []⟩, ⟨17, [1, 2, 5, 6, 7, 8, 10, 101], [], [], [], []⟩, ⟨18, [4], [], [], [], []⟩, ⟨13, [1, 2, 5, 6, 7, 8, 10], [], [], [], []⟩, ⟨4, [1, 2, 5, 6, 7], [], [], [], []⟩, ⟨19, [4], [], [], [], []⟩]
noncomputable def c111 : IR := bodyF (compFn Try.prog h111 Try.f111)
noncomputable def F111 : IFn := ⟨2, 102, c111, [⟨4, none⟩]⟩
theorem is111 : compFn Try.prog h111 Try.f111 = some F111 := by kernel_rfl

/-- saleroom/coalition.fault -/
noncomputable def h112 : List RH := [⟨0, [1, 2], [], [], [], []⟩, ⟨1, [1, 2, 5], [], [], [], []⟩, ⟨2, [1, 2, 5, 9], [], [], [], []⟩, ⟨3, [4], [], [], [], []⟩, ⟨4, [20], [], [], [], []⟩, ⟨5, [4], [], [], [], []⟩, ⟨6, [4], [], [], [], []⟩]
noncomputable def c112 : IR := bodyF (compFn Try.prog h112 Try.f112)
noncomputable def F112 : IFn := ⟨2, 21, c112, [⟨4, none⟩]⟩
theorem is112 : compFn Try.prog h112 Try.f112 = some F112 := by kernel_rfl

/-- saleroom/coalition.newSolver -/
noncomputable def h113 : List RH := [⟨0, [1], [], [], [], []⟩, ⟨1, [1, 3], [], [1], [], [⟨true, 3, (some 20), 43, 8, true⟩, ⟨true, 3, (some 21), 43, 8, true⟩, ⟨true, 3, (some 22), 43, 8, true⟩, ⟨true, 3, (some 23), 43, 8, true⟩, ⟨true, 3, (some 24), 43, 8, true⟩, ⟨true, 3, (some 25), 43, 8, true⟩, ⟨true, 3, (some 26), 43, 8, true⟩, ⟨true, 3, (some 27), 43, 8, true⟩]⟩, ⟨2, [3, 11, 12, 13], [], [], [], []⟩, ⟨3, [3, 11, 12, 13, 14], [], [], [], []⟩, ⟨4, [3, 5, 11, 12, 13], [], [], [], []⟩, ⟨5, [3, 11, 12, 13], [], [12], [], []⟩, ⟨6, [3, 11, 12, 13], [], [], [], []⟩, ⟨7, [2], [], [], [], []⟩]
noncomputable def c113 : IR := bodyF (compFn Try.prog h113 Try.f113)
noncomputable def F113 : IFn := ⟨1, 35, c113, [⟨2, none⟩]⟩
theorem is113 : compFn Try.prog h113 Try.f113 = some F113 := by kernel_rfl

/-- (*saleroom/coalition.solver).start -/
noncomputable def h114 : List RH := [⟨0, [0, 1, 4], [], [], [], []⟩, ⟨1, [4], [], [], [], []⟩]
noncomputable def c114 : IR := bodyF (compFn Try.prog h114 Try.f114)
noncomputable def F114 : IFn := ⟨2, 17, c114, [⟨4, (some (some 13))⟩]⟩
theorem is114 : compFn Try.prog h114 Try.f114 = some F114 := by kernel_rfl

/-- (*saleroom/coalition.solver).best -/
noncomputable def h115 : List RH := [⟨0, [0, 3], [], [], [], []⟩, ⟨1, [0, 3, 16], [], [], [], []⟩, ⟨2, [4], [], [], [], []⟩, ⟨3, [0, 3, 5, 6], [], [], [], []⟩, ⟨4, [0, 3, 5, 26], [], [], [], []⟩, ⟨5, [4], [], [], [], []⟩, ⟨6, [0, 3, 7], [], [], [], []⟩, ⟨7, [0, 3, 7, 33], [], [], [], []⟩, ⟨8, [0, 3, 7], [], [], [], []⟩, ⟨9, [0, 3, 7, 8], [], [], [], []⟩, ⟨10, [0, 3, 7, 8], [], [], [], []⟩, ⟨11, [0, 3, 7, 9], [], [2], [], []⟩, ⟨12, [0, 3, 9, 51, 52, 53], [], [], [], []⟩, ⟨13, [0, 3, 9, 51, 52, 53, 54], [], [], [], []⟩, ⟨14, [0, 3, 9, 11, 51, 52, 53], [], [], [], []⟩, ⟨15, [0, 3, 9, 11, 12, 13, 51, 52, 53], [], [3], [], []⟩, ⟨16, [0, 3, 9, 11, 12, 51, 52, 53, 64], [], [], [], []⟩, ⟨17, [0, 3, 9, 51, 52, 53], [], [5], [], []⟩, ⟨18, [0, 3, 9, 51, 52, 53], [], [], [], []⟩, ⟨19, [9], [], [], [], []⟩, ⟨20, [4], [], [], [], []⟩]
noncomputable def c115 : IR := bodyF (compFn Try.prog h115 Try.f115)
noncomputable def F115 : IFn := ⟨2, 81, c115, [⟨4, none⟩]⟩
theorem is115 : compFn Try.prog h115 Try.f115 = some F115 := by kernel_rfl

/-- (*saleroom/coalition.solver).after -/
noncomputable def h116 : List RH := [⟨0, [0, 4, 5, 6], [], [], [], []⟩, ⟨1, [4, 5, 6, 8], [], [2], [], []⟩, ⟨2, [4, 5, 6, 8, 24], [], [], [], []⟩, ⟨3, [6, 7], [], [], [], []⟩, ⟨4, [6, 7], [], [], [], []⟩]
noncomputable def c116 : IR := bodyF (compFn Try.prog h116 Try.f116)
noncomputable def F116 : IFn := ⟨3, 42, c116, [⟨6, (some (some 13))⟩, ⟨7, none⟩]⟩
theorem is116 : compFn Try.prog h116 Try.f116 = some F116 := by kernel_rfl

/-- saleroom/saleroomref51.extend -/
noncomputable def h117 : List RH := [⟨0, [1, 2, 3, 4], [], [], [], []⟩, ⟨1, [1, 3, 4, 9], [], [], [], []⟩, ⟨2, [1, 3, 4, 9, 16], [], [], [], []⟩, ⟨4, [1, 3, 4, 9, 10], [], [2, 4, 5], [], []⟩, ⟨5, [1, 3, 4, 9, 10, 28], [], [], [], []⟩, ⟨6, [1, 3, 4, 9], [], [6, 7, 8], [⟨false, 10, none, 0, 0, false⟩], []⟩, ⟨3, [1, 3, 4, 9], [], [], [], []⟩, ⟨7, [8], [], [], [], []⟩]
noncomputable def c117 : IR := bodyF (compFn Try.prog h117 Try.f117)
noncomputable def F117 : IFn := ⟨4, 39, c117, [⟨8, none⟩]⟩
theorem is117 : compFn Try.prog h117 Try.f117 = some F117 := by kernel_rfl

/-- (saleroom/problem.view).frame -/
noncomputable def h118 : List RH := [⟨0, [1], [], [], [], []⟩, ⟨1, [1, 3], [], [], [], []⟩, ⟨2, [1, 3, 14], [], [], [], []⟩, ⟨3, [2], [], [], [], []⟩, ⟨4, [1, 16], [], [], [], []⟩, ⟨5, [1, 16, 17], [], [], [], []⟩, ⟨6, [1, 4, 16], [], [], [], []⟩, ⟨7, [1, 4, 5, 6, 16], [], [], [], []⟩, ⟨8, [1, 16, 60], [], [], [], []⟩, ⟨9, [2], [], [], [], []⟩, ⟨10, [1, 16], [], [], [], []⟩, ⟨11, [1, 73], [], [], [], []⟩, ⟨12, [2], [], [], [], []⟩, ⟨13, [76, 77, 78], [], [], [], []⟩, ⟨14, [76, 77, 78, 79], [], [], [], []⟩, ⟨15, [8, 76, 77, 78], [], [], [], []⟩, ⟨16, [76, 77, 78, 87], [], [], [], []⟩, ⟨17, [2], [], [], [], []⟩, ⟨18, [76, 77, 78], [], [], [], []⟩, ⟨19, [2], [], [], [], []⟩]
noncomputable def c118 : IR := bodyF (compFn Try.prog h118 Try.f118)
noncomputable def F118 : IFn := ⟨1, 89, c118, [⟨2, none⟩]⟩
theorem is118 : compFn Try.prog h118 Try.f118 = some F118 := by kernel_rfl

/-- (saleroom/problem.view).offer -/
noncomputable def h119 : List RH := [⟨0, [2, 3], [], [], [], []⟩, ⟨1, [2, 3, 5], [], [], [], []⟩, ⟨2, [2, 3, 5, 13], [], [], [], []⟩, ⟨3, [4], [], [], [], []⟩, ⟨4, [2, 3, 15], [], [], [], []⟩, ⟨5, [4], [], [], [], []⟩, ⟨6, [20], [], [2], [], []⟩, ⟨7, [4], [], [], [], []⟩, ⟨8, [4], [], [], [], []⟩]
noncomputable def c119 : IR := bodyF (compFn Try.prog h119 Try.f119)
noncomputable def F119 : IFn := ⟨2, 26, c119, [⟨4, none⟩]⟩
theorem is119 : compFn Try.prog h119 Try.f119 = some F119 := by kernel_rfl

/-- (saleroom/threshold.task).after -/
noncomputable def h120 : List RH := [⟨0, [1, 2, 4], [], [], [], []⟩, ⟨1, [2, 4, 5], [], [], [], []⟩, ⟨2, [2, 4, 5, 6], [], [], [], [⟨true, 6, (some 19), 43, 8, true⟩]⟩, ⟨3, [2, 4, 5, 6], [], [], [], [⟨true, 6, (some 19), 43, 8, true⟩]⟩, ⟨4, [2, 4, 5, 6, 21], [], [], [], []⟩, ⟨5, [2, 4, 5, 6, 21, 22], [], [], [], []⟩, ⟨6, [2, 4, 5, 6, 7, 21], [], [], [], []⟩, ⟨7, [2, 4, 5, 6, 7, 21], [], [], [], []⟩, ⟨8, [2, 4, 5, 6, 7, 21, 49], [], [], [], []⟩, ⟨9, [2, 4, 5, 6, 7, 21], [], [], [], []⟩, ⟨10, [2, 4, 5, 6, 21], [], [], [], []⟩, ⟨11, [2, 4, 5, 6, 21], [], [], [], []⟩, ⟨12, [4, 5, 6, 81, 82, 83], [], [], [], []⟩, ⟨13, [4, 5, 6, 81, 82, 83, 84], [], [], [], []⟩, ⟨14, [4, 5, 6, 9, 81, 82, 83], [], [], [], []⟩, ⟨15, [4, 5, 6, 9, 81, 82, 83, 96], [], [], [], []⟩, ⟨16, [4, 5, 6, 81, 82, 83], [], [5], [], []⟩, ⟨17, [4, 5, 6, 81, 82, 83], [], [], [], []⟩, ⟨18, [4], [], [], [], []⟩]
noncomputable def c120 : IR := bodyF (compFn Try.prog h120 Try.f120)
noncomputable def F120 : IFn := ⟨2, 107, c120, [⟨4, (some (some 20))⟩]⟩
theorem is120 : compFn Try.prog h120 Try.f120 = some F120 := by kernel_rfl

/-- saleroom/problem.picked -/
noncomputable def h133 : List RH := [⟨0, [1, 2], [], [], [], []⟩, ⟨1, [1, 2, 6], [], [], [], [⟨true, 6, none, 43, 8, true⟩]⟩, ⟨2, [1, 2, 6, 7], [], [], [], []⟩, ⟨3, [2, 6, 7, 10, 11, 12], [], [], [], []⟩, ⟨4, [2, 6, 7, 10, 11, 12, 13], [], [], [], []⟩, ⟨5, [2, 6, 7, 9, 10, 11, 12], [], [], [], []⟩, ⟨6, [2, 6, 9, 10, 11, 12, 25], [], [], [], []⟩, ⟨7, [4, 5], [], [], [], []⟩, ⟨8, [2, 6, 7, 9, 10, 11, 12], [], [], [], []⟩, ⟨9, [2, 6, 7, 10, 11, 12], [], [6, 7], [], []⟩, ⟨10, [2, 6, 7, 10, 11, 12], [], [], [], []⟩, ⟨11, [4, 5], [], [], [], []⟩]
noncomputable def c133 : IR := bodyF (compFn Try.prog h133 Try.f133)
noncomputable def F133 : IFn := ⟨2, 37, c133, [⟨4, none⟩, ⟨5, none⟩]⟩
theorem is133 : compFn Try.prog h133 Try.f133 = some F133 := by kernel_rfl

/-- (saleroom/problem.view).fits -/
noncomputable def h134 : List RH := [⟨0, [1, 2], [], [], [], []⟩, ⟨1, [1, 2, 5], [], [], [], []⟩, ⟨2, [1, 2, 5, 11, 12], [], [], [], []⟩, ⟨3, [1, 2, 5, 11, 12, 13], [], [], [], []⟩, ⟨4, [1, 2, 5, 6, 11, 12], [], [], [], []⟩, ⟨5, [1, 2, 5, 6, 7, 11, 12], [], [], [], []⟩, ⟨6, [1, 2, 5, 6, 7, 11, 12, 15, 16, 17], [], [], [], []⟩, ⟨7, [1, 2, 5, 6, 7, 11, 12, 15, 16, 17, 18], [], [], [], []⟩, ⟨8, [1, 2, 5, 6, 7, 9, 11, 12, 15, 16, 17], [], [], [], []⟩, ⟨9, [1, 2, 5, 6, 7, 11, 12, 15, 16, 17], [], [], [], []⟩, ⟨10, [1, 2, 5, 6, 7, 11, 12, 15, 16, 17], [], [], [], []⟩, ⟨11, [1, 2, 5, 11, 12, 33], [], [], [], []⟩, ⟨12, [4], [], [], [], []⟩, ⟨13, [1, 2, 5, 11, 12], [], [], [], []⟩, ⟨14, [4], [], [], [], []⟩]
noncomputable def c134 : IR := bodyF (compFn Try.prog h134 Try.f134)
noncomputable def F134 : IFn := ⟨2, 35, c134, [⟨4, none⟩]⟩
theorem is134 : compFn Try.prog h134 Try.f134 = some F134 := by kernel_rfl

/-- (*saleroom/coalition.solver).outside -/
noncomputable def h143 : List RH := [⟨0, [0, 3, 4], [], [], [], []⟩, ⟨1, [0, 3, 4, 5], [], [], [], []⟩, ⟨2, [0, 3, 4, 5, 9], [], [], [], []⟩, ⟨3, [0, 3, 4, 5, 9, 10], [], [], [], []⟩, ⟨4, [0, 3, 4, 5, 6, 9], [], [], [], []⟩, ⟨5, [0, 3, 4, 5, 6, 9, 38], [], [], [], []⟩, ⟨6, [0, 3, 4, 5, 9], [], [], [], []⟩, ⟨7, [0, 3, 4, 5, 9], [], [], [], []⟩, ⟨8, [4], [], [], [], []⟩]
noncomputable def c143 : IR := bodyF (compFn Try.prog h143 Try.f143)
noncomputable def F143 : IFn := ⟨2, 43, c143, [⟨4, (some (some 6))⟩]⟩
theorem is143 : compFn Try.prog h143 Try.f143 = some F143 := by kernel_rfl

/-- saleroom/bundle.Within -/
noncomputable def h144 : List RH := [⟨0, [2, 3], [], [], [], []⟩, ⟨1, [4], [], [], [], []⟩]
noncomputable def c144 : IR := bodyF (compFn Try.prog h144 Try.f144)
noncomputable def F144 : IFn := ⟨2, 10, c144, [⟨4, none⟩]⟩
theorem is144 : compFn Try.prog h144 Try.f144 = some F144 := by kernel_rfl

/-- saleroom/bundle.Sub -/
noncomputable def h145 : List RH := [⟨0, [2, 3, 4], [], [], [], []⟩, ⟨1, [2, 3, 4, 6], [], [], [], []⟩, ⟨2, [2, 3, 4, 6, 7], [], [], [], []⟩, ⟨3, [2, 3, 4, 5, 6], [], [], [], []⟩, ⟨4, [2, 3, 4, 6], [], [], [], []⟩, ⟨5, [2, 3, 4, 6], [], [], [], []⟩, ⟨6, [4], [], [], [], []⟩]
noncomputable def c145 : IR := bodyF (compFn Try.prog h145 Try.f145)
noncomputable def F145 : IFn := ⟨2, 19, c145, [⟨4, (some (some 6))⟩]⟩
theorem is145 : compFn Try.prog h145 Try.f145 = some F145 := by kernel_rfl

/-- saleroom/bundle.Check -/
noncomputable def h146 : List RH := [⟨0, [1], [], [], [], []⟩, ⟨1, [5, 6], [], [], [], []⟩, ⟨2, [5, 6, 7], [], [], [], []⟩, ⟨3, [4, 5, 6], [], [], [], []⟩, ⟨4, [5, 6, 14], [], [], [], []⟩, ⟨5, [2], [], [], [], []⟩, ⟨6, [5, 6], [], [], [], []⟩, ⟨7, [2], [], [], [], []⟩]
noncomputable def c146 : IR := bodyF (compFn Try.prog h146 Try.f146)
noncomputable def F146 : IFn := ⟨1, 16, c146, [⟨2, none⟩]⟩
theorem is146 : compFn Try.prog h146 Try.f146 = some F146 := by kernel_rfl

/-- saleroom/problem.simple -/
noncomputable def h147 : List RH := [⟨0, [0, 3], [], [], [], []⟩, ⟨1, [3, 5], [], [], [], []⟩, ⟨2, [4], [], [], [], []⟩, ⟨3, [3, 15], [], [], [], []⟩, ⟨4, [4], [], [], [], []⟩, ⟨5, [4], [], [], [], []⟩]
noncomputable def c147 : IR := bodyF (compFn Try.prog h147 Try.f147)
noncomputable def F147 : IFn := ⟨2, 27, c147, [⟨4, none⟩]⟩
theorem is147 : compFn Try.prog h147 Try.f147 = some F147 := by kernel_rfl

/-- (saleroom/threshold.task).outside -/
noncomputable def h148 : List RH := [⟨0, [1, 2, 3], [], [], [], []⟩, ⟨1, [6], [], [], [], []⟩]
noncomputable def c148 : IR := bodyF (compFn Try.prog h148 Try.f148)
noncomputable def F148 : IFn := ⟨3, 27, c148, [⟨6, none⟩]⟩
theorem is148 : compFn Try.prog h148 Try.f148 = some F148 := by kernel_rfl

/-- (saleroom/threshold.task).fits -/
noncomputable def h149 : List RH := [⟨0, [2, 3], [], [], [], []⟩, ⟨1, [2, 3, 6], [], [], [], []⟩, ⟨2, [2, 3, 6, 7], [], [], [], []⟩, ⟨3, [2, 3, 5, 6], [], [], [], []⟩, ⟨4, [2, 3, 6, 37], [], [], [], []⟩, ⟨5, [4], [], [], [], []⟩, ⟨6, [2, 3, 6], [], [], [], []⟩, ⟨7, [4], [], [], [], []⟩]
noncomputable def c149 : IR := bodyF (compFn Try.prog h149 Try.f149)
noncomputable def F149 : IFn := ⟨2, 39, c149, [⟨4, none⟩]⟩
theorem is149 : compFn Try.prog h149 Try.f149 = some F149 := by kernel_rfl

/-- (saleroom/problem.view).coef -/
noncomputable def h156 : List RH := [⟨0, [1, 3, 5], [], [], [], []⟩, ⟨1, [1, 3, 5, 7], [], [], [], []⟩, ⟨6, [3, 5, 7, 41], [], [], [], []⟩, ⟨7, [6], [], [], [], []⟩, ⟨8, [3, 5, 7, 50], [], [], [], []⟩, ⟨9, [6], [], [], [], []⟩, ⟨10, [3, 5, 7, 53], [], [], [], []⟩, ⟨11, [6], [], [], [], []⟩, ⟨2, [3, 5, 7], [], [], [], []⟩, ⟨3, [5, 7, 36], [], [], [], []⟩, ⟨4, [6], [], [], [], []⟩, ⟨5, [6], [], [], [], []⟩]
noncomputable def c156 : IR := bodyF (compFn Try.prog h156 Try.f156)
noncomputable def F156 : IFn := ⟨3, 60, c156, [⟨6, none⟩]⟩
theorem is156 : compFn Try.prog h156 Try.f156 = some F156 := by kernel_rfl

/-- (saleroom/problem.view).rows -/
noncomputable def h157 : List RH := [⟨0, [1], [], [], [], []⟩, ⟨1, [2], [], [], [], []⟩]
noncomputable def c157 : IR := bodyF (compFn Try.prog h157 Try.f157)
noncomputable def F157 : IFn := ⟨1, 8, c157, [⟨2, none⟩]⟩
theorem is157 : compFn Try.prog h157 Try.f157 = some F157 := by kernel_rfl

/-- (saleroom/problem.view).bound -/
noncomputable def h158 : List RH := [⟨0, [1, 2], [], [], [], []⟩, ⟨1, [2, 5], [], [], [], []⟩, ⟨3, [2, 5, 18], [], [], [], []⟩, ⟨4, [4], [], [], [], []⟩, ⟨5, [2, 5, 21], [], [], [], []⟩, ⟨6, [4], [], [], [], []⟩, ⟨2, [4], [], [], [], []⟩]
noncomputable def c158 : IR := bodyF (compFn Try.prog h158 Try.f158)
noncomputable def F158 : IFn := ⟨2, 29, c158, [⟨4, none⟩]⟩
theorem is158 : compFn Try.prog h158 Try.f158 = some F158 := by kernel_rfl

/-- saleroom/bundle.Meet -/
noncomputable def h163 : List RH := [⟨0, [2, 3, 4], [], [], [], []⟩, ⟨1, [2, 3, 4, 6], [], [], [], []⟩, ⟨2, [2, 3, 4, 6, 7], [], [], [], []⟩, ⟨3, [2, 3, 4, 5, 6], [], [], [], []⟩, ⟨4, [2, 3, 4, 6], [], [], [], []⟩, ⟨5, [2, 3, 4, 6], [], [], [], []⟩, ⟨6, [4], [], [], [], []⟩]
noncomputable def c163 : IR := bodyF (compFn Try.prog h163 Try.f163)
noncomputable def F163 : IFn := ⟨2, 20, c163, [⟨4, (some (some 6))⟩]⟩
theorem is163 : compFn Try.prog h163 Try.f163 = some F163 := by kernel_rfl

end Go.Proofs.Ytigbjjkijfkeeaa.Ir
