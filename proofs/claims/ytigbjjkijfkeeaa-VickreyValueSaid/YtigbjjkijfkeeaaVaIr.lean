/-
  The small code of the functions, printed by program; each is what 'compFn' makes of the function.
-/
import Derived.Test.YtigbjjkijfkeeaaChecked
import Derived.Test.YtigbjjkijfkeeaaViComp
import Derived.KernelRfl
set_option maxRecDepth 100000
namespace Go.Proofs.Ytigbjjkijfkeeaa.Ir
open Go Go.Vi

/-- saleroom/saleroomlaw27.VickreyPays -/
noncomputable def c3 : IR :=
 (.seq (.region 0 false 1 [
   ⟨0, 0, (some 3), .box 27 (.tmp 0), none⟩,
   ⟨1, 1, (some 6), .mov (.const (.bool false)), none⟩] [] [1, 2, 3] [] [])
 (.seq (.seq (.region 1 false 0 [
   ⟨0, 0, (some 20), .load (some 20) (.tmp 3), none⟩,
   ⟨1, 0, (some 21), .call 15 [(.tmp 20)] false, none⟩,
   ⟨2, 0, (some 22), .un .not (.tmp 21), none⟩,
   ⟨3, 0, (some 23), .mov (.tmp 22), none⟩,
   ⟨4, 0, (some 24), .mov (.tmp 1), (some ((some 23), false))⟩,
   ⟨5, 0, (some 25), .len 0 (.tmp 24), (some ((some 23), false))⟩,
   ⟨6, 0, (some 26), .bin .gtr (.tmp 25) (.const (.int .i64 20)), (some ((some 23), false))⟩,
   ⟨7, 0, (some 27), .pick (.tmp 23) (.const (.bool true)) (.tmp 26), none⟩] [] [1, 2, 3, 27] [] [])
 (.cond (.tmp 27)
  (.seq (.region 2 false 0 [
    ⟨0, 0, (some 28), .call 16 [] false, none⟩,
    ⟨1, 0, (some 6), .mov (.tmp 28), none⟩] [] [6] [] [])
  .ret)
  .skip))
 (.seq (.region 3 false 1 [
   ⟨0, 0, (some 29), .mov (.tmp 1), none⟩,
   ⟨1, 0, (some 30), .build [(.slice none 0 0), (.int .i64 0)] [(0, 1, (.tmp 29))], none⟩,
   ⟨2, 0, (some 7), .alloc [(.slice none 0 0), (.int .i64 0)] 31 false, none⟩,
   ⟨3, 1, none, .store 2 (.tmp 7) (.tmp 30), none⟩] [] [2, 3, 7] [] [])
 (.seq (.region 4 false 0 [
   ⟨0, 0, (some 32), .load (some 20) (.tmp 3), none⟩,
   ⟨1, 0, (some 33), .load (some 2) (.tmp 7), none⟩,
   ⟨2, 0, (some 34), .call 17 [(.tmp 32), (.tmp 33)] false, none⟩,
   ⟨3, 0, (some 31), .mov (.tmp 34), none⟩,
   ⟨4, 0, (some 35), .extract (.tmp 31) 0, none⟩,
   ⟨5, 0, (some 36), .extract (.tmp 31) 1, none⟩,
   ⟨6, 0, (some 8), .mov (.tmp 35), none⟩,
   ⟨7, 0, (some 9), .mov (.tmp 36), none⟩] [] [2, 3, 7, 8, 9] [⟨false, 3, (some 18), 0, 0, false⟩, ⟨false, 3, (some 19), 0, 0, false⟩, ⟨false, 7, (some 0), 0, 0, false⟩] [])
 (.seq (.region 5 false 0 [
   ⟨0, 0, (some 38), .load (some 20) (.tmp 3), none⟩,
   ⟨1, 0, (some 39), .load (some 2) (.tmp 7), none⟩,
   ⟨2, 0, (some 40), .call 18 [(.tmp 38), (.tmp 39)] false, none⟩,
   ⟨3, 0, (some 37), .mov (.tmp 40), none⟩,
   ⟨4, 0, (some 41), .extract (.tmp 37) 0, none⟩,
   ⟨5, 0, (some 42), .extract (.tmp 37) 1, none⟩,
   ⟨6, 0, (some 10), .mov (.tmp 41), none⟩,
   ⟨7, 0, (some 11), .mov (.tmp 42), none⟩] [] [2, 3, 7, 8, 9, 10, 11] [⟨false, 3, (some 18), 0, 0, false⟩, ⟨false, 3, (some 19), 0, 0, false⟩, ⟨false, 7, (some 0), 0, 0, false⟩] [])
 (.seq (.region 6 false 0 [
   ⟨0, 0, (some 44), .load (some 20) (.tmp 3), none⟩,
   ⟨1, 0, (some 45), .load (some 2) (.tmp 7), none⟩,
   ⟨2, 0, (some 46), .call 19 [(.tmp 44), (.tmp 45)] false, none⟩,
   ⟨3, 0, (some 43), .mov (.tmp 46), none⟩,
   ⟨4, 0, (some 47), .extract (.tmp 43) 0, none⟩,
   ⟨5, 0, (some 48), .extract (.tmp 43) 1, none⟩,
   ⟨6, 0, (some 12), .mov (.tmp 47), none⟩,
   ⟨7, 0, (some 13), .mov (.tmp 48), none⟩] [] [2, 3, 7, 8, 9, 10, 11, 12, 13] [⟨false, 3, (some 18), 0, 0, false⟩, ⟨false, 3, (some 19), 0, 0, false⟩, ⟨false, 7, (some 0), 0, 0, false⟩] [])
 (.seq (.region 7 false 0 [
   ⟨0, 0, (some 50), .load (some 20) (.tmp 3), none⟩,
   ⟨1, 0, (some 51), .load (some 2) (.tmp 7), none⟩,
   ⟨2, 0, (some 52), .call 20 [(.tmp 50), (.tmp 51)] false, none⟩,
   ⟨3, 0, (some 49), .mov (.tmp 52), none⟩,
   ⟨4, 0, (some 53), .extract (.tmp 49) 0, none⟩,
   ⟨5, 0, (some 54), .extract (.tmp 49) 1, none⟩,
   ⟨6, 0, (some 14), .mov (.tmp 53), none⟩,
   ⟨7, 0, (some 15), .mov (.tmp 54), none⟩] [] [2, 3, 7, 8, 9, 10, 11, 12, 13, 14, 15] [⟨false, 3, (some 18), 0, 0, false⟩, ⟨false, 3, (some 19), 0, 0, false⟩, ⟨false, 7, (some 0), 0, 0, false⟩] [])
 (.seq (.region 8 false 0 [
   ⟨0, 0, (some 56), .load (some 20) (.tmp 3), none⟩,
   ⟨1, 0, (some 57), .load (some 2) (.tmp 7), none⟩,
   ⟨2, 0, (some 58), .mov (.tmp 2), none⟩,
   ⟨3, 0, (some 59), .call 21 [(.tmp 56), (.tmp 57), (.tmp 58)] false, none⟩,
   ⟨4, 0, (some 55), .mov (.tmp 59), none⟩,
   ⟨5, 0, (some 60), .extract (.tmp 55) 0, none⟩,
   ⟨6, 0, (some 61), .extract (.tmp 55) 1, none⟩,
   ⟨7, 0, (some 16), .mov (.tmp 60), none⟩,
   ⟨8, 0, (some 17), .mov (.tmp 61), none⟩] [] [2, 3, 7, 8, 9, 10, 11, 12, 13, 14, 15, 16, 17] [] [])
 (.seq (.region 9 false 0 [
   ⟨0, 0, (some 63), .load (some 20) (.tmp 3), none⟩,
   ⟨1, 0, (some 64), .load (some 2) (.tmp 7), none⟩,
   ⟨2, 0, (some 65), .mov (.tmp 2), none⟩,
   ⟨3, 0, (some 66), .call 22 [(.tmp 63), (.tmp 64), (.tmp 65)] false, none⟩,
   ⟨4, 0, (some 62), .mov (.tmp 66), none⟩,
   ⟨5, 0, (some 67), .extract (.tmp 62) 0, none⟩,
   ⟨6, 0, (some 68), .extract (.tmp 62) 1, none⟩,
   ⟨7, 0, (some 18), .mov (.tmp 67), none⟩,
   ⟨8, 0, (some 19), .mov (.tmp 68), none⟩] [] [8, 9, 10, 11, 12, 13, 14, 15, 16, 17, 18, 19] [] [])
 (.seq (.region 10 false 0 [
   ⟨0, 0, (some 69), .mov (.tmp 9), none⟩,
   ⟨1, 0, (some 70), .mov (.tmp 11), none⟩,
   ⟨2, 0, (some 71), .bin .eql (.tmp 69) (.tmp 70), none⟩,
   ⟨3, 0, (some 72), .mov (.tmp 71), none⟩,
   ⟨4, 0, (some 73), .mov (.tmp 8), (some ((some 72), true))⟩,
   ⟨5, 0, (some 74), .mov (.tmp 10), (some ((some 72), true))⟩,
   ⟨6, 0, (some 75), .call 23 [(.tmp 73), (.tmp 74)] false, (some ((some 72), true))⟩,
   ⟨7, 0, (some 76), .pick (.tmp 72) (.tmp 75) (.const (.bool false)), none⟩,
   ⟨8, 0, (some 77), .mov (.tmp 76), none⟩,
   ⟨9, 0, (some 78), .mov (.tmp 13), (some ((some 77), true))⟩,
   ⟨10, 0, (some 79), .mov (.tmp 15), (some ((some 77), true))⟩,
   ⟨11, 0, (some 80), .bin .eql (.tmp 78) (.tmp 79), (some ((some 77), true))⟩,
   ⟨12, 0, (some 81), .pick (.tmp 77) (.tmp 80) (.const (.bool false)), none⟩,
   ⟨13, 0, (some 82), .mov (.tmp 81), none⟩,
   ⟨14, 0, (some 83), .mov (.tmp 12), (some ((some 82), true))⟩,
   ⟨15, 0, (some 84), .mov (.tmp 14), (some ((some 82), true))⟩,
   ⟨16, 0, (some 85), .call 23 [(.tmp 83), (.tmp 84)] false, (some ((some 82), true))⟩,
   ⟨17, 0, (some 86), .pick (.tmp 82) (.tmp 85) (.const (.bool false)), none⟩,
   ⟨18, 0, (some 87), .mov (.tmp 86), none⟩,
   ⟨19, 0, (some 88), .mov (.tmp 17), (some ((some 87), true))⟩,
   ⟨20, 0, (some 89), .mov (.tmp 19), (some ((some 87), true))⟩,
   ⟨21, 0, (some 90), .bin .eql (.tmp 88) (.tmp 89), (some ((some 87), true))⟩,
   ⟨22, 0, (some 91), .pick (.tmp 87) (.tmp 90) (.const (.bool false)), none⟩,
   ⟨23, 0, (some 92), .mov (.tmp 91), none⟩,
   ⟨24, 0, (some 93), .mov (.tmp 16), (some ((some 92), true))⟩,
   ⟨25, 0, (some 94), .mov (.tmp 18), (some ((some 92), true))⟩,
   ⟨26, 0, (some 95), .bin .eql (.tmp 93) (.tmp 94), (some ((some 92), true))⟩,
   ⟨27, 0, (some 96), .pick (.tmp 92) (.tmp 95) (.const (.bool false)), none⟩,
   ⟨28, 0, (some 97), .mov (.tmp 96), none⟩,
   ⟨29, 0, (some 98), .call 16 [] false, (some ((some 97), true))⟩,
   ⟨30, 0, (some 99), .pick (.tmp 97) (.tmp 98) (.const (.bool false)), none⟩,
   ⟨31, 0, (some 6), .mov (.tmp 99), none⟩] [] [6] [] [])
 .ret))))))))))
noncomputable def h3 : List RH := [⟨0, [1, 2, 3], [], [], [], []⟩, ⟨1, [1, 2, 3, 27], [], [], [], []⟩, ⟨2, [6], [], [], [], []⟩, ⟨3, [2, 3, 7], [], [], [], []⟩, ⟨4, [2, 3, 7, 8, 9], [], [], [⟨false, 3, (some 18), 0, 0, false⟩, ⟨false, 3, (some 19), 0, 0, false⟩, ⟨false, 7, (some 0), 0, 0, false⟩], []⟩, ⟨5, [2, 3, 7, 8, 9, 10, 11], [], [], [⟨false, 3, (some 18), 0, 0, false⟩, ⟨false, 3, (some 19), 0, 0, false⟩, ⟨false, 7, (some 0), 0, 0, false⟩], []⟩, ⟨6, [2, 3, 7, 8, 9, 10, 11, 12, 13], [], [], [⟨false, 3, (some 18), 0, 0, false⟩, ⟨false, 3, (some 19), 0, 0, false⟩, ⟨false, 7, (some 0), 0, 0, false⟩], []⟩, ⟨7, [2, 3, 7, 8, 9, 10, 11, 12, 13, 14, 15], [], [], [⟨false, 3, (some 18), 0, 0, false⟩, ⟨false, 3, (some 19), 0, 0, false⟩, ⟨false, 7, (some 0), 0, 0, false⟩], []⟩, ⟨8, [2, 3, 7, 8, 9, 10, 11, 12, 13, 14, 15, 16, 17], [], [], [], []⟩, ⟨9, [8, 9, 10, 11, 12, 13, 14, 15, 16, 17, 18, 19], [], [], [], []⟩, ⟨10, [6], [], [], [], []⟩]
noncomputable def F3 : IFn := ⟨3, 100, c3, [⟨6, none⟩]⟩
theorem is3 : compFn Try.prog h3 Try.f3 = some F3 := by kernel_rfl

/-- saleroom/saleroomlaw27.VickreyBounds -/
noncomputable def c4 : IR :=
 (.seq (.region 0 false 1 [
   ⟨0, 0, (some 1), .box 27 (.tmp 0), none⟩,
   ⟨1, 1, (some 2), .mov (.const (.bool false)), none⟩] [] [1] [] [])
 (.seq (.seq (.region 1 false 0 [
   ⟨0, 0, (some 12), .load (some 20) (.tmp 1), none⟩,
   ⟨1, 0, (some 13), .call 15 [(.tmp 12)] false, none⟩,
   ⟨2, 0, (some 14), .un .not (.tmp 13), none⟩,
   ⟨3, 0, (some 15), .mov (.tmp 14), none⟩,
   ⟨4, 0, (some 16), .load (some 20) (.tmp 1), (some ((some 15), false))⟩,
   ⟨5, 0, (some 17), .call 24 [(.tmp 16)] false, (some ((some 15), false))⟩,
   ⟨6, 0, (some 18), .bin .neq (.tmp 17) (.const (.int .i64 0)), (some ((some 15), false))⟩,
   ⟨7, 0, (some 19), .pick (.tmp 15) (.const (.bool true)) (.tmp 18), none⟩] [] [1, 19] [] [])
 (.cond (.tmp 19)
  (.seq (.region 2 false 0 [
    ⟨0, 0, (some 20), .call 16 [] false, none⟩,
    ⟨1, 0, (some 2), .mov (.tmp 20), none⟩] [] [2] [] [])
  .ret)
  .skip))
 (.seq (.region 3 false 1 [
   ⟨0, 0, (some 21), .load (some 20) (.tmp 1), none⟩,
   ⟨1, 0, (some 22), .call 25 [(.tmp 21)] false, none⟩,
   ⟨2, 0, (some 3), .alloc [(.slice none 0 0), (.int .i64 0)] 31 false, none⟩,
   ⟨3, 1, none, .store 2 (.tmp 3) (.tmp 22), none⟩] [] [1, 3] [⟨false, 1, (some 18), 0, 0, false⟩, ⟨false, 1, (some 19), 0, 0, false⟩] [])
 (.seq (.region 4 false 0 [
   ⟨0, 0, (some 24), .load (some 20) (.tmp 1), none⟩,
   ⟨1, 0, (some 25), .load (some 2) (.tmp 3), none⟩,
   ⟨2, 0, (some 26), .call 17 [(.tmp 24), (.tmp 25)] false, none⟩,
   ⟨3, 0, (some 23), .mov (.tmp 26), none⟩,
   ⟨4, 0, (some 27), .extract (.tmp 23) 0, none⟩,
   ⟨5, 0, (some 28), .extract (.tmp 23) 1, none⟩,
   ⟨6, 0, (some 4), .mov (.tmp 27), none⟩,
   ⟨7, 0, (some 5), .mov (.tmp 28), none⟩] [] [1, 3, 4, 5] [⟨false, 1, (some 18), 0, 0, false⟩, ⟨false, 1, (some 19), 0, 0, false⟩, ⟨false, 3, (some 0), 0, 0, false⟩] [])
 (.seq (.region 5 false 0 [
   ⟨0, 0, (some 30), .load (some 20) (.tmp 1), none⟩,
   ⟨1, 0, (some 31), .load (some 2) (.tmp 3), none⟩,
   ⟨2, 0, (some 32), .call 19 [(.tmp 30), (.tmp 31)] false, none⟩,
   ⟨3, 0, (some 29), .mov (.tmp 32), none⟩,
   ⟨4, 0, (some 33), .extract (.tmp 29) 0, none⟩,
   ⟨5, 0, (some 34), .extract (.tmp 29) 1, none⟩,
   ⟨6, 0, (some 6), .mov (.tmp 33), none⟩,
   ⟨7, 0, (some 7), .mov (.tmp 34), none⟩] [] [1, 3, 4, 5, 6, 7] [⟨false, 1, (some 18), 0, 0, false⟩, ⟨false, 1, (some 19), 0, 0, false⟩, ⟨false, 3, (some 0), 0, 0, false⟩] [])
 (.seq (.seq (.region 6 false 0 [
   ⟨0, 0, (some 35), .mov (.tmp 5), none⟩,
   ⟨1, 0, (some 36), .bin .neq (.tmp 35) (.const (.int .i64 0)), none⟩,
   ⟨2, 0, (some 37), .mov (.tmp 36), none⟩,
   ⟨3, 0, (some 38), .mov (.tmp 7), (some ((some 37), false))⟩,
   ⟨4, 0, (some 39), .bin .neq (.tmp 38) (.const (.int .i64 0)), (some ((some 37), false))⟩,
   ⟨5, 0, (some 40), .pick (.tmp 37) (.const (.bool true)) (.tmp 39), none⟩,
   ⟨6, 0, (some 41), .mov (.tmp 40), none⟩,
   ⟨7, 0, (some 42), .mov (.tmp 4), (some ((some 41), false))⟩,
   ⟨8, 0, (some 43), .len 0 (.tmp 42), (some ((some 41), false))⟩,
   ⟨9, 0, (some 44), .fieldA 18 (.tmp 1), (some ((some 41), false))⟩,
   ⟨10, 0, (some 45), .load none (.tmp 44), (some ((some 41), false))⟩,
   ⟨11, 0, (some 46), .len 0 (.tmp 45), (some ((some 41), false))⟩,
   ⟨12, 0, (some 47), .bin .neq (.tmp 43) (.tmp 46), (some ((some 41), false))⟩,
   ⟨13, 0, (some 48), .pick (.tmp 41) (.const (.bool true)) (.tmp 47), none⟩,
   ⟨14, 0, (some 49), .mov (.tmp 48), none⟩,
   ⟨15, 0, (some 50), .mov (.tmp 6), (some ((some 49), false))⟩,
   ⟨16, 0, (some 51), .len 0 (.tmp 50), (some ((some 49), false))⟩,
   ⟨17, 0, (some 52), .fieldA 18 (.tmp 1), (some ((some 49), false))⟩,
   ⟨18, 0, (some 53), .load none (.tmp 52), (some ((some 49), false))⟩,
   ⟨19, 0, (some 54), .len 0 (.tmp 53), (some ((some 49), false))⟩,
   ⟨20, 0, (some 55), .bin .neq (.tmp 51) (.tmp 54), (some ((some 49), false))⟩,
   ⟨21, 0, (some 56), .pick (.tmp 49) (.const (.bool true)) (.tmp 55), none⟩] [] [1, 3, 4, 6, 56] [] [])
 (.cond (.tmp 56)
  (.seq (.region 7 false 0 [
    ⟨0, 0, (some 2), .mov (.const (.bool false)), none⟩] [] [2] [] [])
  .ret)
  .skip))
 (.seq (.seq (.region 8 false 0 [
   ⟨0, 0, (some 8), .mov (.const (.int .i64 0)), none⟩] [] [1, 3, 4, 6, 8] [] [])
 (.block 0
  (.loop
   (.seq (.seq (.region 9 false 0 [
     ⟨0, 0, (some 57), .mov (.tmp 8), none⟩,
     ⟨1, 0, (some 58), .mov (.tmp 4), none⟩,
     ⟨2, 0, (some 59), .len 0 (.tmp 58), none⟩,
     ⟨3, 0, (some 60), .bin .lss (.tmp 57) (.tmp 59), none⟩] [] [1, 3, 4, 6, 8, 60] [] [])
   (.cond (.tmp 60)
    .skip
    (.exit 0)))
   (.seq (.block 1
    (.seq (.region 11 false 0 [
      ⟨0, 0, (some 9), .mov (.const (.int .i64 0)), none⟩] [] [1, 3, 4, 6, 8, 9] [] [])
    (.seq (.seq (.region 12 false 0 [
      ⟨0, 0, (some 10), .mov (.const (.int .i64 0)), none⟩] [] [1, 3, 4, 6, 8, 9, 10] [] [])
    (.block 2
     (.loop
      (.seq (.seq (.region 13 false 0 [
        ⟨0, 0, (some 63), .mov (.tmp 10), none⟩,
        ⟨1, 0, (some 64), .fieldA 0 (.tmp 3), none⟩,
        ⟨2, 0, (some 65), .load none (.tmp 64), none⟩,
        ⟨3, 0, (some 66), .len 0 (.tmp 65), none⟩,
        ⟨4, 0, (some 67), .bin .lss (.tmp 63) (.tmp 66), none⟩] [] [1, 3, 4, 6, 8, 9, 10, 67] [] [])
      (.cond (.tmp 67)
       .skip
       (.exit 2)))
      (.seq (.block 3
       (.seq (.region 15 true 1 [
         ⟨0, 0, (some 70), .fieldA 19 (.tmp 1), none⟩,
         ⟨1, 0, (some 71), .load none (.tmp 70), none⟩,
         ⟨2, 0, (some 72), .fieldA 0 (.tmp 3), none⟩,
         ⟨3, 0, (some 73), .load none (.tmp 72), none⟩,
         ⟨4, 0, (some 74), .mov (.tmp 10), none⟩,
         ⟨5, 0, (some 75), .idxS 1 (.tmp 73) (.tmp 74), none⟩,
         ⟨6, 0, (some 76), .load none (.tmp 75), none⟩,
         ⟨7, 0, (some 77), .idxS 8 (.tmp 71) (.tmp 76), none⟩,
         ⟨8, 0, (some 78), .load (some 8) (.tmp 77), none⟩,
         ⟨9, 0, (some 11), .alloc [(.int .i64 0), (.int .i64 0), (.int .i64 0), (.int .i64 0), (.int .i64 0), (.int .i64 0), (.int .i64 0), (.int .i64 0)] 43 false, none⟩,
         ⟨10, 1, none, .store 8 (.tmp 11) (.tmp 78), none⟩] [(1, 9), (3, 9), (5, 9), (6, 9), (7, 9), (8, 9)] [1, 3, 4, 6, 8, 9, 10, 11] [] [])
       (.seq (.region 16 false 0 [
         ⟨0, 0, (some 79), .fieldA 0 (.tmp 11), none⟩,
         ⟨1, 0, (some 80), .load none (.tmp 79), none⟩,
         ⟨2, 0, (some 81), .mov (.tmp 8), none⟩,
         ⟨3, 0, (some 82), .bin .eql (.tmp 80) (.tmp 81), none⟩] [] [1, 3, 4, 6, 8, 9, 10, 11, 82] [] [])
       (.cond (.tmp 82)
        (.region 17 false 0 [
          ⟨0, 0, (some 83), .fieldA 7 (.tmp 11), none⟩,
          ⟨1, 0, (some 84), .load none (.tmp 83), none⟩,
          ⟨2, 0, (some 9), .mov (.tmp 84), none⟩] [] [1, 3, 4, 6, 8, 9, 10] [] [])
        .skip))))
      (.region 14 false 0 [
        ⟨0, 0, (some 68), .mov (.tmp 10), none⟩,
        ⟨1, 0, (some 69), .bin .add (.tmp 68) (.const (.int .i64 1)), none⟩,
        ⟨2, 0, (some 10), .mov (.tmp 69), none⟩] [] [1, 3, 4, 6, 8, 9, 10] [] []))))))
    (.seq (.region 18 true 0 [
      ⟨0, 0, (some 85), .mov (.tmp 4), none⟩,
      ⟨1, 0, (some 86), .mov (.tmp 8), none⟩,
      ⟨2, 0, (some 87), .idxS 1 (.tmp 85) (.tmp 86), none⟩,
      ⟨3, 0, (some 88), .load none (.tmp 87), none⟩,
      ⟨4, 0, (some 89), .bin .lss (.tmp 88) (.const (.int .i64 0)), none⟩,
      ⟨5, 0, (some 90), .mov (.tmp 89), none⟩,
      ⟨6, 0, (some 91), .mov (.tmp 4), (some ((some 90), false))⟩,
      ⟨7, 0, (some 92), .mov (.tmp 8), (some ((some 90), false))⟩,
      ⟨8, 0, (some 93), .idxS 1 (.tmp 91) (.tmp 92), (some ((some 90), false))⟩,
      ⟨9, 0, (some 94), .load none (.tmp 93), (some ((some 90), false))⟩,
      ⟨10, 0, (some 95), .mov (.tmp 9), (some ((some 90), false))⟩,
      ⟨11, 0, (some 96), .bin .gtr (.tmp 94) (.tmp 95), (some ((some 90), false))⟩,
      ⟨12, 0, (some 97), .pick (.tmp 90) (.const (.bool true)) (.tmp 96), none⟩,
      ⟨13, 0, (some 98), .mov (.tmp 97), none⟩,
      ⟨14, 0, (some 99), .mov (.tmp 6), (some ((some 98), false))⟩,
      ⟨15, 0, (some 100), .mov (.tmp 8), (some ((some 98), false))⟩,
      ⟨16, 0, (some 101), .idxS 1 (.tmp 99) (.tmp 100), (some ((some 98), false))⟩,
      ⟨17, 0, (some 102), .load none (.tmp 101), (some ((some 98), false))⟩,
      ⟨18, 0, (some 103), .fieldA 1 (.tmp 3), (some ((some 98), false))⟩,
      ⟨19, 0, (some 104), .load none (.tmp 103), (some ((some 98), false))⟩,
      ⟨20, 0, (some 105), .load (some 20) (.tmp 1), (some ((some 98), false))⟩,
      ⟨21, 0, (some 106), .load (some 20) (.tmp 1), (some ((some 98), false))⟩,
      ⟨22, 0, (some 107), .mov (.tmp 8), (some ((some 98), false))⟩,
      ⟨23, 0, (some 108), .call 27 [(.tmp 106), (.tmp 107)] false, (some ((some 98), false))⟩,
      ⟨24, 0, (some 109), .call 26 [(.tmp 105), (.tmp 108)] false, (some ((some 98), false))⟩,
      ⟨25, 0, (some 110), .bin .sub (.tmp 104) (.tmp 109), (some ((some 98), false))⟩,
      ⟨26, 0, (some 111), .bin .neq (.tmp 102) (.tmp 110), (some ((some 98), false))⟩,
      ⟨27, 0, (some 112), .pick (.tmp 98) (.const (.bool true)) (.tmp 111), none⟩] [] [1, 3, 4, 6, 8, 112] [] [])
    (.cond (.tmp 112)
     (.seq (.region 19 false 0 [
       ⟨0, 0, (some 2), .mov (.const (.bool false)), none⟩] [] [2] [] [])
     .ret)
     .skip)))))
   (.region 10 false 0 [
     ⟨0, 0, (some 61), .mov (.tmp 8), none⟩,
     ⟨1, 0, (some 62), .bin .add (.tmp 61) (.const (.int .i64 1)), none⟩,
     ⟨2, 0, (some 8), .mov (.tmp 62), none⟩] [] [1, 3, 4, 6, 8] [] []))))))
 (.seq (.region 20 false 0 [
   ⟨0, 0, (some 113), .call 16 [] false, none⟩,
   ⟨1, 0, (some 2), .mov (.tmp 113), none⟩] [] [2] [] [])
 .ret))))))))
noncomputable def h4 : List RH := [⟨0, [1], [], [], [], []⟩, ⟨1, [1, 19], [], [], [], []⟩, ⟨2, [2], [], [], [], []⟩, ⟨3, [1, 3], [], [], [⟨false, 1, (some 18), 0, 0, false⟩, ⟨false, 1, (some 19), 0, 0, false⟩], []⟩, ⟨4, [1, 3, 4, 5], [], [], [⟨false, 1, (some 18), 0, 0, false⟩, ⟨false, 1, (some 19), 0, 0, false⟩, ⟨false, 3, (some 0), 0, 0, false⟩], []⟩, ⟨5, [1, 3, 4, 5, 6, 7], [], [], [⟨false, 1, (some 18), 0, 0, false⟩, ⟨false, 1, (some 19), 0, 0, false⟩, ⟨false, 3, (some 0), 0, 0, false⟩], []⟩, ⟨6, [1, 3, 4, 6, 56], [], [], [], []⟩, ⟨7, [2], [], [], [], []⟩, ⟨8, [1, 3, 4, 6, 8], [], [], [], []⟩, ⟨9, [1, 3, 4, 6, 8, 60], [], [], [], []⟩, ⟨11, [1, 3, 4, 6, 8, 9], [], [], [], []⟩, ⟨12, [1, 3, 4, 6, 8, 9, 10], [], [], [], []⟩, ⟨13, [1, 3, 4, 6, 8, 9, 10, 67], [], [], [], []⟩, ⟨15, [1, 3, 4, 6, 8, 9, 10, 11], [], [], [], []⟩, ⟨16, [1, 3, 4, 6, 8, 9, 10, 11, 82], [], [], [], []⟩, ⟨17, [1, 3, 4, 6, 8, 9, 10], [], [], [], []⟩, ⟨14, [1, 3, 4, 6, 8, 9, 10], [], [], [], []⟩, ⟨18, [1, 3, 4, 6, 8, 112], [], [], [], []⟩, ⟨19, [2], [], [], [], []⟩, ⟨10, [1, 3, 4, 6, 8], [], [], [], []⟩, ⟨20, [2], [], [], [], []⟩]
noncomputable def F4 : IFn := ⟨1, 114, c4, [⟨2, none⟩]⟩
theorem is4 : compFn Try.prog h4 Try.f4 = some F4 := by kernel_rfl

/-- saleroom/saleroomlaw27.VickreyValue -/
noncomputable def c5 : IR :=
 (.seq (.region 0 false 2 [
   ⟨0, 0, (some 2), .box 27 (.tmp 0), none⟩,
   ⟨1, 1, (some 3), .box 31 (.tmp 1), none⟩,
   ⟨2, 2, (some 4), .mov (.const (.bool false)), none⟩] [] [2, 3] [] [])
 (.seq (.seq (.region 1 false 0 [
   ⟨0, 0, (some 9), .load (some 20) (.tmp 2), none⟩,
   ⟨1, 0, (some 10), .call 15 [(.tmp 9)] false, none⟩,
   ⟨2, 0, (some 11), .un .not (.tmp 10), none⟩,
   ⟨3, 0, (some 12), .mov (.tmp 11), none⟩,
   ⟨4, 0, (some 13), .fieldA 0 (.tmp 3), (some ((some 12), false))⟩,
   ⟨5, 0, (some 14), .load none (.tmp 13), (some ((some 12), false))⟩,
   ⟨6, 0, (some 15), .len 0 (.tmp 14), (some ((some 12), false))⟩,
   ⟨7, 0, (some 16), .bin .gtr (.tmp 15) (.const (.int .i64 20)), (some ((some 12), false))⟩,
   ⟨8, 0, (some 17), .pick (.tmp 12) (.const (.bool true)) (.tmp 16), none⟩] [] [2, 3, 17] [] [])
 (.cond (.tmp 17)
  (.seq (.region 2 false 0 [
    ⟨0, 0, (some 18), .call 16 [] false, none⟩,
    ⟨1, 0, (some 4), .mov (.tmp 18), none⟩] [] [4] [] [])
  .ret)
  .skip))
 (.seq (.region 3 false 0 [
   ⟨0, 0, (some 20), .load (some 20) (.tmp 2), none⟩,
   ⟨1, 0, (some 21), .load (some 2) (.tmp 3), none⟩,
   ⟨2, 0, (some 22), .call 17 [(.tmp 20), (.tmp 21)] false, none⟩,
   ⟨3, 0, (some 19), .mov (.tmp 22), none⟩,
   ⟨4, 0, (some 23), .extract (.tmp 19) 0, none⟩,
   ⟨5, 0, (some 24), .extract (.tmp 19) 1, none⟩,
   ⟨6, 0, (some 5), .mov (.tmp 23), none⟩,
   ⟨7, 0, (some 6), .mov (.tmp 24), none⟩] [] [2, 3, 5, 6] [⟨false, 2, (some 18), 0, 0, false⟩, ⟨false, 2, (some 19), 0, 0, false⟩, ⟨false, 3, (some 0), 0, 0, false⟩] [])
 (.seq (.region 4 false 0 [
   ⟨0, 0, (some 26), .load (some 20) (.tmp 2), none⟩,
   ⟨1, 0, (some 27), .fieldA 0 (.tmp 3), none⟩,
   ⟨2, 0, (some 28), .load none (.tmp 27), none⟩,
   ⟨3, 0, (some 29), .build [(.slice none 0 0), (.int .i64 0)] [(0, 1, (.tmp 28))], none⟩,
   ⟨4, 0, (some 30), .call 17 [(.tmp 26), (.tmp 29)] false, none⟩,
   ⟨5, 0, (some 25), .mov (.tmp 30), none⟩,
   ⟨6, 0, (some 31), .extract (.tmp 25) 0, none⟩,
   ⟨7, 0, (some 32), .extract (.tmp 25) 1, none⟩,
   ⟨8, 0, (some 7), .mov (.tmp 31), none⟩,
   ⟨9, 0, (some 8), .mov (.tmp 32), none⟩] [] [5, 6, 7, 8] [⟨false, 2, (some 18), 0, 0, false⟩, ⟨false, 2, (some 19), 0, 0, false⟩, ⟨false, 3, (some 0), 0, 0, false⟩] [])
 (.seq (.region 5 false 0 [
   ⟨0, 0, (some 33), .mov (.tmp 6), none⟩,
   ⟨1, 0, (some 34), .mov (.tmp 8), none⟩,
   ⟨2, 0, (some 35), .bin .eql (.tmp 33) (.tmp 34), none⟩,
   ⟨3, 0, (some 36), .mov (.tmp 35), none⟩,
   ⟨4, 0, (some 37), .mov (.tmp 5), (some ((some 36), true))⟩,
   ⟨5, 0, (some 38), .mov (.tmp 7), (some ((some 36), true))⟩,
   ⟨6, 0, (some 39), .call 23 [(.tmp 37), (.tmp 38)] false, (some ((some 36), true))⟩,
   ⟨7, 0, (some 40), .pick (.tmp 36) (.tmp 39) (.const (.bool false)), none⟩,
   ⟨8, 0, (some 41), .mov (.tmp 40), none⟩,
   ⟨9, 0, (some 42), .call 16 [] false, (some ((some 41), true))⟩,
   ⟨10, 0, (some 43), .pick (.tmp 41) (.tmp 42) (.const (.bool false)), none⟩,
   ⟨11, 0, (some 4), .mov (.tmp 43), none⟩] [] [4] [] [])
 .ret)))))
noncomputable def h5 : List RH := [⟨0, [2, 3], [], [], [], []⟩, ⟨1, [2, 3, 17], [], [], [], []⟩, ⟨2, [4], [], [], [], []⟩, ⟨3, [2, 3, 5, 6], [], [], [⟨false, 2, (some 18), 0, 0, false⟩, ⟨false, 2, (some 19), 0, 0, false⟩, ⟨false, 3, (some 0), 0, 0, false⟩], []⟩, ⟨4, [5, 6, 7, 8], [], [], [⟨false, 2, (some 18), 0, 0, false⟩, ⟨false, 2, (some 19), 0, 0, false⟩, ⟨false, 3, (some 0), 0, 0, false⟩], []⟩, ⟨5, [4], [], [], [], []⟩]
noncomputable def F5 : IFn := ⟨2, 44, c5, [⟨4, none⟩]⟩
theorem is5 : compFn Try.prog h5 Try.f5 = some F5 := by kernel_rfl

/-- saleroom/saleroomlaw27.VickreyCompetes -/
noncomputable def c6 : IR :=
 (.seq (.region 0 false 1 [
   ⟨0, 0, (some 2), .box 27 (.tmp 0), none⟩,
   ⟨1, 1, (some 4), .mov (.const (.bool false)), none⟩] [] [1, 2] [] [])
 (.seq (.seq (.region 1 false 0 [
   ⟨0, 0, (some 15), .load (some 20) (.tmp 2), none⟩,
   ⟨1, 0, (some 16), .call 15 [(.tmp 15)] false, none⟩,
   ⟨2, 0, (some 17), .un .not (.tmp 16), none⟩,
   ⟨3, 0, (some 18), .mov (.tmp 17), none⟩,
   ⟨4, 0, (some 19), .load (some 20) (.tmp 2), (some ((some 18), false))⟩,
   ⟨5, 0, (some 20), .call 24 [(.tmp 19)] false, (some ((some 18), false))⟩,
   ⟨6, 0, (some 21), .bin .neq (.tmp 20) (.const (.int .i64 0)), (some ((some 18), false))⟩,
   ⟨7, 0, (some 22), .pick (.tmp 18) (.const (.bool true)) (.tmp 21), none⟩,
   ⟨8, 0, (some 23), .mov (.tmp 22), none⟩,
   ⟨9, 0, (some 24), .mov (.tmp 1), (some ((some 23), false))⟩,
   ⟨10, 0, (some 25), .bin .lss (.tmp 24) (.const (.int .i64 0)), (some ((some 23), false))⟩,
   ⟨11, 0, (some 26), .pick (.tmp 23) (.const (.bool true)) (.tmp 25), none⟩,
   ⟨12, 0, (some 27), .mov (.tmp 26), none⟩,
   ⟨13, 0, (some 28), .mov (.tmp 1), (some ((some 27), false))⟩,
   ⟨14, 0, (some 29), .fieldA 18 (.tmp 2), (some ((some 27), false))⟩,
   ⟨15, 0, (some 30), .load none (.tmp 29), (some ((some 27), false))⟩,
   ⟨16, 0, (some 31), .len 0 (.tmp 30), (some ((some 27), false))⟩,
   ⟨17, 0, (some 32), .bin .geq (.tmp 28) (.tmp 31), (some ((some 27), false))⟩,
   ⟨18, 0, (some 33), .pick (.tmp 27) (.const (.bool true)) (.tmp 32), none⟩] [] [1, 2, 33] [] [])
 (.cond (.tmp 33)
  (.seq (.region 2 false 0 [
    ⟨0, 0, (some 34), .call 16 [] false, none⟩,
    ⟨1, 0, (some 4), .mov (.tmp 34), none⟩] [] [4] [] [])
  .ret)
  .skip))
 (.seq (.region 3 false 1 [
   ⟨0, 0, (some 35), .load (some 20) (.tmp 2), none⟩,
   ⟨1, 0, (some 36), .call 25 [(.tmp 35)] false, none⟩,
   ⟨2, 0, (some 5), .alloc [(.slice none 0 0), (.int .i64 0)] 31 false, none⟩,
   ⟨3, 1, none, .store 2 (.tmp 5) (.tmp 36), none⟩] [] [1, 2, 5] [⟨false, 2, (some 18), 0, 0, false⟩, ⟨false, 2, (some 19), 0, 0, false⟩] [])
 (.seq (.region 4 false 1 [
   ⟨0, 0, (some 37), .load (some 20) (.tmp 2), none⟩,
   ⟨1, 0, (some 6), .alloc [(.int .i64 0), (.int .i64 0), (.int .i64 0), (.int .i64 0), (.int .i64 0), (.int .i64 0), (.int .i64 0), (.int .i64 0), (.int .i64 0), (.int .i64 0), (.int .i64 0), (.int .i64 0), (.int .i64 0), (.int .i64 0), (.int .i64 0), (.int .i64 0), (.int .i64 0), (.int .i64 0), (.slice none 0 0), (.slice none 0 0)] 27 false, none⟩,
   ⟨2, 1, none, .store 20 (.tmp 6) (.tmp 37), none⟩] [] [1, 2, 5, 6] [] [⟨true, 6, (some 19), 43, 8, true⟩])
 (.seq (.region 5 false 0 [
   ⟨0, 0, (some 38), .fieldA 19 (.tmp 6), none⟩,
   ⟨1, 0, none, .store 1 (.tmp 38) (.const (.slice none 0 0)), none⟩] [] [1, 2, 5, 6] [] [⟨true, 6, (some 19), 43, 8, true⟩])
 (.seq (.region 6 false 0 [
   ⟨0, 0, (some 7), .mov (.const (.slice none 0 0)), none⟩] [] [1, 2, 5, 6, 7] [] [⟨true, 7, none, 3, 1, true⟩])
 (.seq (.seq (.region 7 false 0 [
   ⟨0, 0, (some 8), .mov (.const (.int .i64 0)), none⟩] [] [1, 2, 5, 6, 7, 8] [] [])
 (.block 0
  (.loop
   (.seq (.seq (.region 8 false 0 [
     ⟨0, 0, (some 39), .mov (.tmp 8), none⟩,
     ⟨1, 0, (some 40), .fieldA 19 (.tmp 2), none⟩,
     ⟨2, 0, (some 41), .load none (.tmp 40), none⟩,
     ⟨3, 0, (some 42), .len 0 (.tmp 41), none⟩,
     ⟨4, 0, (some 43), .bin .lss (.tmp 39) (.tmp 42), none⟩] [] [1, 2, 5, 6, 7, 8, 43] [] [])
   (.cond (.tmp 43)
    .skip
    (.exit 0)))
   (.seq (.block 1
    (.seq (.seq (.region 10 false 0 [
      ⟨0, 0, (some 46), .fieldA 19 (.tmp 2), none⟩,
      ⟨1, 0, (some 47), .load none (.tmp 46), none⟩,
      ⟨2, 0, (some 48), .mov (.tmp 8), none⟩,
      ⟨3, 0, (some 49), .idxS 8 (.tmp 47) (.tmp 48), none⟩,
      ⟨4, 0, (some 50), .fieldA 0 (.tmp 49), none⟩,
      ⟨5, 0, (some 51), .load none (.tmp 50), none⟩,
      ⟨6, 0, (some 52), .mov (.tmp 1), none⟩,
      ⟨7, 0, (some 53), .bin .eql (.tmp 51) (.tmp 52), none⟩] [] [1, 2, 5, 6, 7, 8, 53] [] [])
    (.cond (.tmp 53)
     (.exit 1)
     .skip))
    (.seq (.seq (.region 11 false 0 [
      ⟨0, 0, (some 9), .mov (.const (.int .i64 0)), none⟩] [] [1, 2, 5, 6, 7, 8, 9] [] [])
    (.block 2
     (.loop
      (.seq (.seq (.region 12 false 0 [
        ⟨0, 0, (some 54), .mov (.tmp 9), none⟩,
        ⟨1, 0, (some 55), .fieldA 0 (.tmp 5), none⟩,
        ⟨2, 0, (some 56), .load none (.tmp 55), none⟩,
        ⟨3, 0, (some 57), .len 0 (.tmp 56), none⟩,
        ⟨4, 0, (some 58), .bin .lss (.tmp 54) (.tmp 57), none⟩] [] [1, 2, 5, 6, 7, 8, 9, 58] [] [])
      (.cond (.tmp 58)
       .skip
       (.exit 2)))
      (.seq (.block 3
       (.seq (.region 14 false 0 [
         ⟨0, 0, (some 61), .fieldA 0 (.tmp 5), none⟩,
         ⟨1, 0, (some 62), .load none (.tmp 61), none⟩,
         ⟨2, 0, (some 63), .mov (.tmp 9), none⟩,
         ⟨3, 0, (some 64), .idxS 1 (.tmp 62) (.tmp 63), none⟩,
         ⟨4, 0, (some 65), .load none (.tmp 64), none⟩,
         ⟨5, 0, (some 66), .mov (.tmp 8), none⟩,
         ⟨6, 0, (some 67), .bin .eql (.tmp 65) (.tmp 66), none⟩] [] [1, 2, 5, 6, 7, 8, 9, 67] [] [])
       (.cond (.tmp 67)
        (.region 15 false 1 [
          ⟨0, 0, (some 68), .mov (.tmp 7), none⟩,
          ⟨1, 0, (some 69), .fieldA 19 (.tmp 6), none⟩,
          ⟨2, 0, (some 70), .load none (.tmp 69), none⟩,
          ⟨3, 0, (some 71), .len 0 (.tmp 70), none⟩,
          ⟨4, 0, (some 72), .mkimm [(.int .i64 0)] 1 [(0, (.tmp 71))] 3 1, none⟩,
          ⟨5, 0, (some 73), .append 3 1 8 (.tmp 68) (.tmp 72) true, none⟩,
          ⟨6, 1, (some 7), .mov (.tmp 73), none⟩] [] [1, 2, 5, 6, 7, 8, 9] [] [])
        .skip)))
      (.region 13 false 0 [
        ⟨0, 0, (some 59), .mov (.tmp 9), none⟩,
        ⟨1, 0, (some 60), .bin .add (.tmp 59) (.const (.int .i64 1)), none⟩,
        ⟨2, 0, (some 9), .mov (.tmp 60), none⟩] [] [1, 2, 5, 6, 7, 8, 9] [] []))))))
    (.region 16 true 2 [
      ⟨0, 0, (some 74), .fieldA 19 (.tmp 6), none⟩,
      ⟨1, 0, (some 75), .load none (.tmp 74), none⟩,
      ⟨2, 0, (some 76), .fieldA 19 (.tmp 2), none⟩,
      ⟨3, 0, (some 77), .load none (.tmp 76), none⟩,
      ⟨4, 0, (some 78), .mov (.tmp 8), none⟩,
      ⟨5, 0, (some 79), .idxS 8 (.tmp 77) (.tmp 78), none⟩,
      ⟨6, 0, (some 80), .load (some 8) (.tmp 79), none⟩,
      ⟨7, 0, (some 81), .mkrow [(.int .i64 0), (.int .i64 0), (.int .i64 0), (.int .i64 0), (.int .i64 0), (.int .i64 0), (.int .i64 0), (.int .i64 0)] 1 [(0, (.tmp 80))] 43 8, none⟩,
      ⟨8, 1, (some 82), .append 43 8 64 (.tmp 75) (.tmp 81) true, none⟩,
      ⟨9, 2, (some 83), .fieldA 19 (.tmp 6), none⟩,
      ⟨10, 2, none, .store 1 (.tmp 83) (.tmp 82), none⟩] [(1, 7)] [1, 2, 5, 6, 7, 8] [] []))))
   (.region 9 false 0 [
     ⟨0, 0, (some 44), .mov (.tmp 8), none⟩,
     ⟨1, 0, (some 45), .bin .add (.tmp 44) (.const (.int .i64 1)), none⟩,
     ⟨2, 0, (some 8), .mov (.tmp 45), none⟩] [] [1, 2, 5, 6, 7, 8] [] []))))))
 (.seq (.seq (.region 17 false 0 [
   ⟨0, 0, (some 84), .mov (.tmp 7), none⟩,
   ⟨1, 0, (some 85), .len 0 (.tmp 84), none⟩,
   ⟨2, 0, (some 86), .fieldA 0 (.tmp 5), none⟩,
   ⟨3, 0, (some 87), .load none (.tmp 86), none⟩,
   ⟨4, 0, (some 88), .len 0 (.tmp 87), none⟩,
   ⟨5, 0, (some 89), .bin .neq (.tmp 85) (.tmp 88), none⟩] [] [2, 5, 6, 7, 89] [] [])
 (.cond (.tmp 89)
  (.seq (.region 18 false 0 [
    ⟨0, 0, (some 90), .call 16 [] false, none⟩,
    ⟨1, 0, (some 4), .mov (.tmp 90), none⟩] [] [4] [] [])
  .ret)
  .skip))
 (.seq (.region 19 false 0 [
   ⟨0, 0, (some 92), .load (some 20) (.tmp 2), none⟩,
   ⟨1, 0, (some 93), .load (some 2) (.tmp 5), none⟩,
   ⟨2, 0, (some 94), .call 17 [(.tmp 92), (.tmp 93)] false, none⟩,
   ⟨3, 0, (some 91), .mov (.tmp 94), none⟩,
   ⟨4, 0, (some 95), .extract (.tmp 91) 0, none⟩,
   ⟨5, 0, (some 96), .extract (.tmp 91) 1, none⟩,
   ⟨6, 0, (some 10), .mov (.tmp 95), none⟩,
   ⟨7, 0, (some 11), .mov (.tmp 96), none⟩] [] [2, 5, 6, 7, 10, 11] [⟨false, 2, (some 18), 0, 0, false⟩, ⟨false, 2, (some 19), 0, 0, false⟩, ⟨false, 5, (some 0), 0, 0, false⟩] [])
 (.seq (.region 20 false 0 [
   ⟨0, 0, (some 98), .load (some 20) (.tmp 6), none⟩,
   ⟨1, 0, (some 99), .mov (.tmp 7), none⟩,
   ⟨2, 0, (some 100), .fieldA 1 (.tmp 5), none⟩,
   ⟨3, 0, (some 101), .load none (.tmp 100), none⟩,
   ⟨4, 0, (some 102), .build [(.slice none 0 0), (.int .i64 0)] [(0, 1, (.tmp 99)), (1, 1, (.tmp 101))], none⟩,
   ⟨5, 0, (some 103), .call 17 [(.tmp 98), (.tmp 102)] false, none⟩,
   ⟨6, 0, (some 97), .mov (.tmp 103), none⟩,
   ⟨7, 0, (some 104), .extract (.tmp 97) 0, none⟩,
   ⟨8, 0, (some 105), .extract (.tmp 97) 1, none⟩,
   ⟨9, 0, (some 12), .mov (.tmp 104), none⟩,
   ⟨10, 0, (some 13), .mov (.tmp 105), none⟩] [] [2, 10, 11, 12, 13] [⟨false, 6, (some 18), 0, 0, false⟩, ⟨false, 6, (some 19), 0, 0, false⟩, ⟨false, 7, none, 0, 0, false⟩] [])
 (.seq (.seq (.region 21 false 0 [
   ⟨0, 0, (some 106), .mov (.tmp 11), none⟩,
   ⟨1, 0, (some 107), .bin .neq (.tmp 106) (.const (.int .i64 0)), none⟩,
   ⟨2, 0, (some 108), .mov (.tmp 107), none⟩,
   ⟨3, 0, (some 109), .mov (.tmp 13), (some ((some 108), false))⟩,
   ⟨4, 0, (some 110), .bin .neq (.tmp 109) (.const (.int .i64 0)), (some ((some 108), false))⟩,
   ⟨5, 0, (some 111), .pick (.tmp 108) (.const (.bool true)) (.tmp 110), none⟩,
   ⟨6, 0, (some 112), .mov (.tmp 111), none⟩,
   ⟨7, 0, (some 113), .mov (.tmp 10), (some ((some 112), false))⟩,
   ⟨8, 0, (some 114), .len 0 (.tmp 113), (some ((some 112), false))⟩,
   ⟨9, 0, (some 115), .fieldA 18 (.tmp 2), (some ((some 112), false))⟩,
   ⟨10, 0, (some 116), .load none (.tmp 115), (some ((some 112), false))⟩,
   ⟨11, 0, (some 117), .len 0 (.tmp 116), (some ((some 112), false))⟩,
   ⟨12, 0, (some 118), .bin .neq (.tmp 114) (.tmp 117), (some ((some 112), false))⟩,
   ⟨13, 0, (some 119), .pick (.tmp 112) (.const (.bool true)) (.tmp 118), none⟩,
   ⟨14, 0, (some 120), .mov (.tmp 119), none⟩,
   ⟨15, 0, (some 121), .mov (.tmp 12), (some ((some 120), false))⟩,
   ⟨16, 0, (some 122), .len 0 (.tmp 121), (some ((some 120), false))⟩,
   ⟨17, 0, (some 123), .fieldA 18 (.tmp 2), (some ((some 120), false))⟩,
   ⟨18, 0, (some 124), .load none (.tmp 123), (some ((some 120), false))⟩,
   ⟨19, 0, (some 125), .len 0 (.tmp 124), (some ((some 120), false))⟩,
   ⟨20, 0, (some 126), .bin .neq (.tmp 122) (.tmp 125), (some ((some 120), false))⟩,
   ⟨21, 0, (some 127), .pick (.tmp 120) (.const (.bool true)) (.tmp 126), none⟩] [] [10, 12, 127] [] [])
 (.cond (.tmp 127)
  (.seq (.region 22 false 0 [
    ⟨0, 0, (some 4), .mov (.const (.bool false)), none⟩] [] [4] [] [])
  .ret)
  .skip))
 (.seq (.seq (.region 23 false 0 [
   ⟨0, 0, (some 14), .mov (.const (.int .i64 0)), none⟩] [] [10, 12, 14] [] [])
 (.block 4
  (.loop
   (.seq (.seq (.region 24 false 0 [
     ⟨0, 0, (some 128), .mov (.tmp 14), none⟩,
     ⟨1, 0, (some 129), .mov (.tmp 10), none⟩,
     ⟨2, 0, (some 130), .len 0 (.tmp 129), none⟩,
     ⟨3, 0, (some 131), .bin .lss (.tmp 128) (.tmp 130), none⟩] [] [10, 12, 14, 131] [] [])
   (.cond (.tmp 131)
    .skip
    (.exit 4)))
   (.seq (.block 5
    (.seq (.region 26 true 0 [
      ⟨0, 0, (some 134), .mov (.tmp 12), none⟩,
      ⟨1, 0, (some 135), .mov (.tmp 14), none⟩,
      ⟨2, 0, (some 136), .idxS 1 (.tmp 134) (.tmp 135), none⟩,
      ⟨3, 0, (some 137), .load none (.tmp 136), none⟩,
      ⟨4, 0, (some 138), .mov (.tmp 10), none⟩,
      ⟨5, 0, (some 139), .mov (.tmp 14), none⟩,
      ⟨6, 0, (some 140), .idxS 1 (.tmp 138) (.tmp 139), none⟩,
      ⟨7, 0, (some 141), .load none (.tmp 140), none⟩,
      ⟨8, 0, (some 142), .bin .gtr (.tmp 137) (.tmp 141), none⟩] [] [10, 12, 14, 142] [] [])
    (.cond (.tmp 142)
     (.seq (.region 27 false 0 [
       ⟨0, 0, (some 4), .mov (.const (.bool false)), none⟩] [] [4] [] [])
     .ret)
     .skip)))
   (.region 25 false 0 [
     ⟨0, 0, (some 132), .mov (.tmp 14), none⟩,
     ⟨1, 0, (some 133), .bin .add (.tmp 132) (.const (.int .i64 1)), none⟩,
     ⟨2, 0, (some 14), .mov (.tmp 133), none⟩] [] [10, 12, 14] [] []))))))
 (.seq (.region 28 false 0 [
   ⟨0, 0, (some 143), .call 16 [] false, none⟩,
   ⟨1, 0, (some 4), .mov (.tmp 143), none⟩] [] [4] [] [])
 .ret)))))))))))))
noncomputable def h6 : List RH := [⟨0, [1, 2], [], [], [], []⟩, ⟨1, [1, 2, 33], [], [], [], []⟩, ⟨2, [4], [], [], [], []⟩, ⟨3, [1, 2, 5], [], [], [⟨false, 2, (some 18), 0, 0, false⟩, ⟨false, 2, (some 19), 0, 0, false⟩], []⟩, ⟨4, [1, 2, 5, 6], [], [], [], [⟨true, 6, (some 19), 43, 8, true⟩]⟩, ⟨5, [1, 2, 5, 6], [], [], [], [⟨true, 6, (some 19), 43, 8, true⟩]⟩, ⟨6, [1, 2, 5, 6, 7], [], [], [], [⟨true, 7, none, 3, 1, true⟩]⟩, ⟨7, [1, 2, 5, 6, 7, 8], [], [], [], []⟩, ⟨8, [1, 2, 5, 6, 7, 8, 43], [], [], [], []⟩, ⟨10, [1, 2, 5, 6, 7, 8, 53], [], [], [], []⟩, ⟨11, [1, 2, 5, 6, 7, 8, 9], [], [], [], []⟩, ⟨12, [1, 2, 5, 6, 7, 8, 9, 58], [], [], [], []⟩, ⟨14, [1, 2, 5, 6, 7, 8, 9, 67], [], [], [], []⟩, ⟨15, [1, 2, 5, 6, 7, 8, 9], [], [4, 5], [], []⟩, ⟨13, [1, 2, 5, 6, 7, 8, 9], [], [], [], []⟩, ⟨16, [1, 2, 5, 6, 7, 8], [], [8], [], []⟩, ⟨9, [1, 2, 5, 6, 7, 8], [], [], [], []⟩, ⟨17, [2, 5, 6, 7, 89], [], [], [], []⟩, ⟨18, [4], [], [], [], []⟩, ⟨19, [2, 5, 6, 7, 10, 11], [], [], [⟨false, 2, (some 18), 0, 0, false⟩, ⟨false, 2, (some 19), 0, 0, false⟩, ⟨false, 5, (some 0), 0, 0, false⟩], []⟩, ⟨20, [2, 10, 11, 12, 13], [], [], [⟨false, 6, (some 18), 0, 0, false⟩, ⟨false, 6, (some 19), 0, 0, false⟩, ⟨false, 7, none, 0, 0, false⟩], []⟩, ⟨21, [10, 12, 127], [], [], [], []⟩, ⟨22, [4], [], [], [], []⟩, ⟨23, [10, 12, 14], [], [], [], []⟩, ⟨24, [10, 12, 14, 131], [], [], [], []⟩, ⟨26, [10, 12, 14, 142], [], [], [], []⟩, ⟨27, [4], [], [], [], []⟩, ⟨25, [10, 12, 14], [], [], [], []⟩, ⟨28, [4], [], [], [], []⟩]
noncomputable def F6 : IFn := ⟨2, 144, c6, [⟨4, none⟩]⟩
theorem is6 : compFn Try.prog h6 Try.f6 = some F6 := by kernel_rfl

/-- saleroom/saleroomlaw27.few -/
noncomputable def c15 : IR :=
 (.seq (.region 0 false 1 [
   ⟨0, 0, (some 1), .box 27 (.tmp 0), none⟩,
   ⟨1, 1, (some 2), .mov (.const (.bool false)), none⟩] [] [1] [] [])
 (.seq (.region 1 false 0 [
   ⟨0, 0, (some 3), .load (some 20) (.tmp 1), none⟩,
   ⟨1, 0, (some 4), .call 59 [(.tmp 3), (.const (.int .i64 10))] false, none⟩,
   ⟨2, 0, (some 2), .mov (.tmp 4), none⟩] [] [2] [] [])
 .ret))
noncomputable def h15 : List RH := [⟨0, [1], [], [], [], []⟩, ⟨1, [2], [], [], [], []⟩]
noncomputable def F15 : IFn := ⟨1, 5, c15, [⟨2, none⟩]⟩
theorem is15 : compFn Try.prog h15 Try.f15 = some F15 := by kernel_rfl

/-- saleroom/saleroomlaw27.awake -/
noncomputable def c16 : IR :=
 (.seq (.region 0 false 0 [
   ⟨0, 0, (some 0), .mov (.const (.bool false)), none⟩] [] [] [] [])
 (.seq (.region 1 false 1 [
   ⟨0, 0, (some 15), .call 60 [] false, none⟩,
   ⟨1, 0, (some 1), .alloc [(.int .i64 0), (.int .i64 0), (.int .i64 0), (.int .i64 0), (.int .i64 0), (.int .i64 0), (.int .i64 0), (.int .i64 0), (.int .i64 0), (.int .i64 0), (.int .i64 0), (.int .i64 0), (.int .i64 0), (.int .i64 0), (.int .i64 0), (.int .i64 0), (.int .i64 0), (.int .i64 0), (.slice none 0 0), (.slice none 0 0)] 27 false, none⟩,
   ⟨2, 1, none, .store 20 (.tmp 1) (.tmp 15), none⟩] [] [1] [] [])
 (.seq (.region 2 false 1 [
   ⟨0, 0, (some 16), .mkimm [(.int .i64 0)] 2 [(0, (.const (.int .i64 1))), (1, (.const (.int .i64 2)))] 3 1, none⟩,
   ⟨1, 0, (some 17), .build [(.slice none 0 0), (.int .i64 0)] [(0, 1, (.tmp 16)), (1, 1, (.const (.int .i64 12)))], none⟩,
   ⟨2, 0, (some 2), .alloc [(.slice none 0 0), (.int .i64 0)] 31 false, none⟩,
   ⟨3, 1, none, .store 2 (.tmp 2) (.tmp 17), none⟩] [] [1, 2] [] [])
 (.seq (.region 3 false 0 [
   ⟨0, 0, (some 19), .load (some 20) (.tmp 1), none⟩,
   ⟨1, 0, (some 20), .load (some 2) (.tmp 2), none⟩,
   ⟨2, 0, (some 21), .call 17 [(.tmp 19), (.tmp 20)] false, none⟩,
   ⟨3, 0, (some 18), .mov (.tmp 21), none⟩,
   ⟨4, 0, (some 22), .extract (.tmp 18) 0, none⟩,
   ⟨5, 0, (some 23), .extract (.tmp 18) 1, none⟩,
   ⟨6, 0, (some 3), .mov (.tmp 22), none⟩,
   ⟨7, 0, (some 4), .mov (.tmp 23), none⟩] [] [1, 2, 3, 4] [⟨false, 1, (some 18), 0, 0, false⟩, ⟨false, 1, (some 19), 0, 0, false⟩, ⟨false, 2, (some 0), 0, 0, false⟩] [])
 (.seq (.region 4 false 0 [
   ⟨0, 0, (some 25), .load (some 20) (.tmp 1), none⟩,
   ⟨1, 0, (some 26), .load (some 2) (.tmp 2), none⟩,
   ⟨2, 0, (some 27), .call 19 [(.tmp 25), (.tmp 26)] false, none⟩,
   ⟨3, 0, (some 24), .mov (.tmp 27), none⟩,
   ⟨4, 0, (some 28), .extract (.tmp 24) 0, none⟩,
   ⟨5, 0, (some 29), .extract (.tmp 24) 1, none⟩,
   ⟨6, 0, (some 5), .mov (.tmp 28), none⟩,
   ⟨7, 0, (some 6), .mov (.tmp 29), none⟩] [] [1, 2, 3, 4, 5, 6] [⟨false, 1, (some 18), 0, 0, false⟩, ⟨false, 1, (some 19), 0, 0, false⟩, ⟨false, 2, (some 0), 0, 0, false⟩] [])
 (.seq (.region 5 false 0 [
   ⟨0, 0, (some 31), .load (some 20) (.tmp 1), none⟩,
   ⟨1, 0, (some 32), .load (some 2) (.tmp 2), none⟩,
   ⟨2, 0, (some 33), .call 21 [(.tmp 31), (.tmp 32), (.const (.int .i64 1))] false, none⟩,
   ⟨3, 0, (some 30), .mov (.tmp 33), none⟩,
   ⟨4, 0, (some 34), .extract (.tmp 30) 0, none⟩,
   ⟨5, 0, (some 35), .extract (.tmp 30) 1, none⟩,
   ⟨6, 0, (some 7), .mov (.tmp 34), none⟩,
   ⟨7, 0, (some 8), .mov (.tmp 35), none⟩] [] [1, 2, 3, 4, 5, 6, 7, 8] [] [])
 (.seq (.region 6 false 0 [
   ⟨0, 0, (some 37), .load (some 20) (.tmp 1), none⟩,
   ⟨1, 0, (some 38), .mkimm [(.int .i64 0)] 1 [(0, (.const (.int .i64 0)))] 3 1, none⟩,
   ⟨2, 0, (some 39), .build [(.slice none 0 0), (.int .i64 0)] [(0, 1, (.tmp 38)), (1, 1, (.const (.int .i64 10)))], none⟩,
   ⟨3, 0, (some 40), .call 17 [(.tmp 37), (.tmp 39)] false, none⟩,
   ⟨4, 0, (some 36), .mov (.tmp 40), none⟩,
   ⟨5, 0, (some 41), .extract (.tmp 36) 0, none⟩,
   ⟨6, 0, (some 42), .extract (.tmp 36) 1, none⟩,
   ⟨7, 0, (some 9), .mov (.tmp 41), none⟩,
   ⟨8, 0, (some 10), .mov (.tmp 42), none⟩] [] [1, 2, 3, 4, 5, 6, 7, 8, 10] [⟨false, 1, (some 18), 0, 0, false⟩, ⟨false, 1, (some 19), 0, 0, false⟩] [])
 (.seq (.region 7 false 0 [
   ⟨0, 0, (some 44), .load (some 20) (.tmp 1), none⟩,
   ⟨1, 0, (some 45), .load (some 2) (.tmp 2), none⟩,
   ⟨2, 0, (some 46), .call 21 [(.tmp 44), (.tmp 45), (.const (.int .i64 3))] false, none⟩,
   ⟨3, 0, (some 43), .mov (.tmp 46), none⟩,
   ⟨4, 0, (some 47), .extract (.tmp 43) 0, none⟩,
   ⟨5, 0, (some 48), .extract (.tmp 43) 1, none⟩,
   ⟨6, 0, (some 11), .mov (.tmp 47), none⟩,
   ⟨7, 0, (some 12), .mov (.tmp 48), none⟩] [] [1, 3, 4, 5, 6, 7, 8, 10, 12] [] [])
 (.seq (.region 8 false 0 [
   ⟨0, 0, (some 50), .load (some 20) (.tmp 1), none⟩,
   ⟨1, 0, (some 51), .mkimm [(.int .i64 0)] 2 [(0, (.const (.int .i64 0))), (1, (.const (.int .i64 1)))] 3 1, none⟩,
   ⟨2, 0, (some 52), .build [(.slice none 0 0), (.int .i64 0)] [(0, 1, (.tmp 51))], none⟩,
   ⟨3, 0, (some 53), .call 19 [(.tmp 50), (.tmp 52)] false, none⟩,
   ⟨4, 0, (some 49), .mov (.tmp 53), none⟩,
   ⟨5, 0, (some 54), .extract (.tmp 49) 0, none⟩,
   ⟨6, 0, (some 55), .extract (.tmp 49) 1, none⟩,
   ⟨7, 0, (some 13), .mov (.tmp 54), none⟩,
   ⟨8, 0, (some 14), .mov (.tmp 55), none⟩] [] [3, 4, 5, 6, 7, 8, 10, 12, 14] [⟨false, 1, (some 18), 0, 0, false⟩, ⟨false, 1, (some 19), 0, 0, false⟩] [])
 (.seq (.region 9 false 0 [
   ⟨0, 0, (some 56), .mov (.tmp 4), none⟩,
   ⟨1, 0, (some 57), .bin .eql (.tmp 56) (.const (.int .i64 0)), none⟩,
   ⟨2, 0, (some 58), .mov (.tmp 57), none⟩,
   ⟨3, 0, (some 59), .mov (.tmp 3), (some ((some 58), true))⟩,
   ⟨4, 0, (some 60), .mkimm [(.int .i64 0)] 3 [(0, (.const (.int .i64 0))), (1, (.const (.int .i64 4))), (2, (.const (.int .i64 4)))] 2 1, (some ((some 58), true))⟩,
   ⟨5, 0, (some 61), .call 23 [(.tmp 59), (.tmp 60)] false, (some ((some 58), true))⟩,
   ⟨6, 0, (some 62), .pick (.tmp 58) (.tmp 61) (.const (.bool false)), none⟩,
   ⟨7, 0, (some 63), .mov (.tmp 62), none⟩,
   ⟨8, 0, (some 64), .mov (.tmp 6), (some ((some 63), true))⟩,
   ⟨9, 0, (some 65), .bin .eql (.tmp 64) (.const (.int .i64 0)), (some ((some 63), true))⟩,
   ⟨10, 0, (some 66), .pick (.tmp 63) (.tmp 65) (.const (.bool false)), none⟩,
   ⟨11, 0, (some 67), .mov (.tmp 66), none⟩,
   ⟨12, 0, (some 68), .mov (.tmp 5), (some ((some 67), true))⟩,
   ⟨13, 0, (some 69), .mkimm [(.int .i64 0)] 3 [(0, (.const (.int .i64 0))), (1, (.const (.int .i64 2))), (2, (.const (.int .i64 2)))] 2 1, (some ((some 67), true))⟩,
   ⟨14, 0, (some 70), .call 23 [(.tmp 68), (.tmp 69)] false, (some ((some 67), true))⟩,
   ⟨15, 0, (some 71), .pick (.tmp 67) (.tmp 70) (.const (.bool false)), none⟩,
   ⟨16, 0, (some 72), .mov (.tmp 71), none⟩,
   ⟨17, 0, (some 73), .mov (.tmp 8), (some ((some 72), true))⟩,
   ⟨18, 0, (some 74), .bin .eql (.tmp 73) (.const (.int .i64 0)), (some ((some 72), true))⟩,
   ⟨19, 0, (some 75), .pick (.tmp 72) (.tmp 74) (.const (.bool false)), none⟩,
   ⟨20, 0, (some 76), .mov (.tmp 75), none⟩,
   ⟨21, 0, (some 77), .mov (.tmp 7), (some ((some 76), true))⟩,
   ⟨22, 0, (some 78), .bin .eql (.tmp 77) (.const (.int .i64 4)), (some ((some 76), true))⟩,
   ⟨23, 0, (some 79), .pick (.tmp 76) (.tmp 78) (.const (.bool false)), none⟩,
   ⟨24, 0, (some 80), .mov (.tmp 79), none⟩,
   ⟨25, 0, (some 81), .mov (.tmp 10), (some ((some 80), true))⟩,
   ⟨26, 0, (some 82), .bin .eql (.tmp 81) (.const (.int .i64 13)), (some ((some 80), true))⟩,
   ⟨27, 0, (some 83), .pick (.tmp 80) (.tmp 82) (.const (.bool false)), none⟩,
   ⟨28, 0, (some 84), .mov (.tmp 83), none⟩,
   ⟨29, 0, (some 85), .mov (.tmp 12), (some ((some 84), true))⟩,
   ⟨30, 0, (some 86), .bin .eql (.tmp 85) (.const (.int .i64 6)), (some ((some 84), true))⟩,
   ⟨31, 0, (some 87), .pick (.tmp 84) (.tmp 86) (.const (.bool false)), none⟩,
   ⟨32, 0, (some 88), .mov (.tmp 87), none⟩,
   ⟨33, 0, (some 89), .mov (.tmp 14), (some ((some 88), true))⟩,
   ⟨34, 0, (some 90), .bin .eql (.tmp 89) (.const (.int .i64 14)), (some ((some 88), true))⟩,
   ⟨35, 0, (some 91), .pick (.tmp 88) (.tmp 90) (.const (.bool false)), none⟩,
   ⟨36, 0, (some 0), .mov (.tmp 91), none⟩] [] [0] [] [])
 .ret))))))))))
noncomputable def h16 : List RH := [⟨0, [], [], [], [], []⟩, ⟨1, [1], [], [], [], []⟩, ⟨2, [1, 2], [], [0], [], []⟩, ⟨3, [1, 2, 3, 4], [], [], [⟨false, 1, (some 18), 0, 0, false⟩, ⟨false, 1, (some 19), 0, 0, false⟩, ⟨false, 2, (some 0), 0, 0, false⟩], []⟩, ⟨4, [1, 2, 3, 4, 5, 6], [], [], [⟨false, 1, (some 18), 0, 0, false⟩, ⟨false, 1, (some 19), 0, 0, false⟩, ⟨false, 2, (some 0), 0, 0, false⟩], []⟩, ⟨5, [1, 2, 3, 4, 5, 6, 7, 8], [], [], [], []⟩, ⟨6, [1, 2, 3, 4, 5, 6, 7, 8, 10], [], [1], [⟨false, 1, (some 18), 0, 0, false⟩, ⟨false, 1, (some 19), 0, 0, false⟩], []⟩, ⟨7, [1, 3, 4, 5, 6, 7, 8, 10, 12], [], [], [], []⟩, ⟨8, [3, 4, 5, 6, 7, 8, 10, 12, 14], [], [1], [⟨false, 1, (some 18), 0, 0, false⟩, ⟨false, 1, (some 19), 0, 0, false⟩], []⟩, ⟨9, [0], [], [4, 13], [], []⟩]
noncomputable def F16 : IFn := ⟨0, 92, c16, [⟨0, none⟩]⟩
theorem is16 : compFn Try.prog h16 Try.f16 = some F16 := by kernel_rfl

/-- saleroom/vickrey.Payments -/
noncomputable def c17 : IR :=
 (.seq (.region 0 false 2 [
   ⟨0, 0, (some 2), .box 27 (.tmp 0), none⟩,
   ⟨1, 1, (some 3), .box 31 (.tmp 1), none⟩,
   ⟨2, 2, (some 4), .mov (.const (.slice none 0 0)), none⟩,
   ⟨3, 2, (some 5), .mov (.const (.int .i64 0)), none⟩] [] [2, 3] [] [])
 (.seq (.region 1 false 1 [
   ⟨0, 0, (some 9), .load (some 20) (.tmp 2), none⟩,
   ⟨1, 0, (some 10), .load (some 2) (.tmp 3), none⟩,
   ⟨2, 0, (some 11), .call 61 [(.tmp 9), (.tmp 10)] false, none⟩,
   ⟨3, 0, (some 8), .mov (.tmp 11), none⟩,
   ⟨4, 0, (some 12), .extract (.tmp 8) 0, none⟩,
   ⟨5, 0, (some 13), .extract (.tmp 8) 1, none⟩,
   ⟨6, 0, (some 6), .alloc [(.int .i64 0), (.int .i64 0), (.int .i64 0), (.int .i64 0), (.int .i64 0), (.int .i64 0), (.int .i64 0), (.int .i64 0), (.int .i64 0), (.int .i64 0), (.int .i64 0), (.int .i64 0), (.int .i64 0), (.int .i64 0), (.int .i64 0), (.int .i64 0), (.int .i64 0), (.int .i64 0), (.slice none 0 0), (.slice none 0 0), (.slice none 0 0), (.int .i64 0), (.int .i64 0)] 86 false, none⟩,
   ⟨7, 1, none, .store 23 (.tmp 6) (.tmp 12), none⟩,
   ⟨8, 1, (some 7), .mov (.tmp 13), none⟩] [] [6, 7] [⟨false, 2, (some 18), 0, 0, false⟩, ⟨false, 2, (some 19), 0, 0, false⟩, ⟨false, 3, (some 0), 0, 0, false⟩] [])
 (.seq (.seq (.region 2 false 0 [
   ⟨0, 0, (some 14), .mov (.tmp 7), none⟩,
   ⟨1, 0, (some 15), .bin .neq (.tmp 14) (.const (.int .i64 0)), none⟩] [] [6, 7, 15] [] [])
 (.cond (.tmp 15)
  (.seq (.region 3 false 0 [
    ⟨0, 0, (some 16), .mov (.tmp 7), none⟩,
    ⟨1, 0, (some 4), .mov (.const (.slice none 0 0)), none⟩,
    ⟨2, 0, (some 5), .mov (.tmp 16), none⟩] [] [4, 5] [] [])
  .ret)
  .skip))
 (.seq (.region 4 false 0 [
   ⟨0, 0, (some 17), .load (some 23) (.tmp 6), none⟩,
   ⟨1, 0, (some 18), .load (some 23) (.tmp 6), none⟩,
   ⟨2, 0, (some 19), .mkfn (.func 63) [(.tmp 18)] [], none⟩,
   ⟨3, 0, (some 20), .call 62 [(.tmp 17), (.tmp 19)] false, none⟩,
   ⟨4, 0, (some 4), .mov (.tmp 20), none⟩,
   ⟨5, 0, (some 5), .mov (.const (.int .i64 0)), none⟩] [] [4, 5] [⟨false, 6, (some 18), 0, 0, false⟩, ⟨false, 6, (some 19), 0, 0, false⟩, ⟨false, 6, (some 20), 0, 0, false⟩] [])
 .ret))))
noncomputable def h17 : List RH := [⟨0, [2, 3], [], [], [], []⟩, ⟨1, [6, 7], [], [], [⟨false, 2, (some 18), 0, 0, false⟩, ⟨false, 2, (some 19), 0, 0, false⟩, ⟨false, 3, (some 0), 0, 0, false⟩], []⟩, ⟨2, [6, 7, 15], [], [], [], []⟩, ⟨3, [4, 5], [], [], [], []⟩, ⟨4, [4, 5], [], [], [⟨false, 6, (some 18), 0, 0, false⟩, ⟨false, 6, (some 19), 0, 0, false⟩, ⟨false, 6, (some 20), 0, 0, false⟩], []⟩]
noncomputable def F17 : IFn := ⟨2, 21, c17, [⟨4, none⟩, ⟨5, none⟩]⟩
theorem is17 : compFn Try.prog h17 Try.f17 = some F17 := by kernel_rfl

/-- saleroom/saleroomref27.Payments -/
noncomputable def c18 : IR :=
 (.seq (.region 0 false 2 [
   ⟨0, 0, (some 2), .box 27 (.tmp 0), none⟩,
   ⟨1, 1, (some 3), .box 31 (.tmp 1), none⟩,
   ⟨2, 2, (some 4), .mov (.const (.slice none 0 0)), none⟩,
   ⟨3, 2, (some 5), .mov (.const (.int .i64 0)), none⟩] [] [2, 3] [] [])
 (.seq (.seq (.region 1 false 0 [
   ⟨0, 0, (some 9), .load (some 20) (.tmp 2), none⟩,
   ⟨1, 0, (some 10), .load (some 2) (.tmp 3), none⟩,
   ⟨2, 0, (some 11), .call 64 [(.tmp 9), (.tmp 10)] false, none⟩,
   ⟨3, 0, (some 6), .mov (.tmp 11), none⟩] [] [2, 3, 6] [] [])
 (.seq (.region 2 false 0 [
   ⟨0, 0, (some 12), .mov (.tmp 6), none⟩,
   ⟨1, 0, (some 13), .bin .neq (.tmp 12) (.const (.int .i64 0)), none⟩] [] [2, 3, 6, 13] [] [])
 (.cond (.tmp 13)
  (.seq (.region 3 false 0 [
    ⟨0, 0, (some 14), .mov (.tmp 6), none⟩,
    ⟨1, 0, (some 4), .mov (.const (.slice none 0 0)), none⟩,
    ⟨2, 0, (some 5), .mov (.tmp 14), none⟩] [] [4, 5] [] [])
  .ret)
  .skip)))
 (.seq (.region 4 false 0 [
   ⟨0, 0, (some 7), .mov (.const (.slice none 0 0)), none⟩] [] [2, 3, 7] [] [⟨true, 7, none, 2, 1, true⟩])
 (.seq (.seq (.region 5 false 0 [
   ⟨0, 0, (some 8), .mov (.const (.int .i64 0)), none⟩] [] [2, 3, 7, 8] [] [])
 (.block 0
  (.loop
   (.seq (.seq (.region 6 false 0 [
     ⟨0, 0, (some 15), .mov (.tmp 8), none⟩,
     ⟨1, 0, (some 16), .fieldA 18 (.tmp 2), none⟩,
     ⟨2, 0, (some 17), .load none (.tmp 16), none⟩,
     ⟨3, 0, (some 18), .len 0 (.tmp 17), none⟩,
     ⟨4, 0, (some 19), .bin .lss (.tmp 15) (.tmp 18), none⟩] [] [2, 3, 7, 8, 19] [] [])
   (.cond (.tmp 19)
    .skip
    (.exit 0)))
   (.seq (.block 1
    (.region 8 false 1 [
      ⟨0, 0, (some 22), .mov (.tmp 7), none⟩,
      ⟨1, 0, (some 23), .load (some 20) (.tmp 2), none⟩,
      ⟨2, 0, (some 24), .load (some 2) (.tmp 3), none⟩,
      ⟨3, 0, (some 25), .mov (.tmp 8), none⟩,
      ⟨4, 0, (some 26), .call 65 [(.tmp 23), (.tmp 24), (.tmp 25)] false, none⟩,
      ⟨5, 0, (some 27), .mkimm [(.int .i64 0)] 1 [(0, (.tmp 26))] 2 1, none⟩,
      ⟨6, 0, (some 28), .append 2 1 8 (.tmp 22) (.tmp 27) true, none⟩,
      ⟨7, 1, (some 7), .mov (.tmp 28), none⟩] [] [2, 3, 7, 8] [] []))
   (.region 7 false 0 [
     ⟨0, 0, (some 20), .mov (.tmp 8), none⟩,
     ⟨1, 0, (some 21), .bin .add (.tmp 20) (.const (.int .i64 1)), none⟩,
     ⟨2, 0, (some 8), .mov (.tmp 21), none⟩] [] [2, 3, 7, 8] [] []))))))
 (.seq (.region 9 false 0 [
   ⟨0, 0, (some 29), .mov (.tmp 7), none⟩,
   ⟨1, 0, (some 4), .mov (.tmp 29), none⟩,
   ⟨2, 0, (some 5), .mov (.const (.int .i64 0)), none⟩] [] [4, 5] [] [])
 .ret)))))
noncomputable def h18 : List RH := [⟨0, [2, 3], [], [], [], []⟩, ⟨1, [2, 3, 6], [], [], [], []⟩, ⟨2, [2, 3, 6, 13], [], [], [], []⟩, ⟨3, [4, 5], [], [], [], []⟩, ⟨4, [2, 3, 7], [], [], [], [⟨true, 7, none, 2, 1, true⟩]⟩, ⟨5, [2, 3, 7, 8], [], [], [], []⟩, ⟨6, [2, 3, 7, 8, 19], [], [], [], []⟩, ⟨8, [2, 3, 7, 8], [], [5, 6], [], []⟩, ⟨7, [2, 3, 7, 8], [], [], [], []⟩, ⟨9, [4, 5], [], [], [], []⟩]
noncomputable def F18 : IFn := ⟨2, 30, c18, [⟨4, none⟩, ⟨5, none⟩]⟩
theorem is18 : compFn Try.prog h18 Try.f18 = some F18 := by kernel_rfl

/-- saleroom/vickrey.Discounts -/
noncomputable def c19 : IR :=
 (.seq (.region 0 false 2 [
   ⟨0, 0, (some 2), .box 27 (.tmp 0), none⟩,
   ⟨1, 1, (some 3), .box 31 (.tmp 1), none⟩,
   ⟨2, 2, (some 4), .mov (.const (.slice none 0 0)), none⟩,
   ⟨3, 2, (some 5), .mov (.const (.int .i64 0)), none⟩] [] [2, 3] [] [])
 (.seq (.region 1 false 1 [
   ⟨0, 0, (some 9), .load (some 20) (.tmp 2), none⟩,
   ⟨1, 0, (some 10), .load (some 2) (.tmp 3), none⟩,
   ⟨2, 0, (some 11), .call 61 [(.tmp 9), (.tmp 10)] false, none⟩,
   ⟨3, 0, (some 8), .mov (.tmp 11), none⟩,
   ⟨4, 0, (some 12), .extract (.tmp 8) 0, none⟩,
   ⟨5, 0, (some 13), .extract (.tmp 8) 1, none⟩,
   ⟨6, 0, (some 6), .alloc [(.int .i64 0), (.int .i64 0), (.int .i64 0), (.int .i64 0), (.int .i64 0), (.int .i64 0), (.int .i64 0), (.int .i64 0), (.int .i64 0), (.int .i64 0), (.int .i64 0), (.int .i64 0), (.int .i64 0), (.int .i64 0), (.int .i64 0), (.int .i64 0), (.int .i64 0), (.int .i64 0), (.slice none 0 0), (.slice none 0 0), (.slice none 0 0), (.int .i64 0), (.int .i64 0)] 86 false, none⟩,
   ⟨7, 1, none, .store 23 (.tmp 6) (.tmp 12), none⟩,
   ⟨8, 1, (some 7), .mov (.tmp 13), none⟩] [] [6, 7] [⟨false, 2, (some 18), 0, 0, false⟩, ⟨false, 2, (some 19), 0, 0, false⟩, ⟨false, 3, (some 0), 0, 0, false⟩] [])
 (.seq (.seq (.region 2 false 0 [
   ⟨0, 0, (some 14), .mov (.tmp 7), none⟩,
   ⟨1, 0, (some 15), .bin .neq (.tmp 14) (.const (.int .i64 0)), none⟩] [] [6, 7, 15] [] [])
 (.cond (.tmp 15)
  (.seq (.region 3 false 0 [
    ⟨0, 0, (some 16), .mov (.tmp 7), none⟩,
    ⟨1, 0, (some 4), .mov (.const (.slice none 0 0)), none⟩,
    ⟨2, 0, (some 5), .mov (.tmp 16), none⟩] [] [4, 5] [] [])
  .ret)
  .skip))
 (.seq (.region 4 false 0 [
   ⟨0, 0, (some 17), .load (some 23) (.tmp 6), none⟩,
   ⟨1, 0, (some 18), .load (some 23) (.tmp 6), none⟩,
   ⟨2, 0, (some 19), .mkfn (.func 66) [(.tmp 18)] [], none⟩,
   ⟨3, 0, (some 20), .call 62 [(.tmp 17), (.tmp 19)] false, none⟩,
   ⟨4, 0, (some 4), .mov (.tmp 20), none⟩,
   ⟨5, 0, (some 5), .mov (.const (.int .i64 0)), none⟩] [] [4, 5] [⟨false, 6, (some 18), 0, 0, false⟩, ⟨false, 6, (some 19), 0, 0, false⟩, ⟨false, 6, (some 20), 0, 0, false⟩] [])
 .ret))))
noncomputable def h19 : List RH := [⟨0, [2, 3], [], [], [], []⟩, ⟨1, [6, 7], [], [], [⟨false, 2, (some 18), 0, 0, false⟩, ⟨false, 2, (some 19), 0, 0, false⟩, ⟨false, 3, (some 0), 0, 0, false⟩], []⟩, ⟨2, [6, 7, 15], [], [], [], []⟩, ⟨3, [4, 5], [], [], [], []⟩, ⟨4, [4, 5], [], [], [⟨false, 6, (some 18), 0, 0, false⟩, ⟨false, 6, (some 19), 0, 0, false⟩, ⟨false, 6, (some 20), 0, 0, false⟩], []⟩]
noncomputable def F19 : IFn := ⟨2, 21, c19, [⟨4, none⟩, ⟨5, none⟩]⟩
theorem is19 : compFn Try.prog h19 Try.f19 = some F19 := by kernel_rfl

/-- saleroom/saleroomref27.Discounts -/
noncomputable def c20 : IR :=
 (.seq (.region 0 false 2 [
   ⟨0, 0, (some 2), .box 27 (.tmp 0), none⟩,
   ⟨1, 1, (some 3), .box 31 (.tmp 1), none⟩,
   ⟨2, 2, (some 4), .mov (.const (.slice none 0 0)), none⟩,
   ⟨3, 2, (some 5), .mov (.const (.int .i64 0)), none⟩] [] [2, 3] [] [])
 (.seq (.region 1 false 0 [
   ⟨0, 0, (some 13), .load (some 20) (.tmp 2), none⟩,
   ⟨1, 0, (some 14), .load (some 2) (.tmp 3), none⟩,
   ⟨2, 0, (some 15), .call 18 [(.tmp 13), (.tmp 14)] false, none⟩,
   ⟨3, 0, (some 12), .mov (.tmp 15), none⟩,
   ⟨4, 0, (some 16), .extract (.tmp 12) 0, none⟩,
   ⟨5, 0, (some 17), .extract (.tmp 12) 1, none⟩,
   ⟨6, 0, (some 6), .mov (.tmp 16), none⟩,
   ⟨7, 0, (some 7), .mov (.tmp 17), none⟩] [] [2, 3, 6, 7] [⟨false, 2, (some 18), 0, 0, false⟩, ⟨false, 2, (some 19), 0, 0, false⟩, ⟨false, 3, (some 0), 0, 0, false⟩] [])
 (.seq (.seq (.region 2 false 0 [
   ⟨0, 0, (some 18), .mov (.tmp 7), none⟩,
   ⟨1, 0, (some 19), .bin .neq (.tmp 18) (.const (.int .i64 0)), none⟩] [] [2, 3, 6, 7, 19] [] [])
 (.cond (.tmp 19)
  (.seq (.region 3 false 0 [
    ⟨0, 0, (some 20), .mov (.tmp 7), none⟩,
    ⟨1, 0, (some 4), .mov (.const (.slice none 0 0)), none⟩,
    ⟨2, 0, (some 5), .mov (.tmp 20), none⟩] [] [4, 5] [] [])
  .ret)
  .skip))
 (.seq (.region 4 false 0 [
   ⟨0, 0, (some 8), .mov (.const (.slice none 0 0)), none⟩] [] [2, 3, 6, 8] [] [⟨true, 8, none, 2, 1, true⟩])
 (.seq (.seq (.region 5 false 0 [
   ⟨0, 0, (some 9), .mov (.const (.int .i64 0)), none⟩] [] [2, 3, 6, 8, 9] [] [])
 (.block 0
  (.loop
   (.seq (.seq (.region 6 false 0 [
     ⟨0, 0, (some 21), .mov (.tmp 9), none⟩,
     ⟨1, 0, (some 22), .mov (.tmp 6), none⟩,
     ⟨2, 0, (some 23), .len 0 (.tmp 22), none⟩,
     ⟨3, 0, (some 24), .bin .lss (.tmp 21) (.tmp 23), none⟩] [] [2, 3, 6, 8, 9, 24] [] [])
   (.cond (.tmp 24)
    .skip
    (.exit 0)))
   (.seq (.block 1
    (.seq (.region 8 false 0 [
      ⟨0, 0, (some 28), .load (some 20) (.tmp 2), none⟩,
      ⟨1, 0, (some 29), .load (some 2) (.tmp 3), none⟩,
      ⟨2, 0, (some 30), .mov (.tmp 9), none⟩,
      ⟨3, 0, (some 31), .call 67 [(.tmp 28), (.tmp 29), (.tmp 30)] false, none⟩,
      ⟨4, 0, (some 27), .mov (.tmp 31), none⟩,
      ⟨5, 0, (some 32), .extract (.tmp 27) 0, none⟩,
      ⟨6, 0, (some 33), .extract (.tmp 27) 1, none⟩,
      ⟨7, 0, (some 10), .mov (.tmp 32), none⟩,
      ⟨8, 0, (some 11), .mov (.tmp 33), none⟩] [] [2, 3, 6, 8, 9, 10] [] [])
    (.region 9 false 1 [
      ⟨0, 0, (some 34), .mov (.tmp 8), none⟩,
      ⟨1, 0, (some 35), .mov (.tmp 10), none⟩,
      ⟨2, 0, (some 36), .mov (.tmp 6), none⟩,
      ⟨3, 0, (some 37), .mov (.tmp 9), none⟩,
      ⟨4, 0, (some 38), .idxS 1 (.tmp 36) (.tmp 37), none⟩,
      ⟨5, 0, (some 39), .load none (.tmp 38), none⟩,
      ⟨6, 0, (some 40), .bin .sub (.tmp 35) (.tmp 39), none⟩,
      ⟨7, 0, (some 41), .mkimm [(.int .i64 0)] 1 [(0, (.tmp 40))] 2 1, none⟩,
      ⟨8, 0, (some 42), .append 2 1 8 (.tmp 34) (.tmp 41) true, none⟩,
      ⟨9, 1, (some 8), .mov (.tmp 42), none⟩] [] [2, 3, 6, 8, 9] [] [])))
   (.region 7 false 0 [
     ⟨0, 0, (some 25), .mov (.tmp 9), none⟩,
     ⟨1, 0, (some 26), .bin .add (.tmp 25) (.const (.int .i64 1)), none⟩,
     ⟨2, 0, (some 9), .mov (.tmp 26), none⟩] [] [2, 3, 6, 8, 9] [] []))))))
 (.seq (.region 10 false 0 [
   ⟨0, 0, (some 43), .mov (.tmp 8), none⟩,
   ⟨1, 0, (some 4), .mov (.tmp 43), none⟩,
   ⟨2, 0, (some 5), .mov (.const (.int .i64 0)), none⟩] [] [4, 5] [] [])
 .ret))))))
noncomputable def h20 : List RH := [⟨0, [2, 3], [], [], [], []⟩, ⟨1, [2, 3, 6, 7], [], [], [⟨false, 2, (some 18), 0, 0, false⟩, ⟨false, 2, (some 19), 0, 0, false⟩, ⟨false, 3, (some 0), 0, 0, false⟩], []⟩, ⟨2, [2, 3, 6, 7, 19], [], [], [], []⟩, ⟨3, [4, 5], [], [], [], []⟩, ⟨4, [2, 3, 6, 8], [], [], [], [⟨true, 8, none, 2, 1, true⟩]⟩, ⟨5, [2, 3, 6, 8, 9], [], [], [], []⟩, ⟨6, [2, 3, 6, 8, 9, 24], [], [], [], []⟩, ⟨8, [2, 3, 6, 8, 9, 10], [], [], [], []⟩, ⟨9, [2, 3, 6, 8, 9], [], [7, 8], [], []⟩, ⟨7, [2, 3, 6, 8, 9], [], [], [], []⟩, ⟨10, [4, 5], [], [], [], []⟩]
noncomputable def F20 : IFn := ⟨2, 44, c20, [⟨4, none⟩, ⟨5, none⟩]⟩
theorem is20 : compFn Try.prog h20 Try.f20 = some F20 := by kernel_rfl

/-- saleroom/vickrey.Externality -/
noncomputable def c21 : IR :=
 (.seq (.region 0 false 2 [
   ⟨0, 0, (some 3), .box 27 (.tmp 0), none⟩,
   ⟨1, 1, (some 4), .box 31 (.tmp 1), none⟩,
   ⟨2, 2, (some 6), .mov (.const (.int .i64 0)), none⟩,
   ⟨3, 2, (some 7), .mov (.const (.int .i64 0)), none⟩] [] [2, 3, 4] [] [])
 (.seq (.region 1 false 1 [
   ⟨0, 0, (some 11), .load (some 20) (.tmp 3), none⟩,
   ⟨1, 0, (some 12), .load (some 2) (.tmp 4), none⟩,
   ⟨2, 0, (some 13), .call 61 [(.tmp 11), (.tmp 12)] false, none⟩,
   ⟨3, 0, (some 10), .mov (.tmp 13), none⟩,
   ⟨4, 0, (some 14), .extract (.tmp 10) 0, none⟩,
   ⟨5, 0, (some 15), .extract (.tmp 10) 1, none⟩,
   ⟨6, 0, (some 8), .alloc [(.int .i64 0), (.int .i64 0), (.int .i64 0), (.int .i64 0), (.int .i64 0), (.int .i64 0), (.int .i64 0), (.int .i64 0), (.int .i64 0), (.int .i64 0), (.int .i64 0), (.int .i64 0), (.int .i64 0), (.int .i64 0), (.int .i64 0), (.int .i64 0), (.int .i64 0), (.int .i64 0), (.slice none 0 0), (.slice none 0 0), (.slice none 0 0), (.int .i64 0), (.int .i64 0)] 86 false, none⟩,
   ⟨7, 1, none, .store 23 (.tmp 8) (.tmp 14), none⟩,
   ⟨8, 1, (some 9), .mov (.tmp 15), none⟩] [] [2, 8, 9] [⟨false, 3, (some 18), 0, 0, false⟩, ⟨false, 3, (some 19), 0, 0, false⟩, ⟨false, 4, (some 0), 0, 0, false⟩] [])
 (.seq (.seq (.region 2 false 0 [
   ⟨0, 0, (some 16), .mov (.tmp 9), none⟩,
   ⟨1, 0, (some 17), .bin .neq (.tmp 16) (.const (.int .i64 0)), none⟩] [] [2, 8, 9, 17] [] [])
 (.cond (.tmp 17)
  (.seq (.region 3 false 0 [
    ⟨0, 0, (some 18), .mov (.tmp 9), none⟩,
    ⟨1, 0, (some 6), .mov (.const (.int .i64 0)), none⟩,
    ⟨2, 0, (some 7), .mov (.tmp 18), none⟩] [] [6, 7] [] [])
  .ret)
  .skip))
 (.seq (.seq (.region 4 false 0 [
   ⟨0, 0, (some 19), .mov (.tmp 2), none⟩,
   ⟨1, 0, (some 20), .bin .lss (.tmp 19) (.const (.int .i64 0)), none⟩,
   ⟨2, 0, (some 21), .mov (.tmp 20), none⟩,
   ⟨3, 0, (some 22), .mov (.tmp 2), (some ((some 21), false))⟩,
   ⟨4, 0, (some 23), .fieldA 20 (.tmp 8), (some ((some 21), false))⟩,
   ⟨5, 0, (some 24), .load none (.tmp 23), (some ((some 21), false))⟩,
   ⟨6, 0, (some 25), .len 0 (.tmp 24), (some ((some 21), false))⟩,
   ⟨7, 0, (some 26), .bin .geq (.tmp 22) (.tmp 25), (some ((some 21), false))⟩,
   ⟨8, 0, (some 27), .pick (.tmp 21) (.const (.bool true)) (.tmp 26), none⟩] [] [2, 8, 27] [] [])
 (.cond (.tmp 27)
  (.seq (.region 5 false 0 [
    ⟨0, 0, (some 6), .mov (.const (.int .i64 0)), none⟩,
    ⟨1, 0, (some 7), .mov (.const (.int .i64 6)), none⟩] [] [6, 7] [] [])
  .ret)
  .skip))
 (.seq (.region 6 false 0 [
   ⟨0, 0, (some 28), .load (some 23) (.tmp 8), none⟩,
   ⟨1, 0, (some 29), .mov (.tmp 2), none⟩,
   ⟨2, 0, (some 30), .call 63 [(.tmp 28), (.tmp 29)] false, none⟩,
   ⟨3, 0, (some 6), .mov (.tmp 30), none⟩,
   ⟨4, 0, (some 7), .mov (.const (.int .i64 0)), none⟩] [] [6, 7] [] [])
 .ret)))))
noncomputable def h21 : List RH := [⟨0, [2, 3, 4], [], [], [], []⟩, ⟨1, [2, 8, 9], [], [], [⟨false, 3, (some 18), 0, 0, false⟩, ⟨false, 3, (some 19), 0, 0, false⟩, ⟨false, 4, (some 0), 0, 0, false⟩], []⟩, ⟨2, [2, 8, 9, 17], [], [], [], []⟩, ⟨3, [6, 7], [], [], [], []⟩, ⟨4, [2, 8, 27], [], [], [], []⟩, ⟨5, [6, 7], [], [], [], []⟩, ⟨6, [6, 7], [], [], [], []⟩]
noncomputable def F21 : IFn := ⟨3, 31, c21, [⟨6, none⟩, ⟨7, none⟩]⟩
theorem is21 : compFn Try.prog h21 Try.f21 = some F21 := by kernel_rfl

/-- saleroom/saleroomref27.Externality -/
noncomputable def c22 : IR :=
 (.seq (.region 0 false 2 [
   ⟨0, 0, (some 3), .box 27 (.tmp 0), none⟩,
   ⟨1, 1, (some 4), .box 31 (.tmp 1), none⟩,
   ⟨2, 2, (some 6), .mov (.const (.int .i64 0)), none⟩,
   ⟨3, 2, (some 7), .mov (.const (.int .i64 0)), none⟩] [] [2, 3, 4] [] [])
 (.seq (.seq (.region 1 false 0 [
   ⟨0, 0, (some 9), .load (some 20) (.tmp 3), none⟩,
   ⟨1, 0, (some 10), .load (some 2) (.tmp 4), none⟩,
   ⟨2, 0, (some 11), .call 64 [(.tmp 9), (.tmp 10)] false, none⟩,
   ⟨3, 0, (some 8), .mov (.tmp 11), none⟩] [] [2, 3, 4, 8] [] [])
 (.seq (.region 2 false 0 [
   ⟨0, 0, (some 12), .mov (.tmp 8), none⟩,
   ⟨1, 0, (some 13), .bin .neq (.tmp 12) (.const (.int .i64 0)), none⟩] [] [2, 3, 4, 8, 13] [] [])
 (.cond (.tmp 13)
  (.seq (.region 3 false 0 [
    ⟨0, 0, (some 14), .mov (.tmp 8), none⟩,
    ⟨1, 0, (some 6), .mov (.const (.int .i64 0)), none⟩,
    ⟨2, 0, (some 7), .mov (.tmp 14), none⟩] [] [6, 7] [] [])
  .ret)
  .skip)))
 (.seq (.seq (.region 4 false 0 [
   ⟨0, 0, (some 15), .mov (.tmp 2), none⟩,
   ⟨1, 0, (some 16), .bin .lss (.tmp 15) (.const (.int .i64 0)), none⟩,
   ⟨2, 0, (some 17), .mov (.tmp 16), none⟩,
   ⟨3, 0, (some 18), .mov (.tmp 2), (some ((some 17), false))⟩,
   ⟨4, 0, (some 19), .fieldA 18 (.tmp 3), (some ((some 17), false))⟩,
   ⟨5, 0, (some 20), .load none (.tmp 19), (some ((some 17), false))⟩,
   ⟨6, 0, (some 21), .len 0 (.tmp 20), (some ((some 17), false))⟩,
   ⟨7, 0, (some 22), .bin .geq (.tmp 18) (.tmp 21), (some ((some 17), false))⟩,
   ⟨8, 0, (some 23), .pick (.tmp 17) (.const (.bool true)) (.tmp 22), none⟩] [] [2, 3, 4, 23] [] [])
 (.cond (.tmp 23)
  (.seq (.region 5 false 0 [
    ⟨0, 0, (some 6), .mov (.const (.int .i64 0)), none⟩,
    ⟨1, 0, (some 7), .mov (.const (.int .i64 6)), none⟩] [] [6, 7] [] [])
  .ret)
  .skip))
 (.seq (.region 6 false 0 [
   ⟨0, 0, (some 24), .load (some 20) (.tmp 3), none⟩,
   ⟨1, 0, (some 25), .load (some 2) (.tmp 4), none⟩,
   ⟨2, 0, (some 26), .mov (.tmp 2), none⟩,
   ⟨3, 0, (some 27), .call 65 [(.tmp 24), (.tmp 25), (.tmp 26)] false, none⟩,
   ⟨4, 0, (some 6), .mov (.tmp 27), none⟩,
   ⟨5, 0, (some 7), .mov (.const (.int .i64 0)), none⟩] [] [6, 7] [] [])
 .ret))))
noncomputable def h22 : List RH := [⟨0, [2, 3, 4], [], [], [], []⟩, ⟨1, [2, 3, 4, 8], [], [], [], []⟩, ⟨2, [2, 3, 4, 8, 13], [], [], [], []⟩, ⟨3, [6, 7], [], [], [], []⟩, ⟨4, [2, 3, 4, 23], [], [], [], []⟩, ⟨5, [6, 7], [], [], [], []⟩, ⟨6, [6, 7], [], [], [], []⟩]
noncomputable def F22 : IFn := ⟨3, 28, c22, [⟨6, none⟩, ⟨7, none⟩]⟩
theorem is22 : compFn Try.prog h22 Try.f22 = some F22 := by kernel_rfl

/-- saleroom/saleroomref27.Same -/
noncomputable def c23 : IR :=
 (.seq (.region 0 false 0 [
   ⟨0, 0, (some 4), .mov (.const (.bool false)), none⟩] [] [0, 1] [] [])
 (.seq (.seq (.region 1 false 0 [
   ⟨0, 0, (some 6), .mov (.tmp 0), none⟩,
   ⟨1, 0, (some 7), .len 0 (.tmp 6), none⟩,
   ⟨2, 0, (some 8), .mov (.tmp 1), none⟩,
   ⟨3, 0, (some 9), .len 0 (.tmp 8), none⟩,
   ⟨4, 0, (some 10), .bin .neq (.tmp 7) (.tmp 9), none⟩] [] [0, 1, 10] [] [])
 (.cond (.tmp 10)
  (.seq (.region 2 false 0 [
    ⟨0, 0, (some 4), .mov (.const (.bool false)), none⟩] [] [4] [] [])
  .ret)
  .skip))
 (.seq (.seq (.region 3 false 0 [
   ⟨0, 0, (some 5), .mov (.const (.int .i64 0)), none⟩] [] [0, 1, 5] [] [])
 (.block 0
  (.loop
   (.seq (.seq (.region 4 false 0 [
     ⟨0, 0, (some 11), .mov (.tmp 5), none⟩,
     ⟨1, 0, (some 12), .mov (.tmp 0), none⟩,
     ⟨2, 0, (some 13), .len 0 (.tmp 12), none⟩,
     ⟨3, 0, (some 14), .bin .lss (.tmp 11) (.tmp 13), none⟩] [] [0, 1, 5, 14] [] [])
   (.cond (.tmp 14)
    .skip
    (.exit 0)))
   (.seq (.block 1
    (.seq (.region 6 true 0 [
      ⟨0, 0, (some 17), .mov (.tmp 0), none⟩,
      ⟨1, 0, (some 18), .mov (.tmp 5), none⟩,
      ⟨2, 0, (some 19), .idxS 1 (.tmp 17) (.tmp 18), none⟩,
      ⟨3, 0, (some 20), .load none (.tmp 19), none⟩,
      ⟨4, 0, (some 21), .mov (.tmp 1), none⟩,
      ⟨5, 0, (some 22), .mov (.tmp 5), none⟩,
      ⟨6, 0, (some 23), .idxS 1 (.tmp 21) (.tmp 22), none⟩,
      ⟨7, 0, (some 24), .load none (.tmp 23), none⟩,
      ⟨8, 0, (some 25), .bin .neq (.tmp 20) (.tmp 24), none⟩] [] [0, 1, 5, 25] [] [])
    (.cond (.tmp 25)
     (.seq (.region 7 false 0 [
       ⟨0, 0, (some 4), .mov (.const (.bool false)), none⟩] [] [4] [] [])
     .ret)
     .skip)))
   (.region 5 false 0 [
     ⟨0, 0, (some 15), .mov (.tmp 5), none⟩,
     ⟨1, 0, (some 16), .bin .add (.tmp 15) (.const (.int .i64 1)), none⟩,
     ⟨2, 0, (some 5), .mov (.tmp 16), none⟩] [] [0, 1, 5] [] []))))))
 (.seq (.region 8 false 0 [
   ⟨0, 0, (some 4), .mov (.const (.bool true)), none⟩] [] [4] [] [])
 .ret))))
noncomputable def h23 : List RH := [⟨0, [0, 1], [], [], [], []⟩, ⟨1, [0, 1, 10], [], [], [], []⟩, ⟨2, [4], [], [], [], []⟩, ⟨3, [0, 1, 5], [], [], [], []⟩, ⟨4, [0, 1, 5, 14], [], [], [], []⟩, ⟨6, [0, 1, 5, 25], [], [], [], []⟩, ⟨7, [4], [], [], [], []⟩, ⟨5, [0, 1, 5], [], [], [], []⟩, ⟨8, [4], [], [], [], []⟩]
noncomputable def F23 : IFn := ⟨2, 26, c23, [⟨4, none⟩]⟩
theorem is23 : compFn Try.prog h23 Try.f23 = some F23 := by kernel_rfl

/-- saleroom/saleroomref20.Check -/
noncomputable def c24 : IR :=
 (.seq (.region 0 false 1 [
   ⟨0, 0, (some 1), .box 27 (.tmp 0), none⟩,
   ⟨1, 1, (some 2), .mov (.const (.int .i64 0)), none⟩] [] [1] [] [])
 (.seq (.seq (.region 1 false 0 [
   ⟨0, 0, (some 8), .fieldA 0 (.tmp 1), none⟩,
   ⟨1, 0, (some 9), .load (some 6) (.tmp 8), none⟩,
   ⟨2, 0, (some 10), .call 68 [(.tmp 9)] false, none⟩,
   ⟨3, 0, (some 11), .un .not (.tmp 10), none⟩] [] [1, 11] [] [])
 (.cond (.tmp 11)
  (.seq (.region 2 false 0 [
    ⟨0, 0, (some 2), .mov (.const (.int .i64 4)), none⟩] [] [2] [] [])
  .ret)
  .skip))
 (.seq (.seq (.region 3 false 0 [
   ⟨0, 0, (some 3), .mov (.const (.int .i64 0)), none⟩] [] [1, 3] [] [])
 (.block 0
  (.loop
   (.seq (.seq (.region 4 false 0 [
     ⟨0, 0, (some 12), .mov (.tmp 3), none⟩,
     ⟨1, 0, (some 13), .bin .lss (.tmp 12) (.const (.int .i64 6)), none⟩] [] [1, 3, 13] [] [])
   (.cond (.tmp 13)
    .skip
    (.exit 0)))
   (.seq (.block 1
    (.seq (.region 6 true 0 [
      ⟨0, 0, (some 16), .mov (.tmp 3), none⟩,
      ⟨1, 0, (some 17), .fieldA 12 (.tmp 1), none⟩,
      ⟨2, 0, (some 18), .idxA 6 1 (.tmp 17) (.tmp 16), none⟩,
      ⟨3, 0, (some 19), .load none (.tmp 18), none⟩,
      ⟨4, 0, (some 20), .bin .lss (.tmp 19) (.const (.int .i64 0)), none⟩,
      ⟨5, 0, (some 21), .mov (.tmp 20), none⟩,
      ⟨6, 0, (some 22), .mov (.tmp 3), (some ((some 21), false))⟩,
      ⟨7, 0, (some 23), .fieldA 12 (.tmp 1), (some ((some 21), false))⟩,
      ⟨8, 0, (some 24), .idxA 6 1 (.tmp 23) (.tmp 22), (some ((some 21), false))⟩,
      ⟨9, 0, (some 25), .load none (.tmp 24), (some ((some 21), false))⟩,
      ⟨10, 0, (some 26), .bin .gtr (.tmp 25) (.const (.int .i64 4)), (some ((some 21), false))⟩,
      ⟨11, 0, (some 27), .pick (.tmp 21) (.const (.bool true)) (.tmp 26), none⟩,
      ⟨12, 0, (some 28), .mov (.tmp 27), none⟩,
      ⟨13, 0, (some 29), .mov (.tmp 3), (some ((some 28), false))⟩,
      ⟨14, 0, (some 30), .fieldA 6 (.tmp 1), (some ((some 28), false))⟩,
      ⟨15, 0, (some 31), .idxA 6 1 (.tmp 30) (.tmp 29), (some ((some 28), false))⟩,
      ⟨16, 0, (some 32), .load none (.tmp 31), (some ((some 28), false))⟩,
      ⟨17, 0, (some 33), .bin .lss (.tmp 32) (.const (.int .i64 0)), (some ((some 28), false))⟩,
      ⟨18, 0, (some 34), .pick (.tmp 28) (.const (.bool true)) (.tmp 33), none⟩,
      ⟨19, 0, (some 35), .mov (.tmp 34), none⟩,
      ⟨20, 0, (some 36), .mov (.tmp 3), (some ((some 35), false))⟩,
      ⟨21, 0, (some 37), .fieldA 6 (.tmp 1), (some ((some 35), false))⟩,
      ⟨22, 0, (some 38), .idxA 6 1 (.tmp 37) (.tmp 36), (some ((some 35), false))⟩,
      ⟨23, 0, (some 39), .load none (.tmp 38), (some ((some 35), false))⟩,
      ⟨24, 0, (some 40), .mov (.tmp 3), (some ((some 35), false))⟩,
      ⟨25, 0, (some 41), .fieldA 0 (.tmp 1), (some ((some 35), false))⟩,
      ⟨26, 0, (some 42), .idxA 6 1 (.tmp 41) (.tmp 40), (some ((some 35), false))⟩,
      ⟨27, 0, (some 43), .load none (.tmp 42), (some ((some 35), false))⟩,
      ⟨28, 0, (some 44), .bin .gtr (.tmp 39) (.tmp 43), (some ((some 35), false))⟩,
      ⟨29, 0, (some 45), .pick (.tmp 35) (.const (.bool true)) (.tmp 44), none⟩,
      ⟨30, 0, (some 46), .mov (.tmp 45), none⟩,
      ⟨31, 0, (some 47), .mov (.tmp 3), (some ((some 46), false))⟩,
      ⟨32, 0, (some 48), .fieldA 12 (.tmp 1), (some ((some 46), false))⟩,
      ⟨33, 0, (some 49), .idxA 6 1 (.tmp 48) (.tmp 47), (some ((some 46), false))⟩,
      ⟨34, 0, (some 50), .load none (.tmp 49), (some ((some 46), false))⟩,
      ⟨35, 0, (some 51), .bin .eql (.tmp 50) (.const (.int .i64 0)), (some ((some 46), false))⟩,
      ⟨36, 0, (some 52), .mov (.tmp 51), (some ((some 46), false))⟩,
      ⟨37, 0, (some 53), .mov (.tmp 3), (some ((some 52), true))⟩,
      ⟨38, 0, (some 54), .fieldA 6 (.tmp 1), (some ((some 52), true))⟩,
      ⟨39, 0, (some 55), .idxA 6 1 (.tmp 54) (.tmp 53), (some ((some 52), true))⟩,
      ⟨40, 0, (some 56), .load none (.tmp 55), (some ((some 52), true))⟩,
      ⟨41, 0, (some 57), .mov (.tmp 3), (some ((some 52), true))⟩,
      ⟨42, 0, (some 58), .fieldA 0 (.tmp 1), (some ((some 52), true))⟩,
      ⟨43, 0, (some 59), .idxA 6 1 (.tmp 58) (.tmp 57), (some ((some 52), true))⟩,
      ⟨44, 0, (some 60), .load none (.tmp 59), (some ((some 52), true))⟩,
      ⟨45, 0, (some 61), .bin .neq (.tmp 56) (.tmp 60), (some ((some 52), true))⟩,
      ⟨46, 0, (some 62), .pick (.tmp 52) (.tmp 61) (.const (.bool false)), (some ((some 46), false))⟩,
      ⟨47, 0, (some 63), .pick (.tmp 46) (.const (.bool true)) (.tmp 62), none⟩] [] [1, 3, 63] [] [])
    (.cond (.tmp 63)
     (.seq (.region 7 false 0 [
       ⟨0, 0, (some 2), .mov (.const (.int .i64 4)), none⟩] [] [2] [] [])
     .ret)
     .skip)))
   (.region 5 false 0 [
     ⟨0, 0, (some 14), .mov (.tmp 3), none⟩,
     ⟨1, 0, (some 15), .bin .add (.tmp 14) (.const (.int .i64 1)), none⟩,
     ⟨2, 0, (some 3), .mov (.tmp 15), none⟩] [] [1, 3] [] []))))))
 (.seq (.seq (.region 8 false 0 [
   ⟨0, 0, (some 64), .fieldA 18 (.tmp 1), none⟩,
   ⟨1, 0, (some 65), .load none (.tmp 64), none⟩,
   ⟨2, 0, (some 66), .len 0 (.tmp 65), none⟩,
   ⟨3, 0, (some 67), .bin .gtr (.tmp 66) (.const (.int .i64 8)), none⟩,
   ⟨4, 0, (some 68), .mov (.tmp 67), none⟩,
   ⟨5, 0, (some 69), .fieldA 19 (.tmp 1), (some ((some 68), false))⟩,
   ⟨6, 0, (some 70), .load none (.tmp 69), (some ((some 68), false))⟩,
   ⟨7, 0, (some 71), .len 0 (.tmp 70), (some ((some 68), false))⟩,
   ⟨8, 0, (some 72), .bin .gtr (.tmp 71) (.const (.int .i64 160)), (some ((some 68), false))⟩,
   ⟨9, 0, (some 73), .pick (.tmp 68) (.const (.bool true)) (.tmp 72), none⟩] [] [1, 73] [] [])
 (.cond (.tmp 73)
  (.seq (.region 9 false 0 [
    ⟨0, 0, (some 2), .mov (.const (.int .i64 3)), none⟩] [] [2] [] [])
  .ret)
  .skip))
 (.seq (.seq (.region 10 false 0 [
   ⟨0, 0, (some 4), .mov (.const (.int .i64 0)), none⟩] [] [1, 4] [] [])
 (.block 2
  (.loop
   (.seq (.seq (.region 11 false 0 [
     ⟨0, 0, (some 74), .mov (.tmp 4), none⟩,
     ⟨1, 0, (some 75), .fieldA 18 (.tmp 1), none⟩,
     ⟨2, 0, (some 76), .load none (.tmp 75), none⟩,
     ⟨3, 0, (some 77), .len 0 (.tmp 76), none⟩,
     ⟨4, 0, (some 78), .bin .lss (.tmp 74) (.tmp 77), none⟩] [] [1, 4, 78] [] [])
   (.cond (.tmp 78)
    .skip
    (.exit 2)))
   (.seq (.block 3
    (.seq (.region 13 false 0 [
      ⟨0, 0, (some 81), .fieldA 18 (.tmp 1), none⟩,
      ⟨1, 0, (some 82), .load none (.tmp 81), none⟩,
      ⟨2, 0, (some 83), .mov (.tmp 4), none⟩,
      ⟨3, 0, (some 84), .idxS 1 (.tmp 82) (.tmp 83), none⟩,
      ⟨4, 0, (some 85), .load none (.tmp 84), none⟩,
      ⟨5, 0, (some 86), .bin .lss (.tmp 85) (.const (.int .i64 0)), none⟩,
      ⟨6, 0, (some 87), .mov (.tmp 86), none⟩,
      ⟨7, 0, (some 88), .fieldA 18 (.tmp 1), (some ((some 87), false))⟩,
      ⟨8, 0, (some 89), .load none (.tmp 88), (some ((some 87), false))⟩,
      ⟨9, 0, (some 90), .mov (.tmp 4), (some ((some 87), false))⟩,
      ⟨10, 0, (some 91), .idxS 1 (.tmp 89) (.tmp 90), (some ((some 87), false))⟩,
      ⟨11, 0, (some 92), .load none (.tmp 91), (some ((some 87), false))⟩,
      ⟨12, 0, (some 93), .bin .gtr (.tmp 92) (.const (.int .i64 4)), (some ((some 87), false))⟩,
      ⟨13, 0, (some 94), .pick (.tmp 87) (.const (.bool true)) (.tmp 93), none⟩] [] [1, 4, 94] [] [])
    (.cond (.tmp 94)
     (.seq (.region 14 false 0 [
       ⟨0, 0, (some 2), .mov (.const (.int .i64 4)), none⟩] [] [2] [] [])
     .ret)
     .skip)))
   (.region 12 false 0 [
     ⟨0, 0, (some 79), .mov (.tmp 4), none⟩,
     ⟨1, 0, (some 80), .bin .add (.tmp 79) (.const (.int .i64 1)), none⟩,
     ⟨2, 0, (some 4), .mov (.tmp 80), none⟩] [] [1, 4] [] []))))))
 (.seq (.seq (.region 15 false 0 [
   ⟨0, 0, (some 5), .mov (.const (.int .i64 0)), none⟩] [] [1, 5] [] [])
 (.block 4
  (.loop
   (.seq (.seq (.region 16 false 0 [
     ⟨0, 0, (some 95), .mov (.tmp 5), none⟩,
     ⟨1, 0, (some 96), .fieldA 19 (.tmp 1), none⟩,
     ⟨2, 0, (some 97), .load none (.tmp 96), none⟩,
     ⟨3, 0, (some 98), .len 0 (.tmp 97), none⟩,
     ⟨4, 0, (some 99), .bin .lss (.tmp 95) (.tmp 98), none⟩] [] [1, 5, 99] [] [])
   (.cond (.tmp 99)
    .skip
    (.exit 4)))
   (.seq (.block 5
    (.seq (.region 18 false 1 [
      ⟨0, 0, (some 102), .fieldA 19 (.tmp 1), none⟩,
      ⟨1, 0, (some 103), .load none (.tmp 102), none⟩,
      ⟨2, 0, (some 104), .mov (.tmp 5), none⟩,
      ⟨3, 0, (some 105), .idxS 8 (.tmp 103) (.tmp 104), none⟩,
      ⟨4, 0, (some 106), .load (some 8) (.tmp 105), none⟩,
      ⟨5, 0, (some 6), .alloc [(.int .i64 0), (.int .i64 0), (.int .i64 0), (.int .i64 0), (.int .i64 0), (.int .i64 0), (.int .i64 0), (.int .i64 0)] 43 false, none⟩,
      ⟨6, 1, none, .store 8 (.tmp 6) (.tmp 106), none⟩] [] [1, 5, 6] [] [])
    (.seq (.seq (.region 19 false 0 [
      ⟨0, 0, (some 107), .fieldA 0 (.tmp 6), none⟩,
      ⟨1, 0, (some 108), .load none (.tmp 107), none⟩,
      ⟨2, 0, (some 109), .bin .lss (.tmp 108) (.const (.int .i64 0)), none⟩,
      ⟨3, 0, (some 110), .mov (.tmp 109), none⟩,
      ⟨4, 0, (some 111), .fieldA 0 (.tmp 6), (some ((some 110), false))⟩,
      ⟨5, 0, (some 112), .load none (.tmp 111), (some ((some 110), false))⟩,
      ⟨6, 0, (some 113), .fieldA 18 (.tmp 1), (some ((some 110), false))⟩,
      ⟨7, 0, (some 114), .load none (.tmp 113), (some ((some 110), false))⟩,
      ⟨8, 0, (some 115), .len 0 (.tmp 114), (some ((some 110), false))⟩,
      ⟨9, 0, (some 116), .bin .geq (.tmp 112) (.tmp 115), (some ((some 110), false))⟩,
      ⟨10, 0, (some 117), .pick (.tmp 110) (.const (.bool true)) (.tmp 116), none⟩] [] [1, 5, 6, 117] [] [])
    (.cond (.tmp 117)
     (.seq (.region 20 false 0 [
       ⟨0, 0, (some 2), .mov (.const (.int .i64 6)), none⟩] [] [2] [] [])
     .ret)
     .skip))
    (.seq (.seq (.region 21 false 0 [
      ⟨0, 0, (some 118), .fieldA 7 (.tmp 6), none⟩,
      ⟨1, 0, (some 119), .load none (.tmp 118), none⟩,
      ⟨2, 0, (some 120), .bin .lss (.tmp 119) (.const (.int .i64 1)), none⟩,
      ⟨3, 0, (some 121), .mov (.tmp 120), none⟩,
      ⟨4, 0, (some 122), .fieldA 7 (.tmp 6), (some ((some 121), false))⟩,
      ⟨5, 0, (some 123), .load none (.tmp 122), (some ((some 121), false))⟩,
      ⟨6, 0, (some 124), .bin .gtr (.tmp 123) (.const (.int .i64 1000000)), (some ((some 121), false))⟩,
      ⟨7, 0, (some 125), .pick (.tmp 121) (.const (.bool true)) (.tmp 124), none⟩,
      ⟨8, 0, (some 126), .mov (.tmp 125), none⟩,
      ⟨9, 0, (some 127), .fieldA 1 (.tmp 6), (some ((some 126), false))⟩,
      ⟨10, 0, (some 128), .load (some 6) (.tmp 127), (some ((some 126), false))⟩,
      ⟨11, 0, (some 129), .call 68 [(.tmp 128)] false, (some ((some 126), false))⟩,
      ⟨12, 0, (some 130), .un .not (.tmp 129), (some ((some 126), false))⟩,
      ⟨13, 0, (some 131), .pick (.tmp 126) (.const (.bool true)) (.tmp 130), none⟩,
      ⟨14, 0, (some 132), .mov (.tmp 131), none⟩,
      ⟨15, 0, (some 133), .fieldA 1 (.tmp 6), (some ((some 132), false))⟩,
      ⟨16, 0, (some 134), .load (some 6) (.tmp 133), (some ((some 132), false))⟩,
      ⟨17, 0, (some 135), .build [(.int .i64 0), (.int .i64 0), (.int .i64 0), (.int .i64 0), (.int .i64 0), (.int .i64 0)] [], (some ((some 132), false))⟩,
      ⟨18, 0, (some 136), .eqf false [0, 0, 0, 0, 0, 0] (.tmp 134) (.tmp 135), (some ((some 132), false))⟩,
      ⟨19, 0, (some 137), .pick (.tmp 132) (.const (.bool true)) (.tmp 136), none⟩] [] [1, 5, 6, 137] [] [])
    (.cond (.tmp 137)
     (.seq (.region 22 false 0 [
       ⟨0, 0, (some 2), .mov (.const (.int .i64 4)), none⟩] [] [2] [] [])
     .ret)
     .skip))
    (.seq (.seq (.region 23 false 0 [
      ⟨0, 0, (some 138), .load (some 20) (.tmp 1), none⟩,
      ⟨1, 0, (some 139), .load (some 8) (.tmp 6), none⟩,
      ⟨2, 0, (some 140), .mkimm [(.int .i64 0), (.int .i64 0), (.int .i64 0), (.int .i64 0), (.int .i64 0), (.int .i64 0), (.int .i64 0), (.int .i64 0)] 1 [(0, (.tmp 139))] 43 8, none⟩,
      ⟨3, 0, (some 141), .call 69 [(.tmp 138), (.tmp 140)] false, none⟩,
      ⟨4, 0, (some 142), .un .not (.tmp 141), none⟩] [] [1, 5, 6, 142] [] [])
    (.cond (.tmp 142)
     (.seq (.region 24 false 0 [
       ⟨0, 0, (some 2), .mov (.const (.int .i64 14)), none⟩] [] [2] [] [])
     .ret)
     .skip))
    (.seq (.region 25 false 0 [
      ⟨0, 0, (some 7), .mov (.const (.int .i64 0)), none⟩] [] [1, 5, 6, 7] [] [])
    (.block 6
     (.loop
      (.seq (.seq (.region 26 false 0 [
        ⟨0, 0, (some 143), .mov (.tmp 7), none⟩,
        ⟨1, 0, (some 144), .mov (.tmp 5), none⟩,
        ⟨2, 0, (some 145), .bin .lss (.tmp 143) (.tmp 144), none⟩] [] [1, 5, 6, 7, 145] [] [])
      (.cond (.tmp 145)
       .skip
       (.exit 6)))
      (.seq (.block 7
       (.seq (.region 28 true 0 [
         ⟨0, 0, (some 148), .fieldA 19 (.tmp 1), none⟩,
         ⟨1, 0, (some 149), .load none (.tmp 148), none⟩,
         ⟨2, 0, (some 150), .mov (.tmp 7), none⟩,
         ⟨3, 0, (some 151), .idxS 8 (.tmp 149) (.tmp 150), none⟩,
         ⟨4, 0, (some 152), .fieldA 0 (.tmp 151), none⟩,
         ⟨5, 0, (some 153), .load none (.tmp 152), none⟩,
         ⟨6, 0, (some 154), .fieldA 0 (.tmp 6), none⟩,
         ⟨7, 0, (some 155), .load none (.tmp 154), none⟩,
         ⟨8, 0, (some 156), .bin .eql (.tmp 153) (.tmp 155), none⟩,
         ⟨9, 0, (some 157), .mov (.tmp 156), none⟩,
         ⟨10, 0, (some 158), .fieldA 19 (.tmp 1), (some ((some 157), true))⟩,
         ⟨11, 0, (some 159), .load none (.tmp 158), (some ((some 157), true))⟩,
         ⟨12, 0, (some 160), .mov (.tmp 7), (some ((some 157), true))⟩,
         ⟨13, 0, (some 161), .idxS 8 (.tmp 159) (.tmp 160), (some ((some 157), true))⟩,
         ⟨14, 0, (some 162), .fieldA 1 (.tmp 161), (some ((some 157), true))⟩,
         ⟨15, 0, (some 163), .load (some 6) (.tmp 162), (some ((some 157), true))⟩,
         ⟨16, 0, (some 164), .fieldA 1 (.tmp 6), (some ((some 157), true))⟩,
         ⟨17, 0, (some 165), .load (some 6) (.tmp 164), (some ((some 157), true))⟩,
         ⟨18, 0, (some 166), .eqf false [0, 0, 0, 0, 0, 0] (.tmp 163) (.tmp 165), (some ((some 157), true))⟩,
         ⟨19, 0, (some 167), .pick (.tmp 157) (.tmp 166) (.const (.bool false)), none⟩] [] [1, 5, 6, 7, 167] [] [])
       (.cond (.tmp 167)
        (.seq (.region 29 false 0 [
          ⟨0, 0, (some 2), .mov (.const (.int .i64 7)), none⟩] [] [2] [] [])
        .ret)
        .skip)))
      (.region 27 false 0 [
        ⟨0, 0, (some 146), .mov (.tmp 7), none⟩,
        ⟨1, 0, (some 147), .bin .add (.tmp 146) (.const (.int .i64 1)), none⟩,
        ⟨2, 0, (some 7), .mov (.tmp 147), none⟩] [] [1, 5, 6, 7] [] [])))))))))))
   (.region 17 false 0 [
     ⟨0, 0, (some 100), .mov (.tmp 5), none⟩,
     ⟨1, 0, (some 101), .bin .add (.tmp 100) (.const (.int .i64 1)), none⟩,
     ⟨2, 0, (some 5), .mov (.tmp 101), none⟩] [] [1, 5] [] []))))))
 (.seq (.region 30 false 0 [
   ⟨0, 0, (some 2), .mov (.const (.int .i64 0)), none⟩] [] [2] [] [])
 .ret)))))))
noncomputable def h24 : List RH := [⟨0, [1], [], [], [], []⟩, ⟨1, [1, 11], [], [], [], []⟩, ⟨2, [2], [], [], [], []⟩, ⟨3, [1, 3], [], [], [], []⟩, ⟨4, [1, 3, 13], [], [], [], []⟩, ⟨6, [1, 3, 63], [], [], [], []⟩, ⟨7, [2], [], [], [], []⟩, ⟨5, [1, 3], [], [], [], []⟩, ⟨8, [1, 73], [], [], [], []⟩, ⟨9, [2], [], [], [], []⟩, ⟨10, [1, 4], [], [], [], []⟩, ⟨11, [1, 4, 78], [], [], [], []⟩, ⟨13, [1, 4, 94], [], [], [], []⟩, ⟨14, [2], [], [], [], []⟩, ⟨12, [1, 4], [], [], [], []⟩, ⟨15, [1, 5], [], [], [], []⟩, ⟨16, [1, 5, 99], [], [], [], []⟩, ⟨18, [1, 5, 6], [], [], [], []⟩, ⟨19, [1, 5, 6, 117], [], [], [], []⟩, ⟨20, [2], [], [], [], []⟩, ⟨21, [1, 5, 6, 137], [], [], [], []⟩, ⟨22, [2], [], [], [], []⟩, ⟨23, [1, 5, 6, 142], [], [2], [], []⟩, ⟨24, [2], [], [], [], []⟩, ⟨25, [1, 5, 6, 7], [], [], [], []⟩, ⟨26, [1, 5, 6, 7, 145], [], [], [], []⟩, ⟨28, [1, 5, 6, 7, 167], [], [], [], []⟩, ⟨29, [2], [], [], [], []⟩, ⟨27, [1, 5, 6, 7], [], [], [], []⟩, ⟨17, [1, 5], [], [], [], []⟩, ⟨30, [2], [], [], [], []⟩]
noncomputable def F24 : IFn := ⟨1, 168, c24, [⟨2, none⟩]⟩
theorem is24 : compFn Try.prog h24 Try.f24 = some F24 := by kernel_rfl

/-- saleroom/saleroomref23.Best -/
noncomputable def c25 : IR :=
 (.seq (.region 0 false 2 [
   ⟨0, 0, (some 1), .box 27 (.tmp 0), none⟩,
   ⟨1, 1, (some 2), .alloc [(.slice none 0 0), (.int .i64 0)] 31 false, none⟩] [] [1, 2] [] [])
 (.seq (.region 1 false 1 [
   ⟨0, 0, (some 4), .build [(.slice none 0 0), (.int .i64 0)] [], none⟩,
   ⟨1, 0, (some 3), .alloc [(.slice none 0 0), (.int .i64 0)] 31 false, none⟩,
   ⟨2, 1, none, .store 2 (.tmp 3) (.tmp 4), none⟩] [] [1, 2, 3] [] [])
 (.seq (.region 2 false 0 [
   ⟨0, 0, (some 5), .load (some 20) (.tmp 1), none⟩,
   ⟨1, 0, (some 6), .build [(.slice none 0 0), (.int .i64 0)] [], none⟩,
   ⟨2, 0, (some 7), .load (some 2) (.tmp 3), none⟩,
   ⟨3, 0, (some 8), .call 70 [(.tmp 5), (.tmp 6), (.const (.int .i64 0)), (.tmp 7)] false, none⟩,
   ⟨4, 0, none, .store 2 (.tmp 2) (.tmp 8), none⟩] [] [2] [⟨false, 1, (some 18), 0, 0, false⟩, ⟨false, 1, (some 19), 0, 0, false⟩, ⟨false, 3, (some 0), 0, 0, false⟩] [])
 .ret)))
noncomputable def h25 : List RH := [⟨0, [1, 2], [], [], [], []⟩, ⟨1, [1, 2, 3], [], [], [], []⟩, ⟨2, [2], [], [], [⟨false, 1, (some 18), 0, 0, false⟩, ⟨false, 1, (some 19), 0, 0, false⟩, ⟨false, 3, (some 0), 0, 0, false⟩], []⟩]
noncomputable def F25 : IFn := ⟨1, 9, c25, [⟨2, (some (some 2))⟩]⟩
theorem is25 : compFn Try.prog h25 Try.f25 = some F25 := by kernel_rfl

/-- saleroom/saleroomref27.Worth -/
noncomputable def c26 : IR :=
 (.seq (.region 0 false 1 [
   ⟨0, 0, (some 2), .box 27 (.tmp 0), none⟩,
   ⟨1, 1, (some 4), .mov (.const (.int .i64 0)), none⟩] [] [1, 2] [] [])
 (.seq (.region 1 false 1 [
   ⟨0, 0, (some 7), .load (some 20) (.tmp 2), none⟩,
   ⟨1, 0, (some 5), .alloc [(.int .i64 0), (.int .i64 0), (.int .i64 0), (.int .i64 0), (.int .i64 0), (.int .i64 0), (.int .i64 0), (.int .i64 0), (.int .i64 0), (.int .i64 0), (.int .i64 0), (.int .i64 0), (.int .i64 0), (.int .i64 0), (.int .i64 0), (.int .i64 0), (.int .i64 0), (.int .i64 0), (.slice none 0 0), (.slice none 0 0)] 27 false, none⟩,
   ⟨2, 1, none, .store 20 (.tmp 5) (.tmp 7), none⟩] [] [1, 2, 5] [] [⟨true, 5, (some 19), 43, 8, true⟩])
 (.seq (.region 2 false 0 [
   ⟨0, 0, (some 8), .fieldA 19 (.tmp 5), none⟩,
   ⟨1, 0, none, .store 1 (.tmp 8) (.const (.slice none 0 0)), none⟩] [] [1, 2, 5] [] [⟨true, 5, (some 19), 43, 8, true⟩])
 (.seq (.seq (.region 3 false 0 [
   ⟨0, 0, (some 6), .mov (.const (.int .i64 0)), none⟩] [] [1, 2, 5, 6] [] [])
 (.block 0
  (.loop
   (.seq (.seq (.region 4 false 0 [
     ⟨0, 0, (some 9), .mov (.tmp 6), none⟩,
     ⟨1, 0, (some 10), .fieldA 19 (.tmp 2), none⟩,
     ⟨2, 0, (some 11), .load none (.tmp 10), none⟩,
     ⟨3, 0, (some 12), .len 0 (.tmp 11), none⟩,
     ⟨4, 0, (some 13), .bin .lss (.tmp 9) (.tmp 12), none⟩] [] [1, 2, 5, 6, 13] [] [])
   (.cond (.tmp 13)
    .skip
    (.exit 0)))
   (.seq (.block 1
    (.seq (.region 6 false 0 [
      ⟨0, 0, (some 16), .mov (.tmp 1), none⟩,
      ⟨1, 0, (some 17), .fieldA 19 (.tmp 2), none⟩,
      ⟨2, 0, (some 18), .load none (.tmp 17), none⟩,
      ⟨3, 0, (some 19), .mov (.tmp 6), none⟩,
      ⟨4, 0, (some 20), .idxS 8 (.tmp 18) (.tmp 19), none⟩,
      ⟨5, 0, (some 21), .fieldA 0 (.tmp 20), none⟩,
      ⟨6, 0, (some 22), .load none (.tmp 21), none⟩,
      ⟨7, 0, (some 23), .call 71 [(.tmp 16), (.tmp 22)] false, none⟩] [] [1, 2, 5, 6, 23] [] [])
    (.cond (.tmp 23)
     (.region 7 true 2 [
       ⟨0, 0, (some 24), .fieldA 19 (.tmp 5), none⟩,
       ⟨1, 0, (some 25), .load none (.tmp 24), none⟩,
       ⟨2, 0, (some 26), .fieldA 19 (.tmp 2), none⟩,
       ⟨3, 0, (some 27), .load none (.tmp 26), none⟩,
       ⟨4, 0, (some 28), .mov (.tmp 6), none⟩,
       ⟨5, 0, (some 29), .idxS 8 (.tmp 27) (.tmp 28), none⟩,
       ⟨6, 0, (some 30), .load (some 8) (.tmp 29), none⟩,
       ⟨7, 0, (some 31), .mkrow [(.int .i64 0), (.int .i64 0), (.int .i64 0), (.int .i64 0), (.int .i64 0), (.int .i64 0), (.int .i64 0), (.int .i64 0)] 1 [(0, (.tmp 30))] 43 8, none⟩,
       ⟨8, 1, (some 32), .append 43 8 64 (.tmp 25) (.tmp 31) true, none⟩,
       ⟨9, 2, (some 33), .fieldA 19 (.tmp 5), none⟩,
       ⟨10, 2, none, .store 1 (.tmp 33) (.tmp 32), none⟩] [(1, 7)] [1, 2, 5, 6] [] [])
     .skip)))
   (.region 5 false 0 [
     ⟨0, 0, (some 14), .mov (.tmp 6), none⟩,
     ⟨1, 0, (some 15), .bin .add (.tmp 14) (.const (.int .i64 1)), none⟩,
     ⟨2, 0, (some 6), .mov (.tmp 15), none⟩] [] [1, 2, 5, 6] [] []))))))
 (.seq (.region 8 false 0 [
   ⟨0, 0, (some 34), .load (some 20) (.tmp 5), none⟩,
   ⟨1, 0, (some 35), .call 25 [(.tmp 34)] false, none⟩,
   ⟨2, 0, (some 36), .field 1 none (.tmp 35), none⟩,
   ⟨3, 0, (some 4), .mov (.tmp 36), none⟩] [] [4] [⟨false, 5, (some 18), 0, 0, false⟩, ⟨false, 5, (some 19), 0, 0, false⟩] [])
 .ret)))))
noncomputable def h26 : List RH := [⟨0, [1, 2], [], [], [], []⟩, ⟨1, [1, 2, 5], [], [], [], [⟨true, 5, (some 19), 43, 8, true⟩]⟩, ⟨2, [1, 2, 5], [], [], [], [⟨true, 5, (some 19), 43, 8, true⟩]⟩, ⟨3, [1, 2, 5, 6], [], [], [], []⟩, ⟨4, [1, 2, 5, 6, 13], [], [], [], []⟩, ⟨6, [1, 2, 5, 6, 23], [], [], [], []⟩, ⟨7, [1, 2, 5, 6], [], [8], [], []⟩, ⟨5, [1, 2, 5, 6], [], [], [], []⟩, ⟨8, [4], [], [], [⟨false, 5, (some 18), 0, 0, false⟩, ⟨false, 5, (some 19), 0, 0, false⟩], []⟩]
noncomputable def F26 : IFn := ⟨2, 37, c26, [⟨4, none⟩]⟩
theorem is26 : compFn Try.prog h26 Try.f26 = some F26 := by kernel_rfl

/-- saleroom/saleroomref27.All -/
noncomputable def c27 : IR :=
 (.seq (.region 0 false 1 [
   ⟨0, 0, (some 2), .box 27 (.tmp 0), none⟩,
   ⟨1, 1, (some 4), .mov (.const (.int .i64 0)), none⟩] [] [1, 2] [] [])
 (.seq (.region 1 false 0 [
   ⟨0, 0, (some 5), .mov (.const (.int .i64 0)), none⟩,
   ⟨1, 0, (some 6), .mov (.const (.int .i64 1)), none⟩] [] [1, 2, 5, 6] [] [])
 (.seq (.seq (.region 2 false 0 [
   ⟨0, 0, (some 7), .mov (.const (.int .i64 0)), none⟩] [] [1, 2, 5, 6, 7] [] [])
 (.block 0
  (.loop
   (.seq (.seq (.region 3 false 0 [
     ⟨0, 0, (some 8), .mov (.tmp 7), none⟩,
     ⟨1, 0, (some 9), .fieldA 18 (.tmp 2), none⟩,
     ⟨2, 0, (some 10), .load none (.tmp 9), none⟩,
     ⟨3, 0, (some 11), .len 0 (.tmp 10), none⟩,
     ⟨4, 0, (some 12), .bin .lss (.tmp 8) (.tmp 11), none⟩] [] [1, 2, 5, 6, 7, 12] [] [])
   (.cond (.tmp 12)
    .skip
    (.exit 0)))
   (.seq (.block 1
    (.seq (.seq (.region 5 false 0 [
      ⟨0, 0, (some 15), .mov (.tmp 7), none⟩,
      ⟨1, 0, (some 16), .mov (.tmp 1), none⟩,
      ⟨2, 0, (some 17), .bin .neq (.tmp 15) (.tmp 16), none⟩] [] [1, 2, 5, 6, 7, 17] [] [])
    (.cond (.tmp 17)
     (.region 6 false 0 [
       ⟨0, 0, (some 18), .mov (.tmp 5), none⟩,
       ⟨1, 0, (some 19), .mov (.tmp 6), none⟩,
       ⟨2, 0, (some 20), .bin .add (.tmp 18) (.tmp 19), none⟩,
       ⟨3, 0, (some 5), .mov (.tmp 20), none⟩] [] [1, 2, 5, 6, 7] [] [])
     .skip))
    (.region 7 false 0 [
      ⟨0, 0, (some 21), .mov (.tmp 6), none⟩,
      ⟨1, 0, (some 22), .bin .mul (.const (.int .i64 2)) (.tmp 21), none⟩,
      ⟨2, 0, (some 6), .mov (.tmp 22), none⟩] [] [1, 2, 5, 6, 7] [] [])))
   (.region 4 false 0 [
     ⟨0, 0, (some 13), .mov (.tmp 7), none⟩,
     ⟨1, 0, (some 14), .bin .add (.tmp 13) (.const (.int .i64 1)), none⟩,
     ⟨2, 0, (some 7), .mov (.tmp 14), none⟩] [] [1, 2, 5, 6, 7] [] []))))))
 (.seq (.region 8 false 0 [
   ⟨0, 0, (some 23), .mov (.tmp 5), none⟩,
   ⟨1, 0, (some 4), .mov (.tmp 23), none⟩] [] [4] [] [])
 .ret))))
noncomputable def h27 : List RH := [⟨0, [1, 2], [], [], [], []⟩, ⟨1, [1, 2, 5, 6], [], [], [], []⟩, ⟨2, [1, 2, 5, 6, 7], [], [], [], []⟩, ⟨3, [1, 2, 5, 6, 7, 12], [], [], [], []⟩, ⟨5, [1, 2, 5, 6, 7, 17], [], [], [], []⟩, ⟨6, [1, 2, 5, 6, 7], [], [], [], []⟩, ⟨7, [1, 2, 5, 6, 7], [], [], [], []⟩, ⟨4, [1, 2, 5, 6, 7], [], [], [], []⟩, ⟨8, [4], [], [], [], []⟩]
noncomputable def F27 : IFn := ⟨2, 24, c27, [⟨4, none⟩]⟩
theorem is27 : compFn Try.prog h27 Try.f27 = some F27 := by kernel_rfl

/-- saleroom/saleroomref20.Compare -/
noncomputable def c32 : IR :=
 (.seq (.region 0 false 0 [
   ⟨0, 0, (some 4), .mov (.const (.int .i64 0)), none⟩] [] [0, 1] [] [])
 (.seq (.seq (.region 1 false 0 [
   ⟨0, 0, (some 5), .mov (.const (.int .i64 0)), none⟩] [] [0, 1, 5] [] [])
 (.block 0
  (.loop
   (.seq (.seq (.region 2 false 0 [
     ⟨0, 0, (some 6), .mov (.tmp 5), none⟩,
     ⟨1, 0, (some 7), .mov (.tmp 0), none⟩,
     ⟨2, 0, (some 8), .len 0 (.tmp 7), none⟩,
     ⟨3, 0, (some 9), .bin .lss (.tmp 6) (.tmp 8), none⟩,
     ⟨4, 0, (some 10), .mov (.tmp 9), none⟩,
     ⟨5, 0, (some 11), .mov (.tmp 5), (some ((some 10), true))⟩,
     ⟨6, 0, (some 12), .mov (.tmp 1), (some ((some 10), true))⟩,
     ⟨7, 0, (some 13), .len 0 (.tmp 12), (some ((some 10), true))⟩,
     ⟨8, 0, (some 14), .bin .lss (.tmp 11) (.tmp 13), (some ((some 10), true))⟩,
     ⟨9, 0, (some 15), .pick (.tmp 10) (.tmp 14) (.const (.bool false)), none⟩] [] [0, 1, 5, 15] [] [])
   (.cond (.tmp 15)
    .skip
    (.exit 0)))
   (.seq (.block 1
    (.seq (.seq (.region 4 true 0 [
      ⟨0, 0, (some 18), .mov (.tmp 0), none⟩,
      ⟨1, 0, (some 19), .mov (.tmp 5), none⟩,
      ⟨2, 0, (some 20), .idxS 1 (.tmp 18) (.tmp 19), none⟩,
      ⟨3, 0, (some 21), .load none (.tmp 20), none⟩,
      ⟨4, 0, (some 22), .mov (.tmp 1), none⟩,
      ⟨5, 0, (some 23), .mov (.tmp 5), none⟩,
      ⟨6, 0, (some 24), .idxS 1 (.tmp 22) (.tmp 23), none⟩,
      ⟨7, 0, (some 25), .load none (.tmp 24), none⟩,
      ⟨8, 0, (some 26), .bin .lss (.tmp 21) (.tmp 25), none⟩] [] [0, 1, 5, 26] [] [])
    (.cond (.tmp 26)
     (.seq (.region 5 false 0 [
       ⟨0, 0, (some 4), .mov (.const (.int .i64 (-1))), none⟩] [] [4] [] [])
     .ret)
     .skip))
    (.seq (.region 6 true 0 [
      ⟨0, 0, (some 27), .mov (.tmp 0), none⟩,
      ⟨1, 0, (some 28), .mov (.tmp 5), none⟩,
      ⟨2, 0, (some 29), .idxS 1 (.tmp 27) (.tmp 28), none⟩,
      ⟨3, 0, (some 30), .load none (.tmp 29), none⟩,
      ⟨4, 0, (some 31), .mov (.tmp 1), none⟩,
      ⟨5, 0, (some 32), .mov (.tmp 5), none⟩,
      ⟨6, 0, (some 33), .idxS 1 (.tmp 31) (.tmp 32), none⟩,
      ⟨7, 0, (some 34), .load none (.tmp 33), none⟩,
      ⟨8, 0, (some 35), .bin .gtr (.tmp 30) (.tmp 34), none⟩] [] [0, 1, 5, 35] [] [])
    (.cond (.tmp 35)
     (.seq (.region 7 false 0 [
       ⟨0, 0, (some 4), .mov (.const (.int .i64 1)), none⟩] [] [4] [] [])
     .ret)
     .skip))))
   (.region 3 false 0 [
     ⟨0, 0, (some 16), .mov (.tmp 5), none⟩,
     ⟨1, 0, (some 17), .bin .add (.tmp 16) (.const (.int .i64 1)), none⟩,
     ⟨2, 0, (some 5), .mov (.tmp 17), none⟩] [] [0, 1, 5] [] []))))))
 (.seq (.block 2
  (.seq (.region 8 false 0 [
    ⟨0, 0, (some 37), .mov (.tmp 0), none⟩,
    ⟨1, 0, (some 38), .len 0 (.tmp 37), none⟩,
    ⟨2, 0, (some 39), .mov (.tmp 1), none⟩,
    ⟨3, 0, (some 40), .len 0 (.tmp 39), none⟩,
    ⟨4, 0, (some 41), .bin .lss (.tmp 38) (.tmp 40), none⟩,
    ⟨5, 0, (some 36), .mov (.tmp 41), none⟩] [] [0, 1, 36] [] [])
  (.cond (.tmp 36)
   (.seq (.region 9 false 0 [
     ⟨0, 0, (some 4), .mov (.const (.int .i64 (-1))), none⟩] [] [4] [] [])
   .ret)
   (.seq (.region 10 false 0 [
     ⟨0, 0, (some 43), .mov (.tmp 0), none⟩,
     ⟨1, 0, (some 44), .len 0 (.tmp 43), none⟩,
     ⟨2, 0, (some 45), .mov (.tmp 1), none⟩,
     ⟨3, 0, (some 46), .len 0 (.tmp 45), none⟩,
     ⟨4, 0, (some 47), .bin .gtr (.tmp 44) (.tmp 46), none⟩,
     ⟨5, 0, (some 42), .mov (.tmp 47), none⟩] [] [42] [] [])
   (.cond (.tmp 42)
    (.seq (.region 11 false 0 [
      ⟨0, 0, (some 4), .mov (.const (.int .i64 1)), none⟩] [] [4] [] [])
    .ret)
    .skip)))))
 (.seq (.region 12 false 0 [
   ⟨0, 0, (some 4), .mov (.const (.int .i64 0)), none⟩] [] [4] [] [])
 .ret))))
noncomputable def h32 : List RH := [⟨0, [0, 1], [], [], [], []⟩, ⟨1, [0, 1, 5], [], [], [], []⟩, ⟨2, [0, 1, 5, 15], [], [], [], []⟩, ⟨4, [0, 1, 5, 26], [], [], [], []⟩, ⟨5, [4], [], [], [], []⟩, ⟨6, [0, 1, 5, 35], [], [], [], []⟩, ⟨7, [4], [], [], [], []⟩, ⟨3, [0, 1, 5], [], [], [], []⟩, ⟨8, [0, 1, 36], [], [], [], []⟩, ⟨9, [4], [], [], [], []⟩, ⟨10, [42], [], [], [], []⟩, ⟨11, [4], [], [], [], []⟩, ⟨12, [4], [], [], [], []⟩]
noncomputable def F32 : IFn := ⟨2, 48, c32, [⟨4, none⟩]⟩
theorem is32 : compFn Try.prog h32 Try.f32 = some F32 := by kernel_rfl

/-- saleroom/saleroomref20.Feasible -/
noncomputable def c55 : IR :=
 (.seq (.region 0 false 1 [
   ⟨0, 0, (some 2), .box 27 (.tmp 0), none⟩,
   ⟨1, 1, (some 4), .mov (.const (.int .i64 0)), none⟩] [] [1, 2] [] [])
 (.seq (.region 1 false 0 [
   ⟨0, 0, (some 8), .load (some 20) (.tmp 2), none⟩,
   ⟨1, 0, (some 9), .call 24 [(.tmp 8)] false, none⟩,
   ⟨2, 0, (some 5), .mov (.tmp 9), none⟩] [] [1, 2, 5] [] [])
 (.seq (.seq (.region 2 false 0 [
   ⟨0, 0, (some 10), .mov (.tmp 5), none⟩,
   ⟨1, 0, (some 11), .bin .neq (.tmp 10) (.const (.int .i64 0)), none⟩] [] [1, 2, 5, 11] [] [])
 (.cond (.tmp 11)
  (.seq (.region 3 false 0 [
    ⟨0, 0, (some 12), .mov (.tmp 5), none⟩,
    ⟨1, 0, (some 4), .mov (.tmp 12), none⟩] [] [4] [] [])
  .ret)
  .skip))
 (.seq (.region 4 false 0 [
   ⟨0, 0, (some 14), .load (some 20) (.tmp 2), none⟩,
   ⟨1, 0, (some 15), .mov (.tmp 1), none⟩,
   ⟨2, 0, (some 16), .call 109 [(.tmp 14), (.tmp 15)] false, none⟩,
   ⟨3, 0, (some 13), .mov (.tmp 16), none⟩,
   ⟨4, 0, (some 17), .extract (.tmp 13) 0, none⟩,
   ⟨5, 0, (some 18), .extract (.tmp 13) 1, none⟩,
   ⟨6, 0, (some 6), .mov (.tmp 17), none⟩,
   ⟨7, 0, (some 7), .mov (.tmp 18), none⟩] [] [2, 6, 7] [⟨false, 2, (some 18), 0, 0, false⟩, ⟨false, 2, (some 19), 0, 0, false⟩, ⟨false, 1, none, 0, 0, false⟩] [])
 (.seq (.seq (.region 5 false 0 [
   ⟨0, 0, (some 19), .mov (.tmp 7), none⟩,
   ⟨1, 0, (some 20), .un .not (.tmp 19), none⟩] [] [2, 6, 20] [] [])
 (.cond (.tmp 20)
  (.seq (.region 6 false 0 [
    ⟨0, 0, (some 4), .mov (.const (.int .i64 4)), none⟩] [] [4] [] [])
  .ret)
  .skip))
 (.seq (.seq (.region 7 false 0 [
   ⟨0, 0, (some 21), .load (some 20) (.tmp 2), none⟩,
   ⟨1, 0, (some 22), .mov (.tmp 6), none⟩,
   ⟨2, 0, (some 23), .call 69 [(.tmp 21), (.tmp 22)] false, none⟩,
   ⟨3, 0, (some 24), .un .not (.tmp 23), none⟩] [] [24] [] [])
 (.cond (.tmp 24)
  (.seq (.region 8 false 0 [
    ⟨0, 0, (some 4), .mov (.const (.int .i64 14)), none⟩] [] [4] [] [])
  .ret)
  .skip))
 (.seq (.region 9 false 0 [
   ⟨0, 0, (some 4), .mov (.const (.int .i64 0)), none⟩] [] [4] [] [])
 .ret)))))))
noncomputable def h55 : List RH := [⟨0, [1, 2], [], [], [], []⟩, ⟨1, [1, 2, 5], [], [], [], []⟩, ⟨2, [1, 2, 5, 11], [], [], [], []⟩, ⟨3, [4], [], [], [], []⟩, ⟨4, [2, 6, 7], [], [], [⟨false, 2, (some 18), 0, 0, false⟩, ⟨false, 2, (some 19), 0, 0, false⟩, ⟨false, 1, none, 0, 0, false⟩], []⟩, ⟨5, [2, 6, 20], [], [], [], []⟩, ⟨6, [4], [], [], [], []⟩, ⟨7, [24], [], [], [], []⟩, ⟨8, [4], [], [], [], []⟩, ⟨9, [4], [], [], [], []⟩]
noncomputable def F55 : IFn := ⟨2, 25, c55, [⟨4, none⟩]⟩
theorem is55 : compFn Try.prog h55 Try.f55 = some F55 := by kernel_rfl

/-- saleroom/saleroomref20.Value -/
noncomputable def c58 : IR :=
 (.seq (.region 0 false 1 [
   ⟨0, 0, (some 2), .box 27 (.tmp 0), none⟩,
   ⟨1, 1, (some 4), .mov (.const (.int .i64 0)), none⟩] [] [1, 2] [] [])
 (.seq (.seq (.region 1 false 0 [
   ⟨0, 0, (some 9), .load (some 20) (.tmp 2), none⟩,
   ⟨1, 0, (some 10), .call 24 [(.tmp 9)] false, none⟩,
   ⟨2, 0, (some 11), .bin .neq (.tmp 10) (.const (.int .i64 0)), none⟩] [] [1, 2, 11] [] [])
 (.cond (.tmp 11)
  (.seq (.region 2 false 0 [
    ⟨0, 0, (some 4), .mov (.const (.int .i64 0)), none⟩] [] [4] [] [])
  .ret)
  .skip))
 (.seq (.region 3 false 0 [
   ⟨0, 0, (some 13), .load (some 20) (.tmp 2), none⟩,
   ⟨1, 0, (some 14), .mov (.tmp 1), none⟩,
   ⟨2, 0, (some 15), .call 109 [(.tmp 13), (.tmp 14)] false, none⟩,
   ⟨3, 0, (some 12), .mov (.tmp 15), none⟩,
   ⟨4, 0, (some 16), .extract (.tmp 12) 0, none⟩,
   ⟨5, 0, (some 17), .extract (.tmp 12) 1, none⟩,
   ⟨6, 0, (some 5), .mov (.tmp 16), none⟩,
   ⟨7, 0, (some 6), .mov (.tmp 17), none⟩] [] [5] [⟨false, 2, (some 18), 0, 0, false⟩, ⟨false, 2, (some 19), 0, 0, false⟩, ⟨false, 1, none, 0, 0, false⟩] [])
 (.seq (.region 4 false 0 [
   ⟨0, 0, (some 7), .mov (.const (.int .i64 0)), none⟩] [] [5, 7] [] [])
 (.seq (.seq (.region 5 false 0 [
   ⟨0, 0, (some 8), .mov (.const (.int .i64 0)), none⟩] [] [5, 7, 8] [] [])
 (.block 0
  (.loop
   (.seq (.seq (.region 6 false 0 [
     ⟨0, 0, (some 18), .mov (.tmp 8), none⟩,
     ⟨1, 0, (some 19), .mov (.tmp 5), none⟩,
     ⟨2, 0, (some 20), .len 0 (.tmp 19), none⟩,
     ⟨3, 0, (some 21), .bin .lss (.tmp 18) (.tmp 20), none⟩] [] [5, 7, 8, 21] [] [])
   (.cond (.tmp 21)
    .skip
    (.exit 0)))
   (.seq (.block 1
    (.region 8 false 0 [
      ⟨0, 0, (some 24), .mov (.tmp 7), none⟩,
      ⟨1, 0, (some 25), .mov (.tmp 5), none⟩,
      ⟨2, 0, (some 26), .mov (.tmp 8), none⟩,
      ⟨3, 0, (some 27), .idxS 8 (.tmp 25) (.tmp 26), none⟩,
      ⟨4, 0, (some 28), .fieldA 7 (.tmp 27), none⟩,
      ⟨5, 0, (some 29), .load none (.tmp 28), none⟩,
      ⟨6, 0, (some 30), .bin .add (.tmp 24) (.tmp 29), none⟩,
      ⟨7, 0, (some 7), .mov (.tmp 30), none⟩] [] [5, 7, 8] [] []))
   (.region 7 false 0 [
     ⟨0, 0, (some 22), .mov (.tmp 8), none⟩,
     ⟨1, 0, (some 23), .bin .add (.tmp 22) (.const (.int .i64 1)), none⟩,
     ⟨2, 0, (some 8), .mov (.tmp 23), none⟩] [] [5, 7, 8] [] []))))))
 (.seq (.region 9 false 0 [
   ⟨0, 0, (some 31), .mov (.tmp 7), none⟩,
   ⟨1, 0, (some 4), .mov (.tmp 31), none⟩] [] [4] [] [])
 .ret))))))
noncomputable def h58 : List RH := [⟨0, [1, 2], [], [], [], []⟩, ⟨1, [1, 2, 11], [], [], [], []⟩, ⟨2, [4], [], [], [], []⟩, ⟨3, [5], [], [], [⟨false, 2, (some 18), 0, 0, false⟩, ⟨false, 2, (some 19), 0, 0, false⟩, ⟨false, 1, none, 0, 0, false⟩], []⟩, ⟨4, [5, 7], [], [], [], []⟩, ⟨5, [5, 7, 8], [], [], [], []⟩, ⟨6, [5, 7, 8, 21], [], [], [], []⟩, ⟨8, [5, 7, 8], [], [], [], []⟩, ⟨7, [5, 7, 8], [], [], [], []⟩, ⟨9, [4], [], [], [], []⟩]
noncomputable def F58 : IFn := ⟨2, 32, c58, [⟨4, none⟩]⟩
theorem is58 : compFn Try.prog h58 Try.f58 = some F58 := by kernel_rfl

/-- saleroom/saleroomref23.Few -/
noncomputable def c59 : IR :=
 (.seq (.region 0 false 1 [
   ⟨0, 0, (some 2), .box 27 (.tmp 0), none⟩,
   ⟨1, 1, (some 4), .mov (.const (.bool false)), none⟩] [] [1, 2] [] [])
 (.seq (.region 1 false 0 [
   ⟨0, 0, (some 5), .fieldA 19 (.tmp 2), none⟩,
   ⟨1, 0, (some 6), .load none (.tmp 5), none⟩,
   ⟨2, 0, (some 7), .len 0 (.tmp 6), none⟩,
   ⟨3, 0, (some 8), .mov (.tmp 1), none⟩,
   ⟨4, 0, (some 9), .bin .leq (.tmp 7) (.tmp 8), none⟩,
   ⟨5, 0, (some 10), .mov (.tmp 9), none⟩,
   ⟨6, 0, (some 11), .fieldA 18 (.tmp 2), (some ((some 10), true))⟩,
   ⟨7, 0, (some 12), .load none (.tmp 11), (some ((some 10), true))⟩,
   ⟨8, 0, (some 13), .len 0 (.tmp 12), (some ((some 10), true))⟩,
   ⟨9, 0, (some 14), .bin .leq (.tmp 13) (.const (.int .i64 8)), (some ((some 10), true))⟩,
   ⟨10, 0, (some 15), .pick (.tmp 10) (.tmp 14) (.const (.bool false)), none⟩,
   ⟨11, 0, (some 4), .mov (.tmp 15), none⟩] [] [4] [] [])
 .ret))
noncomputable def h59 : List RH := [⟨0, [1, 2], [], [], [], []⟩, ⟨1, [4], [], [], [], []⟩]
noncomputable def F59 : IFn := ⟨2, 16, c59, [⟨4, none⟩]⟩
theorem is59 : compFn Try.prog h59 Try.f59 = some F59 := by kernel_rfl

/-- saleroom/saleroomlaw23.Three -/
noncomputable def c60 : IR :=
 (.seq (.region 0 false 1 [
   ⟨0, 0, (some 0), .alloc [(.int .i64 0), (.int .i64 0), (.int .i64 0), (.int .i64 0), (.int .i64 0), (.int .i64 0), (.int .i64 0), (.int .i64 0), (.int .i64 0), (.int .i64 0), (.int .i64 0), (.int .i64 0), (.int .i64 0), (.int .i64 0), (.int .i64 0), (.int .i64 0), (.int .i64 0), (.int .i64 0), (.slice none 0 0), (.slice none 0 0)] 27 false, none⟩] [] [0] [] [])
 (.seq (.region 1 false 1 [
   ⟨0, 0, (some 2), .build [(.int .i64 0), (.int .i64 0), (.int .i64 0), (.int .i64 0), (.int .i64 0), (.int .i64 0)] [(0, 1, (.const (.int .i64 1))), (1, 1, (.const (.int .i64 1)))], none⟩,
   ⟨1, 0, (some 1), .alloc [(.int .i64 0), (.int .i64 0), (.int .i64 0), (.int .i64 0), (.int .i64 0), (.int .i64 0)] 23 false, none⟩,
   ⟨2, 1, none, .store 6 (.tmp 1) (.tmp 2), none⟩] [] [0, 1] [] [])
 (.seq (.region 2 false 0 [
   ⟨0, 0, (some 3), .load (some 6) (.tmp 1), none⟩,
   ⟨1, 0, (some 4), .load (some 6) (.tmp 1), none⟩,
   ⟨2, 0, (some 5), .mkimm [(.int .i64 0)] 3 [(0, (.const (.int .i64 0))), (1, (.const (.int .i64 0))), (2, (.const (.int .i64 0)))] 3 1, none⟩,
   ⟨3, 0, (some 6), .load (some 6) (.tmp 1), none⟩,
   ⟨4, 0, (some 7), .build [(.int .i64 0), (.int .i64 0), (.int .i64 0), (.int .i64 0), (.int .i64 0), (.int .i64 0), (.int .i64 0), (.int .i64 0)] [(0, 1, (.const (.int .i64 0))), (1, 6, (.tmp 6)), (7, 1, (.const (.int .i64 10)))], none⟩,
   ⟨5, 0, (some 8), .build [(.int .i64 0), (.int .i64 0), (.int .i64 0), (.int .i64 0), (.int .i64 0), (.int .i64 0)] [(0, 1, (.const (.int .i64 1)))], none⟩,
   ⟨6, 0, (some 9), .build [(.int .i64 0), (.int .i64 0), (.int .i64 0), (.int .i64 0), (.int .i64 0), (.int .i64 0), (.int .i64 0), (.int .i64 0)] [(0, 1, (.const (.int .i64 1))), (1, 6, (.tmp 8)), (7, 1, (.const (.int .i64 6)))], none⟩,
   ⟨7, 0, (some 10), .build [(.int .i64 0), (.int .i64 0), (.int .i64 0), (.int .i64 0), (.int .i64 0), (.int .i64 0)] [(0, 1, (.const (.int .i64 0))), (1, 1, (.const (.int .i64 1)))], none⟩,
   ⟨8, 0, (some 11), .build [(.int .i64 0), (.int .i64 0), (.int .i64 0), (.int .i64 0), (.int .i64 0), (.int .i64 0), (.int .i64 0), (.int .i64 0)] [(0, 1, (.const (.int .i64 2))), (1, 6, (.tmp 10)), (7, 1, (.const (.int .i64 6)))], none⟩,
   ⟨9, 0, (some 12), .mkimm [(.int .i64 0), (.int .i64 0), (.int .i64 0), (.int .i64 0), (.int .i64 0), (.int .i64 0), (.int .i64 0), (.int .i64 0)] 3 [(0, (.tmp 7)), (8, (.tmp 9)), (16, (.tmp 11))] 43 8, none⟩,
   ⟨10, 0, (some 13), .build [(.int .i64 0), (.int .i64 0), (.int .i64 0), (.int .i64 0), (.int .i64 0), (.int .i64 0), (.int .i64 0), (.int .i64 0), (.int .i64 0), (.int .i64 0), (.int .i64 0), (.int .i64 0), (.int .i64 0), (.int .i64 0), (.int .i64 0), (.int .i64 0), (.int .i64 0), (.int .i64 0), (.slice none 0 0), (.slice none 0 0)] [(0, 6, (.tmp 3)), (6, 6, (.tmp 4)), (18, 1, (.tmp 5)), (19, 1, (.tmp 12))], none⟩,
   ⟨11, 0, none, .store 20 (.tmp 0) (.tmp 13), none⟩] [] [0] [] [])
 .ret)))
noncomputable def h60 : List RH := [⟨0, [0], [], [], [], []⟩, ⟨1, [0, 1], [], [], [], []⟩, ⟨2, [0], [], [2, 9], [], []⟩]
noncomputable def F60 : IFn := ⟨0, 14, c60, [⟨0, (some (some 20))⟩]⟩
theorem is60 : compFn Try.prog h60 Try.f60 = some F60 := by kernel_rfl

/-- saleroom/vickrey.open -/
noncomputable def c61 : IR :=
 (.seq (.region 0 false 3 [
   ⟨0, 0, (some 2), .box 27 (.tmp 0), none⟩,
   ⟨1, 1, (some 3), .box 31 (.tmp 1), none⟩,
   ⟨2, 2, (some 4), .alloc [(.int .i64 0), (.int .i64 0), (.int .i64 0), (.int .i64 0), (.int .i64 0), (.int .i64 0), (.int .i64 0), (.int .i64 0), (.int .i64 0), (.int .i64 0), (.int .i64 0), (.int .i64 0), (.int .i64 0), (.int .i64 0), (.int .i64 0), (.int .i64 0), (.int .i64 0), (.int .i64 0), (.slice none 0 0), (.slice none 0 0), (.slice none 0 0), (.int .i64 0), (.int .i64 0)] 86 false, none⟩,
   ⟨3, 3, (some 5), .mov (.const (.int .i64 0)), none⟩] [] [2, 3, 4] [] [])
 (.seq (.seq (.region 1 false 0 [
   ⟨0, 0, (some 14), .load (some 20) (.tmp 2), none⟩,
   ⟨1, 0, (some 15), .fieldA 0 (.tmp 3), none⟩,
   ⟨2, 0, (some 16), .load none (.tmp 15), none⟩,
   ⟨3, 0, (some 17), .call 100 [(.tmp 14), (.tmp 16)] false, none⟩,
   ⟨4, 0, (some 6), .mov (.tmp 17), none⟩] [] [2, 3, 4, 6] [] [])
 (.seq (.region 2 false 0 [
   ⟨0, 0, (some 18), .mov (.tmp 6), none⟩,
   ⟨1, 0, (some 19), .bin .neq (.tmp 18) (.const (.int .i64 0)), none⟩] [] [2, 3, 4, 6, 19] [] [])
 (.cond (.tmp 19)
  (.seq (.region 3 false 0 [
    ⟨0, 0, (some 20), .build [(.int .i64 0), (.int .i64 0), (.int .i64 0), (.int .i64 0), (.int .i64 0), (.int .i64 0), (.int .i64 0), (.int .i64 0), (.int .i64 0), (.int .i64 0), (.int .i64 0), (.int .i64 0), (.int .i64 0), (.int .i64 0), (.int .i64 0), (.int .i64 0), (.int .i64 0), (.int .i64 0), (.slice none 0 0), (.slice none 0 0), (.slice none 0 0), (.int .i64 0), (.int .i64 0)] [], none⟩,
    ⟨1, 0, (some 21), .mov (.tmp 6), none⟩,
    ⟨2, 0, none, .store 23 (.tmp 4) (.tmp 20), none⟩,
    ⟨3, 0, (some 5), .mov (.tmp 21), none⟩] [] [4, 5] [] [])
  .ret)
  .skip)))
 (.seq (.region 4 true 2 [
   ⟨0, 0, (some 22), .load (some 20) (.tmp 2), none⟩,
   ⟨1, 0, (some 23), .fieldA 18 (.tmp 2), none⟩,
   ⟨2, 0, (some 24), .load none (.tmp 23), none⟩,
   ⟨3, 0, (some 25), .len 0 (.tmp 24), none⟩,
   ⟨4, 0, (some 26), .mkslice [(.int .i64 0)] 2 1 8 (.tmp 25) (.tmp 25) true, none⟩,
   ⟨5, 1, (some 27), .fieldA 18 (.tmp 2), none⟩,
   ⟨6, 1, (some 28), .load none (.tmp 27), none⟩,
   ⟨7, 1, (some 29), .len 0 (.tmp 28), none⟩,
   ⟨8, 1, (some 30), .bin .shl (.const (.int .i64 1)) (.tmp 29), none⟩,
   ⟨9, 1, (some 31), .bin .sub (.tmp 30) (.const (.int .i64 1)), none⟩,
   ⟨10, 1, (some 32), .build [(.int .i64 0), (.int .i64 0), (.int .i64 0), (.int .i64 0), (.int .i64 0), (.int .i64 0), (.int .i64 0), (.int .i64 0), (.int .i64 0), (.int .i64 0), (.int .i64 0), (.int .i64 0), (.int .i64 0), (.int .i64 0), (.int .i64 0), (.int .i64 0), (.int .i64 0), (.int .i64 0), (.slice none 0 0), (.slice none 0 0), (.slice none 0 0), (.int .i64 0), (.int .i64 0)] [(0, 20, (.tmp 22)), (20, 1, (.tmp 26)), (21, 1, (.tmp 31))], none⟩,
   ⟨11, 1, (some 7), .alloc [(.int .i64 0), (.int .i64 0), (.int .i64 0), (.int .i64 0), (.int .i64 0), (.int .i64 0), (.int .i64 0), (.int .i64 0), (.int .i64 0), (.int .i64 0), (.int .i64 0), (.int .i64 0), (.int .i64 0), (.int .i64 0), (.int .i64 0), (.int .i64 0), (.int .i64 0), (.int .i64 0), (.slice none 0 0), (.slice none 0 0), (.slice none 0 0), (.int .i64 0), (.int .i64 0)] 86 false, none⟩,
   ⟨12, 2, none, .store 23 (.tmp 7) (.tmp 32), none⟩] [(0, 4), (0, 11), (2, 11), (3, 11), (4, 6), (4, 7), (4, 11), (6, 11), (7, 11)] [2, 3, 4, 7] [] [])
 (.seq (.region 5 false 0 [
   ⟨0, 0, (some 8), .mov (.const (.int .i64 0)), none⟩] [] [2, 3, 4, 7, 8] [] [])
 (.seq (.seq (.region 6 false 0 [
   ⟨0, 0, (some 33), .fieldA 0 (.tmp 3), none⟩,
   ⟨1, 0, (some 34), .load none (.tmp 33), none⟩,
   ⟨2, 0, (some 35), .len 0 (.tmp 34), none⟩,
   ⟨3, 0, (some 36), .mov (.const (.int .i64 0)), none⟩] [] [2, 4, 7, 8, 34, 35, 36] [] [])
 (.block 0
  (.loop
   (.seq (.region 7 false 0 [
     ⟨0, 0, (some 37), .bin .lss (.tmp 36) (.tmp 35), none⟩] [] [2, 4, 7, 8, 34, 35, 36, 37] [] [])
   (.seq (.cond (.tmp 37)
    .skip
    (.exit 0))
   (.seq (.block 1
    (.seq (.region 8 false 0 [
      ⟨0, 0, (some 38), .idxS 1 (.tmp 34) (.tmp 36), none⟩,
      ⟨1, 0, (some 39), .load none (.tmp 38), none⟩,
      ⟨2, 0, (some 10), .mov (.tmp 39), none⟩] [] [2, 4, 7, 8, 10, 34, 35, 36] [] [])
    (.seq (.region 9 false 1 [
      ⟨0, 0, (some 40), .fieldA 19 (.tmp 2), none⟩,
      ⟨1, 0, (some 41), .load none (.tmp 40), none⟩,
      ⟨2, 0, (some 42), .mov (.tmp 10), none⟩,
      ⟨3, 0, (some 43), .idxS 8 (.tmp 41) (.tmp 42), none⟩,
      ⟨4, 0, (some 44), .load (some 8) (.tmp 43), none⟩,
      ⟨5, 0, (some 11), .alloc [(.int .i64 0), (.int .i64 0), (.int .i64 0), (.int .i64 0), (.int .i64 0), (.int .i64 0), (.int .i64 0), (.int .i64 0)] 43 false, none⟩,
      ⟨6, 1, none, .store 8 (.tmp 11) (.tmp 44), none⟩] [] [2, 4, 7, 8, 11, 34, 35, 36] [] [])
    (.seq (.region 10 false 0 [
      ⟨0, 0, (some 45), .fieldA 20 (.tmp 7), none⟩,
      ⟨1, 0, (some 46), .load none (.tmp 45), none⟩,
      ⟨2, 0, (some 47), .fieldA 0 (.tmp 11), none⟩,
      ⟨3, 0, (some 48), .load none (.tmp 47), none⟩,
      ⟨4, 0, (some 49), .fieldA 7 (.tmp 11), none⟩,
      ⟨5, 0, (some 50), .load none (.tmp 49), none⟩,
      ⟨6, 0, (some 51), .idxS 1 (.tmp 46) (.tmp 48), none⟩,
      ⟨7, 0, none, .store 1 (.tmp 51) (.tmp 50), none⟩] [] [2, 4, 7, 8, 11, 34, 35, 36] [] [])
    (.region 11 false 0 [
      ⟨0, 0, (some 52), .mov (.tmp 8), none⟩,
      ⟨1, 0, (some 53), .fieldA 7 (.tmp 11), none⟩,
      ⟨2, 0, (some 54), .load none (.tmp 53), none⟩,
      ⟨3, 0, (some 55), .bin .add (.tmp 52) (.tmp 54), none⟩,
      ⟨4, 0, (some 8), .mov (.tmp 55), none⟩] [] [2, 4, 7, 8, 34, 35, 36] [] [])))))
   (.region 12 false 0 [
     ⟨0, 0, (some 56), .bin .add (.tmp 36) (.const (.int .i64 1)), none⟩,
     ⟨1, 0, (some 36), .mov (.tmp 56), none⟩] [] [2, 4, 7, 8, 34, 35, 36] [] [])))))))
 (.seq (.region 13 false 0 [
   ⟨0, 0, (some 58), .load (some 20) (.tmp 2), none⟩,
   ⟨1, 0, (some 59), .fieldA 21 (.tmp 7), none⟩,
   ⟨2, 0, (some 60), .load none (.tmp 59), none⟩,
   ⟨3, 0, (some 61), .call 80 [(.tmp 58), (.tmp 60)] false, none⟩,
   ⟨4, 0, (some 57), .mov (.tmp 61), none⟩,
   ⟨5, 0, (some 62), .extract (.tmp 57) 0, none⟩,
   ⟨6, 0, (some 63), .extract (.tmp 57) 1, none⟩,
   ⟨7, 0, (some 12), .mov (.tmp 62), none⟩,
   ⟨8, 0, (some 13), .mov (.tmp 63), none⟩] [] [4, 7, 8, 12, 13] [] [])
 (.seq (.seq (.region 14 false 0 [
   ⟨0, 0, (some 64), .mov (.tmp 13), none⟩,
   ⟨1, 0, (some 65), .bin .neq (.tmp 64) (.const (.int .i64 0)), none⟩] [] [4, 7, 8, 12, 13, 65] [] [])
 (.cond (.tmp 65)
  (.seq (.region 15 false 0 [
    ⟨0, 0, (some 66), .build [(.int .i64 0), (.int .i64 0), (.int .i64 0), (.int .i64 0), (.int .i64 0), (.int .i64 0), (.int .i64 0), (.int .i64 0), (.int .i64 0), (.int .i64 0), (.int .i64 0), (.int .i64 0), (.int .i64 0), (.int .i64 0), (.int .i64 0), (.int .i64 0), (.int .i64 0), (.int .i64 0), (.slice none 0 0), (.slice none 0 0), (.slice none 0 0), (.int .i64 0), (.int .i64 0)] [], none⟩,
    ⟨1, 0, (some 67), .mov (.tmp 13), none⟩,
    ⟨2, 0, none, .store 23 (.tmp 4) (.tmp 66), none⟩,
    ⟨3, 0, (some 5), .mov (.tmp 67), none⟩] [] [4, 5] [] [])
  .ret)
  .skip))
 (.seq (.seq (.region 16 false 0 [
   ⟨0, 0, (some 68), .mov (.tmp 8), none⟩,
   ⟨1, 0, (some 69), .mov (.tmp 12), none⟩,
   ⟨2, 0, (some 70), .bin .lss (.tmp 68) (.tmp 69), none⟩] [] [4, 7, 8, 70] [] [])
 (.cond (.tmp 70)
  (.seq (.region 17 false 0 [
    ⟨0, 0, (some 71), .build [(.int .i64 0), (.int .i64 0), (.int .i64 0), (.int .i64 0), (.int .i64 0), (.int .i64 0), (.int .i64 0), (.int .i64 0), (.int .i64 0), (.int .i64 0), (.int .i64 0), (.int .i64 0), (.int .i64 0), (.int .i64 0), (.int .i64 0), (.int .i64 0), (.int .i64 0), (.int .i64 0), (.slice none 0 0), (.slice none 0 0), (.slice none 0 0), (.int .i64 0), (.int .i64 0)] [], none⟩,
    ⟨1, 0, none, .store 23 (.tmp 4) (.tmp 71), none⟩,
    ⟨2, 0, (some 5), .mov (.const (.int .i64 13)), none⟩] [] [4, 5] [] [])
  .ret)
  .skip))
 (.seq (.region 18 false 0 [
   ⟨0, 0, (some 72), .mov (.tmp 8), none⟩,
   ⟨1, 0, (some 73), .fieldA 22 (.tmp 7), none⟩,
   ⟨2, 0, none, .store 1 (.tmp 73) (.tmp 72), none⟩] [] [4, 7] [] [])
 (.seq (.region 19 false 0 [
   ⟨0, 0, (some 74), .load (some 23) (.tmp 7), none⟩,
   ⟨1, 0, none, .store 23 (.tmp 4) (.tmp 74), none⟩,
   ⟨2, 0, (some 5), .mov (.const (.int .i64 0)), none⟩] [] [4, 5] [] [])
 .ret))))))))))
noncomputable def h61 : List RH := [⟨0, [2, 3, 4], [], [], [], []⟩, ⟨1, [2, 3, 4, 6], [], [], [], []⟩, ⟨2, [2, 3, 4, 6, 19], [], [], [], []⟩, ⟨3, [4, 5], [], [], [], []⟩, ⟨4, [2, 3, 4, 7], [], [4], [], []⟩, ⟨5, [2, 3, 4, 7, 8], [], [], [], []⟩, ⟨6, [2, 4, 7, 8, 34, 35, 36], [], [], [], []⟩, ⟨7, [2, 4, 7, 8, 34, 35, 36, 37], [], [], [], []⟩, ⟨8, [2, 4, 7, 8, 10, 34, 35, 36], [], [], [], []⟩, ⟨9, [2, 4, 7, 8, 11, 34, 35, 36], [], [], [], []⟩, ⟨10, [2, 4, 7, 8, 11, 34, 35, 36], [], [], [], []⟩, ⟨11, [2, 4, 7, 8, 34, 35, 36], [], [], [], []⟩, ⟨12, [2, 4, 7, 8, 34, 35, 36], [], [], [], []⟩, ⟨13, [4, 7, 8, 12, 13], [], [], [], []⟩, ⟨14, [4, 7, 8, 12, 13, 65], [], [], [], []⟩, ⟨15, [4, 5], [], [], [], []⟩, ⟨16, [4, 7, 8, 70], [], [], [], []⟩, ⟨17, [4, 5], [], [], [], []⟩, ⟨18, [4, 7], [], [], [], []⟩, ⟨19, [4, 5], [], [], [], []⟩]
noncomputable def F61 : IFn := ⟨2, 75, c61, [⟨4, (some (some 23))⟩, ⟨5, none⟩]⟩
theorem is61 : compFn Try.prog h61 Try.f61 = some F61 := by kernel_rfl

/-- (saleroom/vickrey.deal).each -/
noncomputable def c62 : IR :=
 (.seq (.region 0 false 1 [
   ⟨0, 0, (some 2), .box 86 (.tmp 0), none⟩,
   ⟨1, 1, (some 4), .mov (.const (.slice none 0 0)), none⟩] [] [1, 2] [] [])
 (.seq (.region 1 false 0 [
   ⟨0, 0, (some 5), .mov (.const (.slice none 0 0)), none⟩] [] [1, 2, 5] [] [⟨true, 5, none, 2, 1, true⟩])
 (.seq (.seq (.region 2 false 0 [
   ⟨0, 0, (some 7), .fieldA 20 (.tmp 2), none⟩,
   ⟨1, 0, (some 8), .load none (.tmp 7), none⟩,
   ⟨2, 0, (some 9), .len 0 (.tmp 8), none⟩,
   ⟨3, 0, (some 10), .mov (.const (.int .i64 0)), none⟩] [] [1, 5, 9, 10] [] [])
 (.block 0
  (.loop
   (.seq (.region 3 false 0 [
     ⟨0, 0, (some 11), .bin .lss (.tmp 10) (.tmp 9), none⟩] [] [1, 5, 9, 10, 11] [] [])
   (.seq (.cond (.tmp 11)
    .skip
    (.exit 0))
   (.seq (.block 1
    (.seq (.region 4 false 0 [
      ⟨0, 0, (some 12), .mov (.tmp 10), none⟩,
      ⟨1, 0, (some 6), .mov (.tmp 12), none⟩] [] [1, 5, 6, 9, 10] [] [])
    (.region 5 false 1 [
      ⟨0, 0, (some 13), .mov (.tmp 5), none⟩,
      ⟨1, 0, (some 14), .mov (.tmp 1), none⟩,
      ⟨2, 0, (some 15), .mov (.tmp 6), none⟩,
      ⟨3, 0, (some 16), .callv (.tmp 14) [(.tmp 15)] false, none⟩,
      ⟨4, 0, (some 17), .mkimm [(.int .i64 0)] 1 [(0, (.tmp 16))] 2 1, none⟩,
      ⟨5, 0, (some 18), .append 2 1 8 (.tmp 13) (.tmp 17) true, none⟩,
      ⟨6, 1, (some 5), .mov (.tmp 18), none⟩] [] [1, 5, 9, 10] [] [])))
   (.region 6 false 0 [
     ⟨0, 0, (some 19), .bin .add (.tmp 10) (.const (.int .i64 1)), none⟩,
     ⟨1, 0, (some 10), .mov (.tmp 19), none⟩] [] [1, 5, 9, 10] [] [])))))))
 (.seq (.region 7 false 0 [
   ⟨0, 0, (some 20), .mov (.tmp 5), none⟩,
   ⟨1, 0, (some 4), .mov (.tmp 20), none⟩] [] [4] [] [])
 .ret))))
noncomputable def h62 : List RH := [⟨0, [1, 2], [], [], [], []⟩, ⟨1, [1, 2, 5], [], [], [], [⟨true, 5, none, 2, 1, true⟩]⟩, ⟨2, [1, 5, 9, 10], [], [], [], []⟩, ⟨3, [1, 5, 9, 10, 11], [], [], [], []⟩, ⟨4, [1, 5, 6, 9, 10], [], [], [], []⟩, ⟨5, [1, 5, 9, 10], [], [4, 5], [], []⟩, ⟨6, [1, 5, 9, 10], [], [], [], []⟩, ⟨7, [4], [], [], [], []⟩]
noncomputable def F62 : IFn := ⟨2, 21, c62, [⟨4, none⟩]⟩
theorem is62 : compFn Try.prog h62 Try.f62 = some F62 := by kernel_rfl

/-- (saleroom/vickrey.deal).payment -/
noncomputable def c63 : IR :=
 (.seq (.region 0 false 1 [
   ⟨0, 0, (some 2), .box 86 (.tmp 0), none⟩,
   ⟨1, 1, (some 4), .mov (.const (.int .i64 0)), none⟩] [] [1, 2] [] [])
 (.seq (.seq (.region 1 false 0 [
   ⟨0, 0, (some 7), .fieldA 20 (.tmp 2), none⟩,
   ⟨1, 0, (some 8), .load none (.tmp 7), none⟩,
   ⟨2, 0, (some 9), .mov (.tmp 1), none⟩,
   ⟨3, 0, (some 10), .idxS 1 (.tmp 8) (.tmp 9), none⟩,
   ⟨4, 0, (some 11), .load none (.tmp 10), none⟩,
   ⟨5, 0, (some 12), .bin .eql (.tmp 11) (.const (.int .i64 0)), none⟩] [] [1, 2, 12] [] [])
 (.cond (.tmp 12)
  (.seq (.region 2 false 0 [
    ⟨0, 0, (some 4), .mov (.const (.int .i64 0)), none⟩] [] [4] [] [])
  .ret)
  .skip))
 (.seq (.region 3 true 0 [
   ⟨0, 0, (some 14), .fieldA 0 (.tmp 2), none⟩,
   ⟨1, 0, (some 15), .load (some 20) (.tmp 14), none⟩,
   ⟨2, 0, (some 16), .fieldA 21 (.tmp 2), none⟩,
   ⟨3, 0, (some 17), .load none (.tmp 16), none⟩,
   ⟨4, 0, (some 18), .mov (.tmp 1), none⟩,
   ⟨5, 0, (some 19), .bin .shl (.const (.int .i64 1)) (.tmp 18), none⟩,
   ⟨6, 0, (some 20), .bin .andNot (.tmp 17) (.tmp 19), none⟩,
   ⟨7, 0, (some 21), .call 80 [(.tmp 15), (.tmp 20)] false, none⟩,
   ⟨8, 0, (some 13), .mov (.tmp 21), none⟩,
   ⟨9, 0, (some 22), .extract (.tmp 13) 0, none⟩,
   ⟨10, 0, (some 23), .extract (.tmp 13) 1, none⟩,
   ⟨11, 0, (some 5), .mov (.tmp 22), none⟩,
   ⟨12, 0, (some 6), .mov (.tmp 23), none⟩] [] [1, 2, 5] [] [])
 (.seq (.region 4 true 0 [
   ⟨0, 0, (some 24), .mov (.tmp 5), none⟩,
   ⟨1, 0, (some 25), .fieldA 22 (.tmp 2), none⟩,
   ⟨2, 0, (some 26), .load none (.tmp 25), none⟩,
   ⟨3, 0, (some 27), .fieldA 20 (.tmp 2), none⟩,
   ⟨4, 0, (some 28), .load none (.tmp 27), none⟩,
   ⟨5, 0, (some 29), .mov (.tmp 1), none⟩,
   ⟨6, 0, (some 30), .idxS 1 (.tmp 28) (.tmp 29), none⟩,
   ⟨7, 0, (some 31), .load none (.tmp 30), none⟩,
   ⟨8, 0, (some 32), .bin .sub (.tmp 26) (.tmp 31), none⟩,
   ⟨9, 0, (some 33), .bin .sub (.tmp 24) (.tmp 32), none⟩,
   ⟨10, 0, (some 4), .mov (.tmp 33), none⟩] [] [4] [] [])
 .ret))))
noncomputable def h63 : List RH := [⟨0, [1, 2], [], [], [], []⟩, ⟨1, [1, 2, 12], [], [], [], []⟩, ⟨2, [4], [], [], [], []⟩, ⟨3, [1, 2, 5], [], [], [], []⟩, ⟨4, [4], [], [], [], []⟩]
noncomputable def F63 : IFn := ⟨2, 34, c63, [⟨4, none⟩]⟩
theorem is63 : compFn Try.prog h63 Try.f63 = some F63 := by kernel_rfl

/-- saleroom/saleroomref27.Fault -/
noncomputable def c64 : IR :=
 (.seq (.region 0 false 2 [
   ⟨0, 0, (some 2), .box 27 (.tmp 0), none⟩,
   ⟨1, 1, (some 3), .box 31 (.tmp 1), none⟩,
   ⟨2, 2, (some 4), .mov (.const (.int .i64 0)), none⟩] [] [2, 3] [] [])
 (.seq (.seq (.region 1 false 0 [
   ⟨0, 0, (some 6), .load (some 20) (.tmp 2), none⟩,
   ⟨1, 0, (some 7), .fieldA 0 (.tmp 3), none⟩,
   ⟨2, 0, (some 8), .load none (.tmp 7), none⟩,
   ⟨3, 0, (some 9), .call 55 [(.tmp 6), (.tmp 8)] false, none⟩,
   ⟨4, 0, (some 5), .mov (.tmp 9), none⟩] [] [2, 3, 5] [] [])
 (.seq (.region 2 false 0 [
   ⟨0, 0, (some 10), .mov (.tmp 5), none⟩,
   ⟨1, 0, (some 11), .bin .neq (.tmp 10) (.const (.int .i64 0)), none⟩] [] [2, 3, 5, 11] [] [])
 (.cond (.tmp 11)
  (.seq (.region 3 false 0 [
    ⟨0, 0, (some 12), .mov (.tmp 5), none⟩,
    ⟨1, 0, (some 4), .mov (.tmp 12), none⟩] [] [4] [] [])
  .ret)
  .skip)))
 (.seq (.seq (.region 4 true 0 [
   ⟨0, 0, (some 13), .load (some 20) (.tmp 2), none⟩,
   ⟨1, 0, (some 14), .fieldA 0 (.tmp 3), none⟩,
   ⟨2, 0, (some 15), .load none (.tmp 14), none⟩,
   ⟨3, 0, (some 16), .call 58 [(.tmp 13), (.tmp 15)] false, none⟩,
   ⟨4, 0, (some 17), .load (some 20) (.tmp 2), none⟩,
   ⟨5, 0, (some 18), .load (some 20) (.tmp 2), none⟩,
   ⟨6, 0, (some 19), .call 27 [(.tmp 18), (.const (.int .i64 (-1)))] false, none⟩,
   ⟨7, 0, (some 20), .call 26 [(.tmp 17), (.tmp 19)] false, none⟩,
   ⟨8, 0, (some 21), .bin .lss (.tmp 16) (.tmp 20), none⟩] [] [21] [] [])
 (.cond (.tmp 21)
  (.seq (.region 5 false 0 [
    ⟨0, 0, (some 4), .mov (.const (.int .i64 13)), none⟩] [] [4] [] [])
  .ret)
  .skip))
 (.seq (.region 6 false 0 [
   ⟨0, 0, (some 4), .mov (.const (.int .i64 0)), none⟩] [] [4] [] [])
 .ret))))
noncomputable def h64 : List RH := [⟨0, [2, 3], [], [], [], []⟩, ⟨1, [2, 3, 5], [], [], [], []⟩, ⟨2, [2, 3, 5, 11], [], [], [], []⟩, ⟨3, [4], [], [], [], []⟩, ⟨4, [21], [], [], [], []⟩, ⟨5, [4], [], [], [], []⟩, ⟨6, [4], [], [], [], []⟩]
noncomputable def F64 : IFn := ⟨2, 22, c64, [⟨4, none⟩]⟩
theorem is64 : compFn Try.prog h64 Try.f64 = some F64 := by kernel_rfl

/-- saleroom/saleroomref27.pays -/
noncomputable def c65 : IR :=
 (.seq (.region 0 false 2 [
   ⟨0, 0, (some 3), .box 27 (.tmp 0), none⟩,
   ⟨1, 1, (some 4), .box 31 (.tmp 1), none⟩,
   ⟨2, 2, (some 6), .mov (.const (.int .i64 0)), none⟩] [] [2, 3, 4] [] [])
 (.seq (.region 1 false 0 [
   ⟨0, 0, (some 10), .load (some 20) (.tmp 3), none⟩,
   ⟨1, 0, (some 11), .load (some 2) (.tmp 4), none⟩,
   ⟨2, 0, (some 12), .mov (.tmp 2), none⟩,
   ⟨3, 0, (some 13), .call 67 [(.tmp 10), (.tmp 11), (.tmp 12)] false, none⟩,
   ⟨4, 0, (some 9), .mov (.tmp 13), none⟩,
   ⟨5, 0, (some 14), .extract (.tmp 9) 0, none⟩,
   ⟨6, 0, (some 15), .extract (.tmp 9) 1, none⟩,
   ⟨7, 0, (some 7), .mov (.tmp 14), none⟩,
   ⟨8, 0, (some 8), .mov (.tmp 15), none⟩] [] [2, 3, 7, 8] [] [])
 (.seq (.seq (.region 2 false 0 [
   ⟨0, 0, (some 16), .mov (.tmp 7), none⟩,
   ⟨1, 0, (some 17), .bin .eql (.tmp 16) (.const (.int .i64 0)), none⟩] [] [2, 3, 8, 17] [] [])
 (.cond (.tmp 17)
  (.seq (.region 3 false 0 [
    ⟨0, 0, (some 6), .mov (.const (.int .i64 0)), none⟩] [] [6] [] [])
  .ret)
  .skip))
 (.seq (.region 4 true 0 [
   ⟨0, 0, (some 18), .load (some 20) (.tmp 3), none⟩,
   ⟨1, 0, (some 19), .load (some 20) (.tmp 3), none⟩,
   ⟨2, 0, (some 20), .mov (.tmp 2), none⟩,
   ⟨3, 0, (some 21), .call 27 [(.tmp 19), (.tmp 20)] false, none⟩,
   ⟨4, 0, (some 22), .call 26 [(.tmp 18), (.tmp 21)] false, none⟩,
   ⟨5, 0, (some 23), .mov (.tmp 8), none⟩,
   ⟨6, 0, (some 24), .bin .sub (.tmp 22) (.tmp 23), none⟩,
   ⟨7, 0, (some 6), .mov (.tmp 24), none⟩] [] [6] [] [])
 .ret))))
noncomputable def h65 : List RH := [⟨0, [2, 3, 4], [], [], [], []⟩, ⟨1, [2, 3, 7, 8], [], [], [], []⟩, ⟨2, [2, 3, 8, 17], [], [], [], []⟩, ⟨3, [6], [], [], [], []⟩, ⟨4, [6], [], [], [], []⟩]
noncomputable def F65 : IFn := ⟨3, 25, c65, [⟨6, none⟩]⟩
theorem is65 : compFn Try.prog h65 Try.f65 = some F65 := by kernel_rfl

/-- (saleroom/vickrey.deal).discount -/
noncomputable def c66 : IR :=
 (.seq (.region 0 false 1 [
   ⟨0, 0, (some 2), .box 86 (.tmp 0), none⟩,
   ⟨1, 1, (some 4), .mov (.const (.int .i64 0)), none⟩] [] [1, 2] [] [])
 (.seq (.region 1 true 0 [
   ⟨0, 0, (some 5), .fieldA 20 (.tmp 2), none⟩,
   ⟨1, 0, (some 6), .load none (.tmp 5), none⟩,
   ⟨2, 0, (some 7), .mov (.tmp 1), none⟩,
   ⟨3, 0, (some 8), .idxS 1 (.tmp 6) (.tmp 7), none⟩,
   ⟨4, 0, (some 9), .load none (.tmp 8), none⟩,
   ⟨5, 0, (some 10), .load (some 23) (.tmp 2), none⟩,
   ⟨6, 0, (some 11), .mov (.tmp 1), none⟩,
   ⟨7, 0, (some 12), .call 63 [(.tmp 10), (.tmp 11)] false, none⟩,
   ⟨8, 0, (some 13), .bin .sub (.tmp 9) (.tmp 12), none⟩,
   ⟨9, 0, (some 4), .mov (.tmp 13), none⟩] [] [4] [] [])
 .ret))
noncomputable def h66 : List RH := [⟨0, [1, 2], [], [], [], []⟩, ⟨1, [4], [], [], [], []⟩]
noncomputable def F66 : IFn := ⟨2, 14, c66, [⟨4, none⟩]⟩
theorem is66 : compFn Try.prog h66 Try.f66 = some F66 := by kernel_rfl

/-- saleroom/saleroomref27.won -/
noncomputable def c67 : IR :=
 (.seq (.region 0 false 2 [
   ⟨0, 0, (some 3), .box 27 (.tmp 0), none⟩,
   ⟨1, 1, (some 4), .box 31 (.tmp 1), none⟩,
   ⟨2, 2, (some 6), .mov (.const (.int .i64 0)), none⟩,
   ⟨3, 2, (some 7), .mov (.const (.int .i64 0)), none⟩] [] [2, 3, 4] [] [])
 (.seq (.region 1 false 0 [
   ⟨0, 0, (some 8), .mov (.const (.int .i64 0)), none⟩,
   ⟨1, 0, (some 9), .mov (.const (.int .i64 0)), none⟩] [] [2, 3, 4, 8, 9] [] [])
 (.seq (.seq (.region 2 false 0 [
   ⟨0, 0, (some 10), .mov (.const (.int .i64 0)), none⟩] [] [2, 3, 4, 8, 9, 10] [] [])
 (.block 0
  (.loop
   (.seq (.seq (.region 3 false 0 [
     ⟨0, 0, (some 12), .mov (.tmp 10), none⟩,
     ⟨1, 0, (some 13), .fieldA 0 (.tmp 4), none⟩,
     ⟨2, 0, (some 14), .load none (.tmp 13), none⟩,
     ⟨3, 0, (some 15), .len 0 (.tmp 14), none⟩,
     ⟨4, 0, (some 16), .bin .lss (.tmp 12) (.tmp 15), none⟩] [] [2, 3, 4, 8, 9, 10, 16] [] [])
   (.cond (.tmp 16)
    .skip
    (.exit 0)))
   (.seq (.block 1
    (.seq (.region 5 true 1 [
      ⟨0, 0, (some 19), .fieldA 19 (.tmp 3), none⟩,
      ⟨1, 0, (some 20), .load none (.tmp 19), none⟩,
      ⟨2, 0, (some 21), .fieldA 0 (.tmp 4), none⟩,
      ⟨3, 0, (some 22), .load none (.tmp 21), none⟩,
      ⟨4, 0, (some 23), .mov (.tmp 10), none⟩,
      ⟨5, 0, (some 24), .idxS 1 (.tmp 22) (.tmp 23), none⟩,
      ⟨6, 0, (some 25), .load none (.tmp 24), none⟩,
      ⟨7, 0, (some 26), .idxS 8 (.tmp 20) (.tmp 25), none⟩,
      ⟨8, 0, (some 27), .load (some 8) (.tmp 26), none⟩,
      ⟨9, 0, (some 11), .alloc [(.int .i64 0), (.int .i64 0), (.int .i64 0), (.int .i64 0), (.int .i64 0), (.int .i64 0), (.int .i64 0), (.int .i64 0)] 43 false, none⟩,
      ⟨10, 1, none, .store 8 (.tmp 11) (.tmp 27), none⟩] [(1, 9), (3, 9), (5, 9), (6, 9), (7, 9), (8, 9)] [2, 3, 4, 8, 9, 10, 11] [] [])
    (.seq (.region 6 false 0 [
      ⟨0, 0, (some 28), .fieldA 0 (.tmp 11), none⟩,
      ⟨1, 0, (some 29), .load none (.tmp 28), none⟩,
      ⟨2, 0, (some 30), .mov (.tmp 2), none⟩,
      ⟨3, 0, (some 31), .bin .eql (.tmp 29) (.tmp 30), none⟩] [] [2, 3, 4, 8, 9, 10, 11, 31] [] [])
    (.cond (.tmp 31)
     (.region 7 false 0 [
       ⟨0, 0, (some 32), .fieldA 7 (.tmp 11), none⟩,
       ⟨1, 0, (some 33), .load none (.tmp 32), none⟩,
       ⟨2, 0, (some 8), .mov (.tmp 33), none⟩] [] [2, 3, 4, 8, 9, 10] [] [])
     (.region 8 false 0 [
       ⟨0, 0, (some 34), .mov (.tmp 9), none⟩,
       ⟨1, 0, (some 35), .fieldA 7 (.tmp 11), none⟩,
       ⟨2, 0, (some 36), .load none (.tmp 35), none⟩,
       ⟨3, 0, (some 37), .bin .add (.tmp 34) (.tmp 36), none⟩,
       ⟨4, 0, (some 9), .mov (.tmp 37), none⟩] [] [2, 3, 4, 8, 9, 10] [] [])))))
   (.region 4 false 0 [
     ⟨0, 0, (some 17), .mov (.tmp 10), none⟩,
     ⟨1, 0, (some 18), .bin .add (.tmp 17) (.const (.int .i64 1)), none⟩,
     ⟨2, 0, (some 10), .mov (.tmp 18), none⟩] [] [2, 3, 4, 8, 9, 10] [] []))))))
 (.seq (.region 9 false 0 [
   ⟨0, 0, (some 38), .mov (.tmp 8), none⟩,
   ⟨1, 0, (some 39), .mov (.tmp 9), none⟩,
   ⟨2, 0, (some 6), .mov (.tmp 38), none⟩,
   ⟨3, 0, (some 7), .mov (.tmp 39), none⟩] [] [6, 7] [] [])
 .ret))))
noncomputable def h67 : List RH := [⟨0, [2, 3, 4], [], [], [], []⟩, ⟨1, [2, 3, 4, 8, 9], [], [], [], []⟩, ⟨2, [2, 3, 4, 8, 9, 10], [], [], [], []⟩, ⟨3, [2, 3, 4, 8, 9, 10, 16], [], [], [], []⟩, ⟨5, [2, 3, 4, 8, 9, 10, 11], [], [], [], []⟩, ⟨6, [2, 3, 4, 8, 9, 10, 11, 31], [], [], [], []⟩, ⟨7, [2, 3, 4, 8, 9, 10], [], [], [], []⟩, ⟨8, [2, 3, 4, 8, 9, 10], [], [], [], []⟩, ⟨4, [2, 3, 4, 8, 9, 10], [], [], [], []⟩, ⟨9, [6, 7], [], [], [], []⟩]
noncomputable def F67 : IFn := ⟨3, 40, c67, [⟨6, none⟩, ⟨7, none⟩]⟩
theorem is67 : compFn Try.prog h67 Try.f67 = some F67 := by kernel_rfl

/-- saleroom/saleroomref08.Valid -/
noncomputable def c68 : IR :=
 (.seq (.region 0 false 1 [
   ⟨0, 0, (some 1), .box 23 (.tmp 0), none⟩,
   ⟨1, 1, (some 2), .mov (.const (.bool false)), none⟩] [] [1] [] [])
 (.seq (.seq (.region 1 false 0 [
   ⟨0, 0, (some 3), .mov (.const (.int .i64 0)), none⟩] [] [1, 3] [] [])
 (.block 0
  (.loop
   (.seq (.seq (.region 2 false 0 [
     ⟨0, 0, (some 4), .mov (.tmp 3), none⟩,
     ⟨1, 0, (some 5), .bin .lss (.tmp 4) (.const (.int .i64 6)), none⟩] [] [1, 3, 5] [] [])
   (.cond (.tmp 5)
    .skip
    (.exit 0)))
   (.seq (.block 1
    (.seq (.region 4 false 0 [
      ⟨0, 0, (some 8), .mov (.tmp 3), none⟩,
      ⟨1, 0, (some 9), .idxA 6 1 (.tmp 1) (.tmp 8), none⟩,
      ⟨2, 0, (some 10), .load none (.tmp 9), none⟩,
      ⟨3, 0, (some 11), .bin .lss (.tmp 10) (.const (.int .i64 0)), none⟩,
      ⟨4, 0, (some 12), .mov (.tmp 11), none⟩,
      ⟨5, 0, (some 13), .mov (.tmp 3), (some ((some 12), false))⟩,
      ⟨6, 0, (some 14), .idxA 6 1 (.tmp 1) (.tmp 13), (some ((some 12), false))⟩,
      ⟨7, 0, (some 15), .load none (.tmp 14), (some ((some 12), false))⟩,
      ⟨8, 0, (some 16), .bin .gtr (.tmp 15) (.const (.int .i64 4)), (some ((some 12), false))⟩,
      ⟨9, 0, (some 17), .pick (.tmp 12) (.const (.bool true)) (.tmp 16), none⟩] [] [1, 3, 17] [] [])
    (.cond (.tmp 17)
     (.seq (.region 5 false 0 [
       ⟨0, 0, (some 2), .mov (.const (.bool false)), none⟩] [] [2] [] [])
     .ret)
     .skip)))
   (.region 3 false 0 [
     ⟨0, 0, (some 6), .mov (.tmp 3), none⟩,
     ⟨1, 0, (some 7), .bin .add (.tmp 6) (.const (.int .i64 1)), none⟩,
     ⟨2, 0, (some 3), .mov (.tmp 7), none⟩] [] [1, 3] [] []))))))
 (.seq (.region 6 false 0 [
   ⟨0, 0, (some 2), .mov (.const (.bool true)), none⟩] [] [2] [] [])
 .ret)))
noncomputable def h68 : List RH := [⟨0, [1], [], [], [], []⟩, ⟨1, [1, 3], [], [], [], []⟩, ⟨2, [1, 3, 5], [], [], [], []⟩, ⟨4, [1, 3, 17], [], [], [], []⟩, ⟨5, [2], [], [], [], []⟩, ⟨3, [1, 3], [], [], [], []⟩, ⟨6, [2], [], [], [], []⟩]
noncomputable def F68 : IFn := ⟨1, 18, c68, [⟨2, none⟩]⟩
theorem is68 : compFn Try.prog h68 Try.f68 = some F68 := by kernel_rfl

/-- saleroom/saleroomref20.fits -/
noncomputable def c69 : IR :=
 (.seq (.region 0 false 1 [
   ⟨0, 0, (some 2), .box 27 (.tmp 0), none⟩,
   ⟨1, 1, (some 4), .mov (.const (.bool false)), none⟩] [] [1, 2] [] [])
 (.seq (.seq (.region 1 false 0 [
   ⟨0, 0, (some 5), .mov (.const (.int .i64 0)), none⟩] [] [1, 2, 5] [] [])
 (.block 0
  (.loop
   (.seq (.seq (.region 2 false 0 [
     ⟨0, 0, (some 12), .mov (.tmp 5), none⟩,
     ⟨1, 0, (some 13), .fieldA 18 (.tmp 2), none⟩,
     ⟨2, 0, (some 14), .load none (.tmp 13), none⟩,
     ⟨3, 0, (some 15), .len 0 (.tmp 14), none⟩,
     ⟨4, 0, (some 16), .bin .add (.tmp 15) (.const (.int .i64 12)), none⟩,
     ⟨5, 0, (some 17), .bin .lss (.tmp 12) (.tmp 16), none⟩] [] [1, 2, 5, 17] [] [])
   (.cond (.tmp 17)
    .skip
    (.exit 0)))
   (.seq (.block 1
    (.seq (.region 4 false 0 [
      ⟨0, 0, (some 6), .mov (.const (.int .i64 0)), none⟩] [] [1, 2, 5, 6] [] [])
    (.seq (.seq (.region 5 false 0 [
      ⟨0, 0, (some 7), .mov (.const (.int .i64 0)), none⟩] [] [1, 2, 5, 6, 7] [] [])
    (.block 2
     (.loop
      (.seq (.seq (.region 6 false 0 [
        ⟨0, 0, (some 20), .mov (.tmp 7), none⟩,
        ⟨1, 0, (some 21), .mov (.tmp 1), none⟩,
        ⟨2, 0, (some 22), .len 0 (.tmp 21), none⟩,
        ⟨3, 0, (some 23), .bin .lss (.tmp 20) (.tmp 22), none⟩] [] [1, 2, 5, 6, 7, 23] [] [])
      (.cond (.tmp 23)
       .skip
       (.exit 2)))
      (.seq (.block 3
       (.seq (.region 8 true 0 [
         ⟨0, 0, (some 27), .load (some 20) (.tmp 2), none⟩,
         ⟨1, 0, (some 28), .mov (.tmp 5), none⟩,
         ⟨2, 0, (some 29), .mov (.tmp 1), none⟩,
         ⟨3, 0, (some 30), .mov (.tmp 7), none⟩,
         ⟨4, 0, (some 31), .idxS 8 (.tmp 29) (.tmp 30), none⟩,
         ⟨5, 0, (some 32), .load (some 8) (.tmp 31), none⟩,
         ⟨6, 0, (some 33), .call 110 [(.tmp 27), (.tmp 28), (.tmp 32)] false, none⟩,
         ⟨7, 0, (some 26), .mov (.tmp 33), none⟩,
         ⟨8, 0, (some 34), .extract (.tmp 26) 0, none⟩,
         ⟨9, 0, (some 35), .extract (.tmp 26) 1, none⟩,
         ⟨10, 0, (some 8), .mov (.tmp 34), none⟩,
         ⟨11, 0, (some 9), .mov (.tmp 35), none⟩] [] [1, 2, 5, 6, 7, 8] [] [])
       (.region 9 false 0 [
         ⟨0, 0, (some 36), .mov (.tmp 6), none⟩,
         ⟨1, 0, (some 37), .mov (.tmp 8), none⟩,
         ⟨2, 0, (some 38), .bin .add (.tmp 36) (.tmp 37), none⟩,
         ⟨3, 0, (some 6), .mov (.tmp 38), none⟩] [] [1, 2, 5, 6, 7] [] [])))
      (.region 7 false 0 [
        ⟨0, 0, (some 24), .mov (.tmp 7), none⟩,
        ⟨1, 0, (some 25), .bin .add (.tmp 24) (.const (.int .i64 1)), none⟩,
        ⟨2, 0, (some 7), .mov (.tmp 25), none⟩] [] [1, 2, 5, 6, 7] [] []))))))
    (.seq (.region 10 false 0 [
      ⟨0, 0, (some 40), .load (some 20) (.tmp 2), none⟩,
      ⟨1, 0, (some 41), .mov (.tmp 5), none⟩,
      ⟨2, 0, (some 42), .build [(.int .i64 0), (.int .i64 0), (.int .i64 0), (.int .i64 0), (.int .i64 0), (.int .i64 0), (.int .i64 0), (.int .i64 0)] [], none⟩,
      ⟨3, 0, (some 43), .call 110 [(.tmp 40), (.tmp 41), (.tmp 42)] false, none⟩,
      ⟨4, 0, (some 39), .mov (.tmp 43), none⟩,
      ⟨5, 0, (some 44), .extract (.tmp 39) 0, none⟩,
      ⟨6, 0, (some 45), .extract (.tmp 39) 1, none⟩,
      ⟨7, 0, (some 10), .mov (.tmp 44), none⟩,
      ⟨8, 0, (some 11), .mov (.tmp 45), none⟩] [] [1, 2, 5, 6, 11] [] [])
    (.seq (.region 11 false 0 [
      ⟨0, 0, (some 46), .mov (.tmp 6), none⟩,
      ⟨1, 0, (some 47), .mov (.tmp 11), none⟩,
      ⟨2, 0, (some 48), .bin .gtr (.tmp 46) (.tmp 47), none⟩] [] [1, 2, 5, 48] [] [])
    (.cond (.tmp 48)
     (.seq (.region 12 false 0 [
       ⟨0, 0, (some 4), .mov (.const (.bool false)), none⟩] [] [4] [] [])
     .ret)
     .skip))))))
   (.region 3 false 0 [
     ⟨0, 0, (some 18), .mov (.tmp 5), none⟩,
     ⟨1, 0, (some 19), .bin .add (.tmp 18) (.const (.int .i64 1)), none⟩,
     ⟨2, 0, (some 5), .mov (.tmp 19), none⟩] [] [1, 2, 5] [] []))))))
 (.seq (.region 13 false 0 [
   ⟨0, 0, (some 4), .mov (.const (.bool true)), none⟩] [] [4] [] [])
 .ret)))
noncomputable def h69 : List RH := [⟨0, [1, 2], [], [], [], []⟩, ⟨1, [1, 2, 5], [], [], [], []⟩, ⟨2, [1, 2, 5, 17], [], [], [], []⟩, ⟨4, [1, 2, 5, 6], [], [], [], []⟩, ⟨5, [1, 2, 5, 6, 7], [], [], [], []⟩, ⟨6, [1, 2, 5, 6, 7, 23], [], [], [], []⟩, ⟨8, [1, 2, 5, 6, 7, 8], [], [], [], []⟩, ⟨9, [1, 2, 5, 6, 7], [], [], [], []⟩, ⟨7, [1, 2, 5, 6, 7], [], [], [], []⟩, ⟨10, [1, 2, 5, 6, 11], [], [], [], []⟩, ⟨11, [1, 2, 5, 48], [], [], [], []⟩, ⟨12, [4], [], [], [], []⟩, ⟨3, [1, 2, 5], [], [], [], []⟩, ⟨13, [4], [], [], [], []⟩]
noncomputable def F69 : IFn := ⟨2, 49, c69, [⟨4, none⟩]⟩
theorem is69 : compFn Try.prog h69 Try.f69 = some F69 := by kernel_rfl

/-- saleroom/saleroomref23.extend -/
noncomputable def c70 : IR :=
 (.seq (.region 0 false 4 [
   ⟨0, 0, (some 4), .box 27 (.tmp 0), none⟩,
   ⟨1, 1, (some 5), .box 31 (.tmp 1), none⟩,
   ⟨2, 2, (some 7), .box 31 (.tmp 3), none⟩,
   ⟨3, 3, (some 8), .alloc [(.slice none 0 0), (.int .i64 0)] 31 false, none⟩] [] [2, 4, 5, 7, 8] [] [])
 (.seq (.seq (.region 1 false 0 [
   ⟨0, 0, (some 11), .fieldA 1 (.tmp 5), none⟩,
   ⟨1, 0, (some 12), .load none (.tmp 11), none⟩,
   ⟨2, 0, (some 13), .fieldA 1 (.tmp 7), none⟩,
   ⟨3, 0, (some 14), .load none (.tmp 13), none⟩,
   ⟨4, 0, (some 15), .bin .gtr (.tmp 12) (.tmp 14), none⟩,
   ⟨5, 0, (some 16), .mov (.tmp 15), none⟩,
   ⟨6, 0, (some 17), .fieldA 1 (.tmp 5), (some ((some 16), false))⟩,
   ⟨7, 0, (some 18), .load none (.tmp 17), (some ((some 16), false))⟩,
   ⟨8, 0, (some 19), .fieldA 1 (.tmp 7), (some ((some 16), false))⟩,
   ⟨9, 0, (some 20), .load none (.tmp 19), (some ((some 16), false))⟩,
   ⟨10, 0, (some 21), .bin .eql (.tmp 18) (.tmp 20), (some ((some 16), false))⟩,
   ⟨11, 0, (some 22), .mov (.tmp 21), (some ((some 16), false))⟩,
   ⟨12, 0, (some 23), .fieldA 0 (.tmp 5), (some ((some 22), true))⟩,
   ⟨13, 0, (some 24), .load none (.tmp 23), (some ((some 22), true))⟩,
   ⟨14, 0, (some 25), .fieldA 0 (.tmp 7), (some ((some 22), true))⟩,
   ⟨15, 0, (some 26), .load none (.tmp 25), (some ((some 22), true))⟩,
   ⟨16, 0, (some 27), .call 32 [(.tmp 24), (.tmp 26)] false, (some ((some 22), true))⟩,
   ⟨17, 0, (some 28), .bin .lss (.tmp 27) (.const (.int .i64 0)), (some ((some 22), true))⟩,
   ⟨18, 0, (some 29), .pick (.tmp 22) (.tmp 28) (.const (.bool false)), (some ((some 16), false))⟩,
   ⟨19, 0, (some 30), .pick (.tmp 16) (.const (.bool true)) (.tmp 29), none⟩] [] [2, 4, 5, 7, 8, 30] [] [])
 (.cond (.tmp 30)
  (.region 2 false 0 [
    ⟨0, 0, (some 31), .load (some 2) (.tmp 5), none⟩,
    ⟨1, 0, none, .store 2 (.tmp 7) (.tmp 31), none⟩] [] [2, 4, 5, 7, 8] [] [])
  .skip))
 (.seq (.seq (.region 3 false 0 [
   ⟨0, 0, (some 32), .mov (.tmp 2), none⟩,
   ⟨1, 0, (some 9), .mov (.tmp 32), none⟩] [] [4, 5, 7, 8, 9] [] [])
 (.block 0
  (.loop
   (.seq (.seq (.region 4 false 0 [
     ⟨0, 0, (some 33), .mov (.tmp 9), none⟩,
     ⟨1, 0, (some 34), .fieldA 19 (.tmp 4), none⟩,
     ⟨2, 0, (some 35), .load none (.tmp 34), none⟩,
     ⟨3, 0, (some 36), .len 0 (.tmp 35), none⟩,
     ⟨4, 0, (some 37), .bin .lss (.tmp 33) (.tmp 36), none⟩] [] [4, 5, 7, 8, 9, 37] [] [])
   (.cond (.tmp 37)
    .skip
    (.exit 0)))
   (.seq (.block 1
    (.seq (.region 6 false 3 [
      ⟨0, 0, (some 40), .mkrow [(.int .i64 0)] 0 [] 3 1, none⟩,
      ⟨1, 1, (some 41), .fieldA 0 (.tmp 5), none⟩,
      ⟨2, 1, (some 42), .load none (.tmp 41), none⟩,
      ⟨3, 1, (some 43), .append 3 1 8 (.tmp 40) (.tmp 42) true, none⟩,
      ⟨4, 2, (some 44), .mov (.tmp 9), none⟩,
      ⟨5, 2, (some 45), .mkimm [(.int .i64 0)] 1 [(0, (.tmp 44))] 3 1, none⟩,
      ⟨6, 2, (some 46), .append 3 1 8 (.tmp 43) (.tmp 45) true, none⟩,
      ⟨7, 3, (some 10), .mov (.tmp 46), none⟩] [] [4, 5, 7, 8, 9, 10] [] [])
    (.seq (.region 7 false 0 [
      ⟨0, 0, (some 47), .load (some 20) (.tmp 4), none⟩,
      ⟨1, 0, (some 48), .mov (.tmp 10), none⟩,
      ⟨2, 0, (some 49), .call 111 [(.tmp 47), (.tmp 48)] false, none⟩] [] [4, 5, 7, 8, 9, 10, 49] [] [])
    (.cond (.tmp 49)
     (.region 8 true 0 [
       ⟨0, 0, (some 50), .load (some 20) (.tmp 4), none⟩,
       ⟨1, 0, (some 51), .mov (.tmp 10), none⟩,
       ⟨2, 0, (some 52), .fieldA 1 (.tmp 5), none⟩,
       ⟨3, 0, (some 53), .load none (.tmp 52), none⟩,
       ⟨4, 0, (some 54), .fieldA 19 (.tmp 4), none⟩,
       ⟨5, 0, (some 55), .load none (.tmp 54), none⟩,
       ⟨6, 0, (some 56), .mov (.tmp 9), none⟩,
       ⟨7, 0, (some 57), .idxS 8 (.tmp 55) (.tmp 56), none⟩,
       ⟨8, 0, (some 58), .fieldA 7 (.tmp 57), none⟩,
       ⟨9, 0, (some 59), .load none (.tmp 58), none⟩,
       ⟨10, 0, (some 60), .bin .add (.tmp 53) (.tmp 59), none⟩,
       ⟨11, 0, (some 61), .build [(.slice none 0 0), (.int .i64 0)] [(0, 1, (.tmp 51)), (1, 1, (.tmp 60))], none⟩,
       ⟨12, 0, (some 62), .mov (.tmp 9), none⟩,
       ⟨13, 0, (some 63), .bin .add (.tmp 62) (.const (.int .i64 1)), none⟩,
       ⟨14, 0, (some 64), .load (some 2) (.tmp 7), none⟩,
       ⟨15, 0, (some 65), .call 70 [(.tmp 50), (.tmp 61), (.tmp 63), (.tmp 64)] false, none⟩,
       ⟨16, 0, none, .store 2 (.tmp 7) (.tmp 65), none⟩] [] [4, 5, 7, 8, 9] [⟨false, 4, (some 18), 0, 0, false⟩, ⟨false, 4, (some 19), 0, 0, false⟩, ⟨false, 7, (some 0), 0, 0, false⟩, ⟨false, 10, none, 0, 0, false⟩] [])
     .skip))))
   (.region 5 false 0 [
     ⟨0, 0, (some 38), .mov (.tmp 9), none⟩,
     ⟨1, 0, (some 39), .bin .add (.tmp 38) (.const (.int .i64 1)), none⟩,
     ⟨2, 0, (some 9), .mov (.tmp 39), none⟩] [] [4, 5, 7, 8, 9] [] []))))))
 (.seq (.region 9 false 0 [
   ⟨0, 0, (some 66), .load (some 2) (.tmp 7), none⟩,
   ⟨1, 0, none, .store 2 (.tmp 8) (.tmp 66), none⟩] [] [8] [] [])
 .ret))))
noncomputable def h70 : List RH := [⟨0, [2, 4, 5, 7, 8], [], [], [], []⟩, ⟨1, [2, 4, 5, 7, 8, 30], [], [], [], []⟩, ⟨2, [2, 4, 5, 7, 8], [], [], [], []⟩, ⟨3, [4, 5, 7, 8, 9], [], [], [], []⟩, ⟨4, [4, 5, 7, 8, 9, 37], [], [], [], []⟩, ⟨6, [4, 5, 7, 8, 9, 10], [], [3, 5, 6], [], []⟩, ⟨7, [4, 5, 7, 8, 9, 10, 49], [], [], [], []⟩, ⟨8, [4, 5, 7, 8, 9], [], [], [⟨false, 4, (some 18), 0, 0, false⟩, ⟨false, 4, (some 19), 0, 0, false⟩, ⟨false, 7, (some 0), 0, 0, false⟩, ⟨false, 10, none, 0, 0, false⟩], []⟩, ⟨5, [4, 5, 7, 8, 9], [], [], [], []⟩, ⟨9, [8], [], [], [], []⟩]
noncomputable def F70 : IFn := ⟨4, 67, c70, [⟨8, (some (some 2))⟩]⟩
theorem is70 : compFn Try.prog h70 Try.f70 = some F70 := by kernel_rfl

/-- saleroom/saleroomref27.Has -/
noncomputable def c71 : IR :=
 (.seq (.region 0 false 0 [
   ⟨0, 0, (some 4), .mov (.const (.bool false)), none⟩] [] [0, 1] [] [])
 (.seq (.seq (.region 1 false 0 [
   ⟨0, 0, (some 5), .mov (.const (.int .i64 0)), none⟩] [] [0, 1, 5] [] [])
 (.block 0
  (.loop
   (.seq (.seq (.region 2 false 0 [
     ⟨0, 0, (some 6), .mov (.tmp 5), none⟩,
     ⟨1, 0, (some 7), .mov (.tmp 1), none⟩,
     ⟨2, 0, (some 8), .bin .lss (.tmp 6) (.tmp 7), none⟩] [] [0, 1, 5, 8] [] [])
   (.cond (.tmp 8)
    .skip
    (.exit 0)))
   (.seq (.block 1
    (.region 4 false 0 [
      ⟨0, 0, (some 11), .mov (.tmp 0), none⟩,
      ⟨1, 0, (some 12), .bin .shr (.tmp 11) (.const (.int .u64 1)), none⟩,
      ⟨2, 0, (some 0), .mov (.tmp 12), none⟩] [] [0, 1, 5] [] []))
   (.region 3 false 0 [
     ⟨0, 0, (some 9), .mov (.tmp 5), none⟩,
     ⟨1, 0, (some 10), .bin .add (.tmp 9) (.const (.int .i64 1)), none⟩,
     ⟨2, 0, (some 5), .mov (.tmp 10), none⟩] [] [0, 1, 5] [] []))))))
 (.seq (.region 5 false 0 [
   ⟨0, 0, (some 13), .mov (.tmp 0), none⟩,
   ⟨1, 0, (some 14), .bin .and (.tmp 13) (.const (.int .i64 1)), none⟩,
   ⟨2, 0, (some 15), .bin .eql (.tmp 14) (.const (.int .i64 1)), none⟩,
   ⟨3, 0, (some 4), .mov (.tmp 15), none⟩] [] [4] [] [])
 .ret)))
noncomputable def h71 : List RH := [⟨0, [0, 1], [], [], [], []⟩, ⟨1, [0, 1, 5], [], [], [], []⟩, ⟨2, [0, 1, 5, 8], [], [], [], []⟩, ⟨4, [0, 1, 5], [], [], [], []⟩, ⟨3, [0, 1, 5], [], [], [], []⟩, ⟨5, [4], [], [], [], []⟩]
noncomputable def F71 : IFn := ⟨2, 16, c71, [⟨4, none⟩]⟩
theorem is71 : compFn Try.prog h71 Try.f71 = some F71 := by kernel_rfl

/-- saleroom/problem.Check -/
noncomputable def c79 : IR :=
 (.seq (.region 0 false 1 [
   ⟨0, 0, (some 1), .box 27 (.tmp 0), none⟩,
   ⟨1, 1, (some 2), .mov (.const (.int .i64 0)), none⟩] [] [1] [] [])
 (.seq (.region 1 false 1 [
   ⟨0, 0, (some 10), .load (some 20) (.tmp 1), none⟩,
   ⟨1, 0, (some 11), .build [(.int .i64 0), (.int .i64 0), (.int .i64 0), (.int .i64 0), (.int .i64 0), (.int .i64 0), (.int .i64 0), (.int .i64 0), (.int .i64 0), (.int .i64 0), (.int .i64 0), (.int .i64 0), (.int .i64 0), (.int .i64 0), (.int .i64 0), (.int .i64 0), (.int .i64 0), (.int .i64 0), (.slice none 0 0), (.slice none 0 0)] [(0, 20, (.tmp 10))], none⟩,
   ⟨2, 0, (some 3), .alloc [(.int .i64 0), (.int .i64 0), (.int .i64 0), (.int .i64 0), (.int .i64 0), (.int .i64 0), (.int .i64 0), (.int .i64 0), (.int .i64 0), (.int .i64 0), (.int .i64 0), (.int .i64 0), (.int .i64 0), (.int .i64 0), (.int .i64 0), (.int .i64 0), (.int .i64 0), (.int .i64 0), (.slice none 0 0), (.slice none 0 0)] 148 false, none⟩,
   ⟨3, 1, none, .store 20 (.tmp 3) (.tmp 11), none⟩] [] [1, 3] [] [])
 (.seq (.seq (.region 2 false 0 [
   ⟨0, 0, (some 12), .load (some 20) (.tmp 3), none⟩,
   ⟨1, 0, (some 13), .call 118 [(.tmp 12)] false, none⟩,
   ⟨2, 0, (some 4), .mov (.tmp 13), none⟩] [] [1, 3, 4] [] [])
 (.seq (.region 3 false 0 [
   ⟨0, 0, (some 14), .mov (.tmp 4), none⟩,
   ⟨1, 0, (some 15), .bin .neq (.tmp 14) (.const (.int .i64 0)), none⟩] [] [1, 3, 4, 15] [] [])
 (.cond (.tmp 15)
  (.seq (.region 4 false 0 [
    ⟨0, 0, (some 16), .mov (.tmp 4), none⟩,
    ⟨1, 0, (some 2), .mov (.tmp 16), none⟩] [] [2] [] [])
  .ret)
  .skip)))
 (.seq (.region 5 false 1 [
   ⟨0, 0, (some 17), .mkmap ([0, 0, 0, 0, 0, 0, 0], true) true, none⟩,
   ⟨1, 1, (some 5), .mov (.tmp 17), none⟩] [] [1, 3, 5] [] [])
 (.seq (.seq (.region 6 false 0 [
   ⟨0, 0, (some 18), .fieldA 19 (.tmp 1), none⟩,
   ⟨1, 0, (some 19), .load none (.tmp 18), none⟩,
   ⟨2, 0, (some 20), .len 0 (.tmp 19), none⟩,
   ⟨3, 0, (some 21), .mov (.const (.int .i64 0)), none⟩] [] [3, 5, 19, 20, 21] [] [])
 (.block 0
  (.loop
   (.seq (.region 7 false 0 [
     ⟨0, 0, (some 22), .bin .lss (.tmp 21) (.tmp 20), none⟩] [] [3, 5, 19, 20, 21, 22] [] [])
   (.seq (.cond (.tmp 22)
    .skip
    (.exit 0))
   (.seq (.block 1
    (.seq (.region 8 false 1 [
      ⟨0, 0, (some 23), .idxS 8 (.tmp 19) (.tmp 21), none⟩,
      ⟨1, 0, (some 24), .load (some 8) (.tmp 23), none⟩,
      ⟨2, 0, (some 7), .alloc [(.int .i64 0), (.int .i64 0), (.int .i64 0), (.int .i64 0), (.int .i64 0), (.int .i64 0), (.int .i64 0), (.int .i64 0)] 43 false, none⟩,
      ⟨3, 1, none, .store 8 (.tmp 7) (.tmp 24), none⟩] [] [3, 5, 7, 19, 20, 21] [] [])
    (.seq (.seq (.region 9 false 0 [
      ⟨0, 0, (some 25), .load (some 20) (.tmp 3), none⟩,
      ⟨1, 0, (some 26), .load (some 8) (.tmp 7), none⟩,
      ⟨2, 0, (some 27), .call 119 [(.tmp 25), (.tmp 26)] false, none⟩,
      ⟨3, 0, (some 8), .mov (.tmp 27), none⟩] [] [3, 5, 7, 8, 19, 20, 21] [] [])
    (.seq (.region 10 false 0 [
      ⟨0, 0, (some 28), .mov (.tmp 8), none⟩,
      ⟨1, 0, (some 29), .bin .neq (.tmp 28) (.const (.int .i64 0)), none⟩] [] [3, 5, 7, 8, 19, 20, 21, 29] [] [])
    (.cond (.tmp 29)
     (.seq (.region 11 false 0 [
       ⟨0, 0, (some 30), .mov (.tmp 8), none⟩,
       ⟨1, 0, (some 2), .mov (.tmp 30), none⟩] [] [2] [] [])
     .ret)
     .skip)))
    (.seq (.region 12 false 1 [
      ⟨0, 0, (some 31), .fieldA 0 (.tmp 7), none⟩,
      ⟨1, 0, (some 32), .load none (.tmp 31), none⟩,
      ⟨2, 0, (some 33), .fieldA 1 (.tmp 7), none⟩,
      ⟨3, 0, (some 34), .load (some 6) (.tmp 33), none⟩,
      ⟨4, 0, (some 35), .build [(.int .i64 0), (.int .i64 0), (.int .i64 0), (.int .i64 0), (.int .i64 0), (.int .i64 0), (.int .i64 0)] [(0, 1, (.tmp 32)), (1, 6, (.tmp 34))], none⟩,
      ⟨5, 0, (some 9), .alloc [(.int .i64 0), (.int .i64 0), (.int .i64 0), (.int .i64 0), (.int .i64 0), (.int .i64 0), (.int .i64 0)] 153 false, none⟩,
      ⟨6, 1, none, .store 7 (.tmp 9) (.tmp 35), none⟩] [] [3, 5, 9, 19, 20, 21] [] [])
    (.seq (.seq (.region 13 false 0 [
      ⟨0, 0, (some 36), .mov (.tmp 5), none⟩,
      ⟨1, 0, (some 37), .load (some 7) (.tmp 9), none⟩,
      ⟨2, 0, (some 38), .lookup [(.bool false)] false [0, 0, 0, 0, 0, 0, 0] true (.tmp 36) (.tmp 37) false, none⟩] [] [3, 5, 9, 19, 20, 21, 38] [] [])
    (.cond (.tmp 38)
     (.seq (.region 14 false 0 [
       ⟨0, 0, (some 2), .mov (.const (.int .i64 7)), none⟩] [] [2] [] [])
     .ret)
     .skip))
    (.region 15 false 0 [
      ⟨0, 0, (some 39), .mov (.tmp 5), none⟩,
      ⟨1, 0, (some 40), .load (some 7) (.tmp 9), none⟩,
      ⟨2, 0, none, .mapset [0, 0, 0, 0, 0, 0, 0] true (.tmp 39) (.tmp 40) (.const (.bool true)), none⟩] [] [3, 5, 19, 20, 21] [] []))))))
   (.region 16 false 0 [
     ⟨0, 0, (some 41), .bin .add (.tmp 21) (.const (.int .i64 1)), none⟩,
     ⟨1, 0, (some 21), .mov (.tmp 41), none⟩] [] [3, 5, 19, 20, 21] [] [])))))))
 (.seq (.region 17 false 0 [
   ⟨0, 0, (some 2), .mov (.const (.int .i64 0)), none⟩] [] [2] [] [])
 .ret))))))
noncomputable def h79 : List RH := [⟨0, [1], [], [], [], []⟩, ⟨1, [1, 3], [], [], [], []⟩, ⟨2, [1, 3, 4], [], [], [], []⟩, ⟨3, [1, 3, 4, 15], [], [], [], []⟩, ⟨4, [2], [], [], [], []⟩, ⟨5, [1, 3, 5], [], [0], [], []⟩, ⟨6, [3, 5, 19, 20, 21], [], [], [], []⟩, ⟨7, [3, 5, 19, 20, 21, 22], [], [], [], []⟩, ⟨8, [3, 5, 7, 19, 20, 21], [], [], [], []⟩, ⟨9, [3, 5, 7, 8, 19, 20, 21], [], [], [], []⟩, ⟨10, [3, 5, 7, 8, 19, 20, 21, 29], [], [], [], []⟩, ⟨11, [2], [], [], [], []⟩, ⟨12, [3, 5, 9, 19, 20, 21], [], [], [], []⟩, ⟨13, [3, 5, 9, 19, 20, 21, 38], [], [], [], []⟩, ⟨14, [2], [], [], [], []⟩, ⟨15, [3, 5, 19, 20, 21], [], [], [], []⟩, ⟨16, [3, 5, 19, 20, 21], [], [], [], []⟩, ⟨17, [2], [], [], [], []⟩]
noncomputable def F79 : IFn := ⟨1, 42, c79, [⟨2, none⟩]⟩
theorem is79 : compFn Try.prog h79 Try.f79 = some F79 := by kernel_rfl

/-- saleroom/coalition.Worth -/
noncomputable def c80 : IR :=
 (.seq (.region 0 false 1 [
   ⟨0, 0, (some 2), .box 27 (.tmp 0), none⟩,
   ⟨1, 1, (some 4), .mov (.const (.int .i64 0)), none⟩,
   ⟨2, 1, (some 5), .mov (.const (.int .i64 0)), none⟩] [] [1, 2] [] [])
 (.seq (.seq (.region 1 false 0 [
   ⟨0, 0, (some 8), .load (some 20) (.tmp 2), none⟩,
   ⟨1, 0, (some 9), .mov (.tmp 1), none⟩,
   ⟨2, 0, (some 10), .call 112 [(.tmp 8), (.tmp 9)] false, none⟩,
   ⟨3, 0, (some 6), .mov (.tmp 10), none⟩] [] [1, 2, 6] [] [])
 (.seq (.region 2 false 0 [
   ⟨0, 0, (some 11), .mov (.tmp 6), none⟩,
   ⟨1, 0, (some 12), .bin .neq (.tmp 11) (.const (.int .i64 0)), none⟩] [] [1, 2, 6, 12] [] [])
 (.cond (.tmp 12)
  (.seq (.region 3 false 0 [
    ⟨0, 0, (some 13), .mov (.tmp 6), none⟩,
    ⟨1, 0, (some 4), .mov (.const (.int .i64 0)), none⟩,
    ⟨2, 0, (some 5), .mov (.tmp 13), none⟩] [] [4, 5] [] [])
  .ret)
  .skip)))
 (.seq (.region 4 false 0 [
   ⟨0, 0, (some 14), .load (some 20) (.tmp 2), none⟩,
   ⟨1, 0, (some 15), .call 113 [(.tmp 14)] true, none⟩,
   ⟨2, 0, (some 7), .mov (.tmp 15), none⟩] [] [1, 7] [] [])
 (.seq (.region 5 false 0 [
   ⟨0, 0, (some 16), .mov (.tmp 7), none⟩,
   ⟨1, 0, (some 17), .mov (.tmp 7), none⟩,
   ⟨2, 0, (some 18), .mov (.tmp 1), none⟩,
   ⟨3, 0, (some 19), .call 114 [(.tmp 17), (.tmp 18)] true, none⟩,
   ⟨4, 0, (some 20), .call 115 [(.tmp 16), (.tmp 19)] true, none⟩,
   ⟨5, 0, (some 4), .mov (.tmp 20), none⟩,
   ⟨6, 0, (some 5), .mov (.const (.int .i64 0)), none⟩] [] [4, 5] [] [])
 .ret))))
noncomputable def h80 : List RH := [⟨0, [1, 2], [], [], [], []⟩, ⟨1, [1, 2, 6], [], [], [], []⟩, ⟨2, [1, 2, 6, 12], [], [], [], []⟩, ⟨3, [4, 5], [], [], [], []⟩, ⟨4, [1, 7], [], [1], [], []⟩, ⟨5, [4, 5], [], [3, 4], [], []⟩]
noncomputable def F80 : IFn := ⟨2, 21, c80, [⟨4, none⟩, ⟨5, none⟩]⟩
theorem is80 : compFn Try.prog h80 Try.f80 = some F80 := by kernel_rfl

/-- saleroom/problem.Feasible -/
noncomputable def c100 : IR :=
 (.seq (.region 0 false 1 [
   ⟨0, 0, (some 2), .box 27 (.tmp 0), none⟩,
   ⟨1, 1, (some 4), .mov (.const (.int .i64 0)), none⟩] [] [1, 2] [] [])
 (.seq (.seq (.region 1 false 0 [
   ⟨0, 0, (some 8), .load (some 20) (.tmp 2), none⟩,
   ⟨1, 0, (some 9), .call 79 [(.tmp 8)] false, none⟩,
   ⟨2, 0, (some 5), .mov (.tmp 9), none⟩] [] [1, 2, 5] [] [])
 (.seq (.region 2 false 0 [
   ⟨0, 0, (some 10), .mov (.tmp 5), none⟩,
   ⟨1, 0, (some 11), .bin .neq (.tmp 10) (.const (.int .i64 0)), none⟩] [] [1, 2, 5, 11] [] [])
 (.cond (.tmp 11)
  (.seq (.region 3 false 0 [
    ⟨0, 0, (some 12), .mov (.tmp 5), none⟩,
    ⟨1, 0, (some 4), .mov (.tmp 12), none⟩] [] [4] [] [])
  .ret)
  .skip)))
 (.seq (.region 4 false 0 [
   ⟨0, 0, (some 14), .load (some 20) (.tmp 2), none⟩,
   ⟨1, 0, (some 15), .mov (.tmp 1), none⟩,
   ⟨2, 0, (some 16), .call 133 [(.tmp 14), (.tmp 15)] false, none⟩,
   ⟨3, 0, (some 13), .mov (.tmp 16), none⟩,
   ⟨4, 0, (some 17), .extract (.tmp 13) 0, none⟩,
   ⟨5, 0, (some 18), .extract (.tmp 13) 1, none⟩,
   ⟨6, 0, (some 6), .mov (.tmp 17), none⟩,
   ⟨7, 0, (some 7), .mov (.tmp 18), none⟩] [] [2, 6, 7] [⟨false, 2, (some 18), 0, 0, false⟩, ⟨false, 2, (some 19), 0, 0, false⟩, ⟨false, 1, none, 0, 0, false⟩] [])
 (.seq (.block 0
  (.seq (.region 5 false 0 [
    ⟨0, 0, (some 20), .mov (.tmp 7), none⟩,
    ⟨1, 0, (some 21), .un .not (.tmp 20), none⟩,
    ⟨2, 0, (some 19), .mov (.tmp 21), none⟩] [] [2, 6, 19] [] [])
  (.cond (.tmp 19)
   (.seq (.region 6 false 0 [
     ⟨0, 0, (some 4), .mov (.const (.int .i64 4)), none⟩] [] [4] [] [])
   .ret)
   (.seq (.region 7 false 0 [
     ⟨0, 0, (some 23), .load (some 20) (.tmp 2), none⟩,
     ⟨1, 0, (some 24), .build [(.int .i64 0), (.int .i64 0), (.int .i64 0), (.int .i64 0), (.int .i64 0), (.int .i64 0), (.int .i64 0), (.int .i64 0), (.int .i64 0), (.int .i64 0), (.int .i64 0), (.int .i64 0), (.int .i64 0), (.int .i64 0), (.int .i64 0), (.int .i64 0), (.int .i64 0), (.int .i64 0), (.slice none 0 0), (.slice none 0 0)] [(0, 20, (.tmp 23))], none⟩,
     ⟨2, 0, (some 25), .mov (.tmp 6), none⟩,
     ⟨3, 0, (some 26), .call 134 [(.tmp 24), (.tmp 25)] false, none⟩,
     ⟨4, 0, (some 27), .un .not (.tmp 26), none⟩,
     ⟨5, 0, (some 22), .mov (.tmp 27), none⟩] [] [22] [] [])
   (.cond (.tmp 22)
    (.seq (.region 8 false 0 [
      ⟨0, 0, (some 4), .mov (.const (.int .i64 14)), none⟩] [] [4] [] [])
    .ret)
    .skip)))))
 (.seq (.region 9 false 0 [
   ⟨0, 0, (some 4), .mov (.const (.int .i64 0)), none⟩] [] [4] [] [])
 .ret)))))
noncomputable def h100 : List RH := [⟨0, [1, 2], [], [], [], []⟩, ⟨1, [1, 2, 5], [], [], [], []⟩, ⟨2, [1, 2, 5, 11], [], [], [], []⟩, ⟨3, [4], [], [], [], []⟩, ⟨4, [2, 6, 7], [], [], [⟨false, 2, (some 18), 0, 0, false⟩, ⟨false, 2, (some 19), 0, 0, false⟩, ⟨false, 1, none, 0, 0, false⟩], []⟩, ⟨5, [2, 6, 19], [], [], [], []⟩, ⟨6, [4], [], [], [], []⟩, ⟨7, [22], [], [], [], []⟩, ⟨8, [4], [], [], [], []⟩, ⟨9, [4], [], [], [], []⟩]
noncomputable def F100 : IFn := ⟨2, 28, c100, [⟨4, none⟩]⟩
theorem is100 : compFn Try.prog h100 Try.f100 = some F100 := by kernel_rfl

/-- saleroom/saleroomref20.Picked -/
noncomputable def c109 : IR :=
 (.seq (.region 0 false 1 [
   ⟨0, 0, (some 2), .box 27 (.tmp 0), none⟩,
   ⟨1, 1, (some 4), .mov (.const (.slice none 0 0)), none⟩,
   ⟨2, 1, (some 5), .mov (.const (.bool false)), none⟩] [] [1, 2] [] [])
 (.seq (.region 1 false 0 [
   ⟨0, 0, (some 6), .mov (.const (.slice none 0 0)), none⟩] [] [1, 2, 6] [] [⟨true, 6, none, 43, 8, true⟩])
 (.seq (.seq (.region 2 false 0 [
   ⟨0, 0, (some 7), .mov (.const (.int .i64 0)), none⟩] [] [1, 2, 6, 7] [] [])
 (.block 0
  (.loop
   (.seq (.seq (.region 3 false 0 [
     ⟨0, 0, (some 8), .mov (.tmp 7), none⟩,
     ⟨1, 0, (some 9), .mov (.tmp 1), none⟩,
     ⟨2, 0, (some 10), .len 0 (.tmp 9), none⟩,
     ⟨3, 0, (some 11), .bin .lss (.tmp 8) (.tmp 10), none⟩] [] [1, 2, 6, 7, 11] [] [])
   (.cond (.tmp 11)
    .skip
    (.exit 0)))
   (.seq (.block 1
    (.seq (.seq (.region 5 true 0 [
      ⟨0, 0, (some 14), .mov (.tmp 1), none⟩,
      ⟨1, 0, (some 15), .mov (.tmp 7), none⟩,
      ⟨2, 0, (some 16), .idxS 1 (.tmp 14) (.tmp 15), none⟩,
      ⟨3, 0, (some 17), .load none (.tmp 16), none⟩,
      ⟨4, 0, (some 18), .bin .lss (.tmp 17) (.const (.int .i64 0)), none⟩,
      ⟨5, 0, (some 19), .mov (.tmp 18), none⟩,
      ⟨6, 0, (some 20), .mov (.tmp 1), (some ((some 19), false))⟩,
      ⟨7, 0, (some 21), .mov (.tmp 7), (some ((some 19), false))⟩,
      ⟨8, 0, (some 22), .idxS 1 (.tmp 20) (.tmp 21), (some ((some 19), false))⟩,
      ⟨9, 0, (some 23), .load none (.tmp 22), (some ((some 19), false))⟩,
      ⟨10, 0, (some 24), .fieldA 19 (.tmp 2), (some ((some 19), false))⟩,
      ⟨11, 0, (some 25), .load none (.tmp 24), (some ((some 19), false))⟩,
      ⟨12, 0, (some 26), .len 0 (.tmp 25), (some ((some 19), false))⟩,
      ⟨13, 0, (some 27), .bin .geq (.tmp 23) (.tmp 26), (some ((some 19), false))⟩,
      ⟨14, 0, (some 28), .pick (.tmp 19) (.const (.bool true)) (.tmp 27), none⟩,
      ⟨15, 0, (some 29), .mov (.tmp 28), none⟩,
      ⟨16, 0, (some 30), .mov (.tmp 7), (some ((some 29), false))⟩,
      ⟨17, 0, (some 31), .bin .gtr (.tmp 30) (.const (.int .i64 0)), (some ((some 29), false))⟩,
      ⟨18, 0, (some 32), .mov (.tmp 31), (some ((some 29), false))⟩,
      ⟨19, 0, (some 33), .mov (.tmp 1), (some ((some 32), true))⟩,
      ⟨20, 0, (some 34), .mov (.tmp 7), (some ((some 32), true))⟩,
      ⟨21, 0, (some 35), .idxS 1 (.tmp 33) (.tmp 34), (some ((some 32), true))⟩,
      ⟨22, 0, (some 36), .load none (.tmp 35), (some ((some 32), true))⟩,
      ⟨23, 0, (some 37), .mov (.tmp 1), (some ((some 32), true))⟩,
      ⟨24, 0, (some 38), .mov (.tmp 7), (some ((some 32), true))⟩,
      ⟨25, 0, (some 39), .bin .sub (.tmp 38) (.const (.int .i64 1)), (some ((some 32), true))⟩,
      ⟨26, 0, (some 40), .idxS 1 (.tmp 37) (.tmp 39), (some ((some 32), true))⟩,
      ⟨27, 0, (some 41), .load none (.tmp 40), (some ((some 32), true))⟩,
      ⟨28, 0, (some 42), .bin .leq (.tmp 36) (.tmp 41), (some ((some 32), true))⟩,
      ⟨29, 0, (some 43), .pick (.tmp 32) (.tmp 42) (.const (.bool false)), (some ((some 29), false))⟩,
      ⟨30, 0, (some 44), .pick (.tmp 29) (.const (.bool true)) (.tmp 43), none⟩] [] [1, 2, 6, 7, 44] [] [])
    (.cond (.tmp 44)
     (.seq (.region 6 false 0 [
       ⟨0, 0, (some 4), .mov (.const (.slice none 0 0)), none⟩,
       ⟨1, 0, (some 5), .mov (.const (.bool false)), none⟩] [] [4, 5] [] [])
     .ret)
     .skip))
    (.region 7 true 1 [
      ⟨0, 0, (some 45), .mov (.tmp 6), none⟩,
      ⟨1, 0, (some 46), .fieldA 19 (.tmp 2), none⟩,
      ⟨2, 0, (some 47), .load none (.tmp 46), none⟩,
      ⟨3, 0, (some 48), .mov (.tmp 1), none⟩,
      ⟨4, 0, (some 49), .mov (.tmp 7), none⟩,
      ⟨5, 0, (some 50), .idxS 1 (.tmp 48) (.tmp 49), none⟩,
      ⟨6, 0, (some 51), .load none (.tmp 50), none⟩,
      ⟨7, 0, (some 52), .idxS 8 (.tmp 47) (.tmp 51), none⟩,
      ⟨8, 0, (some 53), .load (some 8) (.tmp 52), none⟩,
      ⟨9, 0, (some 54), .mkimm [(.int .i64 0), (.int .i64 0), (.int .i64 0), (.int .i64 0), (.int .i64 0), (.int .i64 0), (.int .i64 0), (.int .i64 0)] 1 [(0, (.tmp 53))] 43 8, none⟩,
      ⟨10, 0, (some 55), .append 43 8 64 (.tmp 45) (.tmp 54) true, none⟩,
      ⟨11, 1, (some 6), .mov (.tmp 55), none⟩] [] [1, 2, 6, 7] [] [])))
   (.region 4 false 0 [
     ⟨0, 0, (some 12), .mov (.tmp 7), none⟩,
     ⟨1, 0, (some 13), .bin .add (.tmp 12) (.const (.int .i64 1)), none⟩,
     ⟨2, 0, (some 7), .mov (.tmp 13), none⟩] [] [1, 2, 6, 7] [] []))))))
 (.seq (.region 8 false 0 [
   ⟨0, 0, (some 56), .mov (.tmp 6), none⟩,
   ⟨1, 0, (some 4), .mov (.tmp 56), none⟩,
   ⟨2, 0, (some 5), .mov (.const (.bool true)), none⟩] [] [4, 5] [] [])
 .ret))))
noncomputable def h109 : List RH := [⟨0, [1, 2], [], [], [], []⟩, ⟨1, [1, 2, 6], [], [], [], [⟨true, 6, none, 43, 8, true⟩]⟩, ⟨2, [1, 2, 6, 7], [], [], [], []⟩, ⟨3, [1, 2, 6, 7, 11], [], [], [], []⟩, ⟨5, [1, 2, 6, 7, 44], [], [], [], []⟩, ⟨6, [4, 5], [], [], [], []⟩, ⟨7, [1, 2, 6, 7], [], [9, 10], [], []⟩, ⟨4, [1, 2, 6, 7], [], [], [], []⟩, ⟨8, [4, 5], [], [], [], []⟩]
noncomputable def F109 : IFn := ⟨2, 57, c109, [⟨4, none⟩, ⟨5, none⟩]⟩
theorem is109 : compFn Try.prog h109 Try.f109 = some F109 := by kernel_rfl

/-- saleroom/saleroomref20.coef -/
noncomputable def c110 : IR :=
 (.seq (.region 0 false 2 [
   ⟨0, 0, (some 3), .box 27 (.tmp 0), none⟩,
   ⟨1, 1, (some 5), .box 43 (.tmp 2), none⟩,
   ⟨2, 2, (some 6), .mov (.const (.int .i64 0)), none⟩,
   ⟨3, 2, (some 7), .mov (.const (.int .i64 0)), none⟩] [] [1, 3, 5] [] [])
 (.seq (.region 1 false 0 [
   ⟨0, 0, (some 10), .fieldA 18 (.tmp 3), none⟩,
   ⟨1, 0, (some 11), .load none (.tmp 10), none⟩,
   ⟨2, 0, (some 12), .len 0 (.tmp 11), none⟩,
   ⟨3, 0, (some 8), .mov (.tmp 12), none⟩] [] [1, 3, 5, 8] [] [])
 (.seq (.block 0
  (.seq (.region 2 false 0 [
    ⟨0, 0, (some 14), .mov (.tmp 1), none⟩,
    ⟨1, 0, (some 15), .mov (.tmp 8), none⟩,
    ⟨2, 0, (some 16), .bin .lss (.tmp 14) (.tmp 15), none⟩,
    ⟨3, 0, (some 13), .mov (.tmp 16), none⟩] [] [1, 3, 5, 8, 13] [] [])
  (.cond (.tmp 13)
   (.seq (.seq (.region 3 false 0 [
     ⟨0, 0, (some 17), .fieldA 0 (.tmp 5), none⟩,
     ⟨1, 0, (some 18), .load none (.tmp 17), none⟩,
     ⟨2, 0, (some 19), .mov (.tmp 1), none⟩,
     ⟨3, 0, (some 20), .bin .eql (.tmp 18) (.tmp 19), none⟩] [] [20] [] [])
   (.cond (.tmp 20)
    (.seq (.region 4 false 0 [
      ⟨0, 0, (some 6), .mov (.const (.int .i64 1)), none⟩,
      ⟨1, 0, (some 7), .mov (.const (.int .i64 1)), none⟩] [] [6, 7] [] [])
    .ret)
    .skip))
   (.seq (.region 5 false 0 [
     ⟨0, 0, (some 6), .mov (.const (.int .i64 0)), none⟩,
     ⟨1, 0, (some 7), .mov (.const (.int .i64 1)), none⟩] [] [6, 7] [] [])
   .ret))
   (.seq (.region 6 false 0 [
     ⟨0, 0, (some 22), .mov (.tmp 1), none⟩,
     ⟨1, 0, (some 23), .mov (.tmp 8), none⟩,
     ⟨2, 0, (some 24), .bin .add (.tmp 23) (.const (.int .i64 6)), none⟩,
     ⟨3, 0, (some 25), .bin .lss (.tmp 22) (.tmp 24), none⟩,
     ⟨4, 0, (some 21), .mov (.tmp 25), none⟩] [] [1, 3, 5, 8, 21] [] [])
   (.cond (.tmp 21)
    (.seq (.region 7 true 0 [
      ⟨0, 0, (some 26), .mov (.tmp 1), none⟩,
      ⟨1, 0, (some 27), .mov (.tmp 8), none⟩,
      ⟨2, 0, (some 28), .bin .sub (.tmp 26) (.tmp 27), none⟩,
      ⟨3, 0, (some 29), .fieldA 1 (.tmp 5), none⟩,
      ⟨4, 0, (some 30), .idxA 6 1 (.tmp 29) (.tmp 28), none⟩,
      ⟨5, 0, (some 31), .load none (.tmp 30), none⟩,
      ⟨6, 0, (some 32), .mov (.tmp 1), none⟩,
      ⟨7, 0, (some 33), .mov (.tmp 8), none⟩,
      ⟨8, 0, (some 34), .bin .sub (.tmp 32) (.tmp 33), none⟩,
      ⟨9, 0, (some 35), .fieldA 0 (.tmp 3), none⟩,
      ⟨10, 0, (some 36), .idxA 6 1 (.tmp 35) (.tmp 34), none⟩,
      ⟨11, 0, (some 37), .load none (.tmp 36), none⟩,
      ⟨12, 0, (some 6), .mov (.tmp 31), none⟩,
      ⟨13, 0, (some 7), .mov (.tmp 37), none⟩] [] [6, 7] [] [])
    .ret)
    .skip)))))
 (.seq (.region 8 false 0 [
   ⟨0, 0, (some 38), .mov (.tmp 1), none⟩,
   ⟨1, 0, (some 39), .mov (.tmp 8), none⟩,
   ⟨2, 0, (some 40), .bin .sub (.tmp 38) (.tmp 39), none⟩,
   ⟨3, 0, (some 41), .bin .sub (.tmp 40) (.const (.int .i64 6)), none⟩,
   ⟨4, 0, (some 9), .mov (.tmp 41), none⟩] [] [3, 5, 9] [] [])
 (.seq (.seq (.region 9 true 0 [
   ⟨0, 0, (some 42), .mov (.tmp 9), none⟩,
   ⟨1, 0, (some 43), .fieldA 12 (.tmp 3), none⟩,
   ⟨2, 0, (some 44), .idxA 6 1 (.tmp 43) (.tmp 42), none⟩,
   ⟨3, 0, (some 45), .load none (.tmp 44), none⟩,
   ⟨4, 0, (some 46), .bin .neq (.tmp 45) (.const (.int .i64 0)), none⟩,
   ⟨5, 0, (some 47), .mov (.tmp 46), none⟩,
   ⟨6, 0, (some 48), .fieldA 0 (.tmp 5), (some ((some 47), true))⟩,
   ⟨7, 0, (some 49), .load none (.tmp 48), (some ((some 47), true))⟩,
   ⟨8, 0, (some 50), .fieldA 18 (.tmp 3), (some ((some 47), true))⟩,
   ⟨9, 0, (some 51), .load none (.tmp 50), (some ((some 47), true))⟩,
   ⟨10, 0, (some 52), .len 0 (.tmp 51), (some ((some 47), true))⟩,
   ⟨11, 0, (some 53), .bin .lss (.tmp 49) (.tmp 52), (some ((some 47), true))⟩,
   ⟨12, 0, (some 54), .pick (.tmp 47) (.tmp 53) (.const (.bool false)), none⟩,
   ⟨13, 0, (some 55), .mov (.tmp 54), none⟩,
   ⟨14, 0, (some 56), .mov (.tmp 9), (some ((some 55), true))⟩,
   ⟨15, 0, (some 57), .fieldA 12 (.tmp 3), (some ((some 55), true))⟩,
   ⟨16, 0, (some 58), .idxA 6 1 (.tmp 57) (.tmp 56), (some ((some 55), true))⟩,
   ⟨17, 0, (some 59), .load none (.tmp 58), (some ((some 55), true))⟩,
   ⟨18, 0, (some 60), .fieldA 18 (.tmp 3), (some ((some 55), true))⟩,
   ⟨19, 0, (some 61), .load none (.tmp 60), (some ((some 55), true))⟩,
   ⟨20, 0, (some 62), .fieldA 0 (.tmp 5), (some ((some 55), true))⟩,
   ⟨21, 0, (some 63), .load none (.tmp 62), (some ((some 55), true))⟩,
   ⟨22, 0, (some 64), .idxS 1 (.tmp 61) (.tmp 63), (some ((some 55), true))⟩,
   ⟨23, 0, (some 65), .load none (.tmp 64), (some ((some 55), true))⟩,
   ⟨24, 0, (some 66), .bin .neq (.tmp 59) (.tmp 65), (some ((some 55), true))⟩,
   ⟨25, 0, (some 67), .pick (.tmp 55) (.tmp 66) (.const (.bool false)), none⟩] [] [3, 5, 9, 67] [] [])
 (.cond (.tmp 67)
  (.seq (.region 10 true 0 [
    ⟨0, 0, (some 68), .mov (.tmp 9), none⟩,
    ⟨1, 0, (some 69), .fieldA 1 (.tmp 5), none⟩,
    ⟨2, 0, (some 70), .idxA 6 1 (.tmp 69) (.tmp 68), none⟩,
    ⟨3, 0, (some 71), .load none (.tmp 70), none⟩,
    ⟨4, 0, (some 72), .mov (.tmp 9), none⟩,
    ⟨5, 0, (some 73), .fieldA 6 (.tmp 3), none⟩,
    ⟨6, 0, (some 74), .idxA 6 1 (.tmp 73) (.tmp 72), none⟩,
    ⟨7, 0, (some 75), .load none (.tmp 74), none⟩,
    ⟨8, 0, (some 6), .mov (.tmp 71), none⟩,
    ⟨9, 0, (some 7), .mov (.tmp 75), none⟩] [] [6, 7] [] [])
  .ret)
  .skip))
 (.seq (.region 11 true 0 [
   ⟨0, 0, (some 76), .mov (.tmp 9), none⟩,
   ⟨1, 0, (some 77), .fieldA 6 (.tmp 3), none⟩,
   ⟨2, 0, (some 78), .idxA 6 1 (.tmp 77) (.tmp 76), none⟩,
   ⟨3, 0, (some 79), .load none (.tmp 78), none⟩,
   ⟨4, 0, (some 6), .mov (.const (.int .i64 0)), none⟩,
   ⟨5, 0, (some 7), .mov (.tmp 79), none⟩] [] [6, 7] [] [])
 .ret))))))
noncomputable def h110 : List RH := [⟨0, [1, 3, 5], [], [], [], []⟩, ⟨1, [1, 3, 5, 8], [], [], [], []⟩, ⟨2, [1, 3, 5, 8, 13], [], [], [], []⟩, ⟨3, [20], [], [], [], []⟩, ⟨4, [6, 7], [], [], [], []⟩, ⟨5, [6, 7], [], [], [], []⟩, ⟨6, [1, 3, 5, 8, 21], [], [], [], []⟩, ⟨7, [6, 7], [], [], [], []⟩, ⟨8, [3, 5, 9], [], [], [], []⟩, ⟨9, [3, 5, 9, 67], [], [], [], []⟩, ⟨10, [6, 7], [], [], [], []⟩, ⟨11, [6, 7], [], [], [], []⟩]
noncomputable def F110 : IFn := ⟨3, 80, c110, [⟨6, none⟩, ⟨7, none⟩]⟩
theorem is110 : compFn Try.prog h110 Try.f110 = some F110 := by kernel_rfl

/-- saleroom/saleroomref23.Fits -/
noncomputable def c111 : IR :=
 (.seq (.region 0 false 1 [
   ⟨0, 0, (some 2), .box 27 (.tmp 0), none⟩,
   ⟨1, 1, (some 4), .mov (.const (.bool false)), none⟩] [] [1, 2] [] [])
 (.seq (.region 1 false 2 [
   ⟨0, 0, (some 5), .alloc [(.int .i64 0), (.int .i64 0), (.int .i64 0), (.int .i64 0), (.int .i64 0), (.int .i64 0)] 23 false, none⟩,
   ⟨1, 1, (some 6), .alloc [(.int .i64 0), (.int .i64 0), (.int .i64 0), (.int .i64 0), (.int .i64 0), (.int .i64 0)] 23 false, none⟩] [] [1, 2, 5, 6] [] [])
 (.seq (.seq (.region 2 false 0 [
   ⟨0, 0, (some 7), .mov (.const (.int .i64 0)), none⟩] [] [1, 2, 5, 6, 7] [] [])
 (.block 0
  (.loop
   (.seq (.seq (.region 3 false 0 [
     ⟨0, 0, (some 11), .mov (.tmp 7), none⟩,
     ⟨1, 0, (some 12), .mov (.tmp 1), none⟩,
     ⟨2, 0, (some 13), .len 0 (.tmp 12), none⟩,
     ⟨3, 0, (some 14), .bin .lss (.tmp 11) (.tmp 13), none⟩] [] [1, 2, 5, 6, 7, 14] [] [])
   (.cond (.tmp 14)
    .skip
    (.exit 0)))
   (.seq (.block 1
    (.seq (.region 5 true 1 [
      ⟨0, 0, (some 17), .fieldA 19 (.tmp 2), none⟩,
      ⟨1, 0, (some 18), .load none (.tmp 17), none⟩,
      ⟨2, 0, (some 19), .mov (.tmp 1), none⟩,
      ⟨3, 0, (some 20), .mov (.tmp 7), none⟩,
      ⟨4, 0, (some 21), .idxS 1 (.tmp 19) (.tmp 20), none⟩,
      ⟨5, 0, (some 22), .load none (.tmp 21), none⟩,
      ⟨6, 0, (some 23), .idxS 8 (.tmp 18) (.tmp 22), none⟩,
      ⟨7, 0, (some 24), .load (some 8) (.tmp 23), none⟩,
      ⟨8, 0, (some 8), .alloc [(.int .i64 0), (.int .i64 0), (.int .i64 0), (.int .i64 0), (.int .i64 0), (.int .i64 0), (.int .i64 0), (.int .i64 0)] 43 false, none⟩,
      ⟨9, 1, none, .store 8 (.tmp 8) (.tmp 24), none⟩] [(1, 8), (4, 8), (5, 8), (6, 8), (7, 8)] [1, 2, 5, 6, 7, 8] [] [])
    (.seq (.seq (.region 6 false 0 [
      ⟨0, 0, (some 9), .mov (.const (.int .i64 0)), none⟩] [] [1, 2, 5, 6, 7, 8, 9] [] [])
    (.block 2
     (.loop
      (.seq (.seq (.region 7 false 0 [
        ⟨0, 0, (some 25), .mov (.tmp 9), none⟩,
        ⟨1, 0, (some 26), .mov (.tmp 7), none⟩,
        ⟨2, 0, (some 27), .bin .lss (.tmp 25) (.tmp 26), none⟩] [] [1, 2, 5, 6, 7, 8, 9, 27] [] [])
      (.cond (.tmp 27)
       .skip
       (.exit 2)))
      (.seq (.block 3
       (.seq (.region 9 true 0 [
         ⟨0, 0, (some 30), .fieldA 19 (.tmp 2), none⟩,
         ⟨1, 0, (some 31), .load none (.tmp 30), none⟩,
         ⟨2, 0, (some 32), .mov (.tmp 1), none⟩,
         ⟨3, 0, (some 33), .mov (.tmp 9), none⟩,
         ⟨4, 0, (some 34), .idxS 1 (.tmp 32) (.tmp 33), none⟩,
         ⟨5, 0, (some 35), .load none (.tmp 34), none⟩,
         ⟨6, 0, (some 36), .idxS 8 (.tmp 31) (.tmp 35), none⟩,
         ⟨7, 0, (some 37), .fieldA 0 (.tmp 36), none⟩,
         ⟨8, 0, (some 38), .load none (.tmp 37), none⟩,
         ⟨9, 0, (some 39), .fieldA 0 (.tmp 8), none⟩,
         ⟨10, 0, (some 40), .load none (.tmp 39), none⟩,
         ⟨11, 0, (some 41), .bin .eql (.tmp 38) (.tmp 40), none⟩] [] [1, 2, 5, 6, 7, 8, 9, 41] [] [])
       (.cond (.tmp 41)
        (.seq (.region 10 false 0 [
          ⟨0, 0, (some 4), .mov (.const (.bool false)), none⟩] [] [4] [] [])
        .ret)
        .skip)))
      (.region 8 false 0 [
        ⟨0, 0, (some 28), .mov (.tmp 9), none⟩,
        ⟨1, 0, (some 29), .bin .add (.tmp 28) (.const (.int .i64 1)), none⟩,
        ⟨2, 0, (some 9), .mov (.tmp 29), none⟩] [] [1, 2, 5, 6, 7, 8, 9] [] []))))))
    (.seq (.region 11 false 0 [
      ⟨0, 0, (some 10), .mov (.const (.int .i64 0)), none⟩] [] [1, 2, 5, 6, 7, 8, 10] [] [])
    (.block 4
     (.loop
      (.seq (.seq (.region 12 false 0 [
        ⟨0, 0, (some 42), .mov (.tmp 10), none⟩,
        ⟨1, 0, (some 43), .bin .lss (.tmp 42) (.const (.int .i64 6)), none⟩] [] [1, 2, 5, 6, 7, 8, 10, 43] [] [])
      (.cond (.tmp 43)
       .skip
       (.exit 4)))
      (.seq (.block 5
       (.seq (.region 14 true 0 [
         ⟨0, 0, (some 46), .mov (.tmp 10), none⟩,
         ⟨1, 0, (some 47), .mov (.tmp 10), none⟩,
         ⟨2, 0, (some 48), .idxA 6 1 (.tmp 5) (.tmp 47), none⟩,
         ⟨3, 0, (some 49), .load none (.tmp 48), none⟩,
         ⟨4, 0, (some 50), .mov (.tmp 10), none⟩,
         ⟨5, 0, (some 51), .fieldA 1 (.tmp 8), none⟩,
         ⟨6, 0, (some 52), .idxA 6 1 (.tmp 51) (.tmp 50), none⟩,
         ⟨7, 0, (some 53), .load none (.tmp 52), none⟩,
         ⟨8, 0, (some 54), .bin .add (.tmp 49) (.tmp 53), none⟩,
         ⟨9, 0, (some 55), .idxA 6 1 (.tmp 5) (.tmp 46), none⟩,
         ⟨10, 0, none, .store 1 (.tmp 55) (.tmp 54), none⟩] [] [1, 2, 5, 6, 7, 8, 10] [] [])
       (.seq (.seq (.region 15 true 0 [
         ⟨0, 0, (some 56), .mov (.tmp 10), none⟩,
         ⟨1, 0, (some 57), .fieldA 12 (.tmp 2), none⟩,
         ⟨2, 0, (some 58), .idxA 6 1 (.tmp 57) (.tmp 56), none⟩,
         ⟨3, 0, (some 59), .load none (.tmp 58), none⟩,
         ⟨4, 0, (some 60), .bin .neq (.tmp 59) (.const (.int .i64 0)), none⟩,
         ⟨5, 0, (some 61), .mov (.tmp 60), none⟩,
         ⟨6, 0, (some 62), .mov (.tmp 10), (some ((some 61), true))⟩,
         ⟨7, 0, (some 63), .fieldA 12 (.tmp 2), (some ((some 61), true))⟩,
         ⟨8, 0, (some 64), .idxA 6 1 (.tmp 63) (.tmp 62), (some ((some 61), true))⟩,
         ⟨9, 0, (some 65), .load none (.tmp 64), (some ((some 61), true))⟩,
         ⟨10, 0, (some 66), .fieldA 18 (.tmp 2), (some ((some 61), true))⟩,
         ⟨11, 0, (some 67), .load none (.tmp 66), (some ((some 61), true))⟩,
         ⟨12, 0, (some 68), .fieldA 0 (.tmp 8), (some ((some 61), true))⟩,
         ⟨13, 0, (some 69), .load none (.tmp 68), (some ((some 61), true))⟩,
         ⟨14, 0, (some 70), .idxS 1 (.tmp 67) (.tmp 69), (some ((some 61), true))⟩,
         ⟨15, 0, (some 71), .load none (.tmp 70), (some ((some 61), true))⟩,
         ⟨16, 0, (some 72), .bin .neq (.tmp 65) (.tmp 71), (some ((some 61), true))⟩,
         ⟨17, 0, (some 73), .pick (.tmp 61) (.tmp 72) (.const (.bool false)), none⟩] [] [1, 2, 5, 6, 7, 8, 10, 73] [] [])
       (.cond (.tmp 73)
        (.region 16 true 0 [
          ⟨0, 0, (some 74), .mov (.tmp 10), none⟩,
          ⟨1, 0, (some 75), .mov (.tmp 10), none⟩,
          ⟨2, 0, (some 76), .idxA 6 1 (.tmp 6) (.tmp 75), none⟩,
          ⟨3, 0, (some 77), .load none (.tmp 76), none⟩,
          ⟨4, 0, (some 78), .mov (.tmp 10), none⟩,
          ⟨5, 0, (some 79), .fieldA 1 (.tmp 8), none⟩,
          ⟨6, 0, (some 80), .idxA 6 1 (.tmp 79) (.tmp 78), none⟩,
          ⟨7, 0, (some 81), .load none (.tmp 80), none⟩,
          ⟨8, 0, (some 82), .bin .add (.tmp 77) (.tmp 81), none⟩,
          ⟨9, 0, (some 83), .idxA 6 1 (.tmp 6) (.tmp 74), none⟩,
          ⟨10, 0, none, .store 1 (.tmp 83) (.tmp 82), none⟩] [] [1, 2, 5, 6, 7, 8, 10] [] [])
        .skip))
       (.seq (.region 17 true 0 [
         ⟨0, 0, (some 84), .mov (.tmp 10), none⟩,
         ⟨1, 0, (some 85), .idxA 6 1 (.tmp 5) (.tmp 84), none⟩,
         ⟨2, 0, (some 86), .load none (.tmp 85), none⟩,
         ⟨3, 0, (some 87), .mov (.tmp 10), none⟩,
         ⟨4, 0, (some 88), .fieldA 0 (.tmp 2), none⟩,
         ⟨5, 0, (some 89), .idxA 6 1 (.tmp 88) (.tmp 87), none⟩,
         ⟨6, 0, (some 90), .load none (.tmp 89), none⟩,
         ⟨7, 0, (some 91), .bin .gtr (.tmp 86) (.tmp 90), none⟩,
         ⟨8, 0, (some 92), .mov (.tmp 91), none⟩,
         ⟨9, 0, (some 93), .mov (.tmp 10), (some ((some 92), false))⟩,
         ⟨10, 0, (some 94), .idxA 6 1 (.tmp 6) (.tmp 93), (some ((some 92), false))⟩,
         ⟨11, 0, (some 95), .load none (.tmp 94), (some ((some 92), false))⟩,
         ⟨12, 0, (some 96), .mov (.tmp 10), (some ((some 92), false))⟩,
         ⟨13, 0, (some 97), .fieldA 6 (.tmp 2), (some ((some 92), false))⟩,
         ⟨14, 0, (some 98), .idxA 6 1 (.tmp 97) (.tmp 96), (some ((some 92), false))⟩,
         ⟨15, 0, (some 99), .load none (.tmp 98), (some ((some 92), false))⟩,
         ⟨16, 0, (some 100), .bin .gtr (.tmp 95) (.tmp 99), (some ((some 92), false))⟩,
         ⟨17, 0, (some 101), .pick (.tmp 92) (.const (.bool true)) (.tmp 100), none⟩] [] [1, 2, 5, 6, 7, 8, 10, 101] [] [])
       (.cond (.tmp 101)
        (.seq (.region 18 false 0 [
          ⟨0, 0, (some 4), .mov (.const (.bool false)), none⟩] [] [4] [] [])
        .ret)
        .skip)))))
      (.region 13 false 0 [
        ⟨0, 0, (some 44), .mov (.tmp 10), none⟩,
        ⟨1, 0, (some 45), .bin .add (.tmp 44) (.const (.int .i64 1)), none⟩,
        ⟨2, 0, (some 10), .mov (.tmp 45), none⟩] [] [1, 2, 5, 6, 7, 8, 10] [] [])))))))))
   (.region 4 false 0 [
     ⟨0, 0, (some 15), .mov (.tmp 7), none⟩,
     ⟨1, 0, (some 16), .bin .add (.tmp 15) (.const (.int .i64 1)), none⟩,
     ⟨2, 0, (some 7), .mov (.tmp 16), none⟩] [] [1, 2, 5, 6, 7] [] []))))))
 (.seq (.region 19 false 0 [
   ⟨0, 0, (some 4), .mov (.const (.bool true)), none⟩] [] [4] [] [])
 .ret))))
noncomputable def h111 : List RH := [⟨0, [1, 2], [], [], [], []⟩, ⟨1, [1, 2, 5, 6], [], [], [], []⟩, ⟨2, [1, 2, 5, 6, 7], [], [], [], []⟩, ⟨3, [1, 2, 5, 6, 7, 14], [], [], [], []⟩, ⟨5, [1, 2, 5, 6, 7, 8], [], [], [], []⟩, ⟨6, [1, 2, 5, 6, 7, 8, 9], [], [], [], []⟩, ⟨7, [1, 2, 5, 6, 7, 8, 9, 27], [], [], [], []⟩, ⟨9, [1, 2, 5, 6, 7, 8, 9, 41], [], [], [], []⟩, ⟨10, [4], [], [], [], []⟩, ⟨8, [1, 2, 5, 6, 7, 8, 9], [], [], [], []⟩, ⟨11, [1, 2, 5, 6, 7, 8, 10], [], [], [], []⟩, ⟨12, [1, 2, 5, 6, 7, 8, 10, 43], [], [], [], []⟩, ⟨14, [1, 2, 5, 6, 7, 8, 10], [], [], [], []⟩, ⟨15, [1, 2, 5, 6, 7, 8, 10, 73], [], [], [], []⟩, ⟨16, [1, 2, 5, 6, 7, 8, 10], [], [], [], []⟩, ⟨17, [1, 2, 5, 6, 7, 8, 10, 101], [], [], [], []⟩, ⟨18, [4], [], [], [], []⟩, ⟨13, [1, 2, 5, 6, 7, 8, 10], [], [], [], []⟩, ⟨4, [1, 2, 5, 6, 7], [], [], [], []⟩, ⟨19, [4], [], [], [], []⟩]
noncomputable def F111 : IFn := ⟨2, 102, c111, [⟨4, none⟩]⟩
theorem is111 : compFn Try.prog h111 Try.f111 = some F111 := by kernel_rfl

/-- saleroom/coalition.fault -/
noncomputable def c112 : IR :=
 (.seq (.region 0 false 1 [
   ⟨0, 0, (some 2), .box 27 (.tmp 0), none⟩,
   ⟨1, 1, (some 4), .mov (.const (.int .i64 0)), none⟩] [] [1, 2] [] [])
 (.seq (.seq (.region 1 false 0 [
   ⟨0, 0, (some 6), .load (some 20) (.tmp 2), none⟩,
   ⟨1, 0, (some 7), .call 79 [(.tmp 6)] false, none⟩,
   ⟨2, 0, (some 5), .mov (.tmp 7), none⟩] [] [1, 2, 5] [] [])
 (.seq (.region 2 false 0 [
   ⟨0, 0, (some 8), .mov (.tmp 5), none⟩,
   ⟨1, 0, (some 9), .bin .neq (.tmp 8) (.const (.int .i64 0)), none⟩] [] [1, 2, 5, 9] [] [])
 (.cond (.tmp 9)
  (.seq (.region 3 false 0 [
    ⟨0, 0, (some 10), .mov (.tmp 5), none⟩,
    ⟨1, 0, (some 4), .mov (.tmp 10), none⟩] [] [4] [] [])
  .ret)
  .skip)))
 (.seq (.seq (.region 4 false 0 [
   ⟨0, 0, (some 11), .mov (.tmp 1), none⟩,
   ⟨1, 0, (some 12), .bin .lss (.tmp 11) (.const (.int .i64 0)), none⟩,
   ⟨2, 0, (some 13), .mov (.tmp 12), none⟩,
   ⟨3, 0, (some 14), .mov (.tmp 1), (some ((some 13), false))⟩,
   ⟨4, 0, (some 15), .fieldA 18 (.tmp 2), (some ((some 13), false))⟩,
   ⟨5, 0, (some 16), .load none (.tmp 15), (some ((some 13), false))⟩,
   ⟨6, 0, (some 17), .len 0 (.tmp 16), (some ((some 13), false))⟩,
   ⟨7, 0, (some 18), .bin .shl (.const (.int .i64 1)) (.tmp 17), (some ((some 13), false))⟩,
   ⟨8, 0, (some 19), .bin .geq (.tmp 14) (.tmp 18), (some ((some 13), false))⟩,
   ⟨9, 0, (some 20), .pick (.tmp 13) (.const (.bool true)) (.tmp 19), none⟩] [] [20] [] [])
 (.cond (.tmp 20)
  (.seq (.region 5 false 0 [
    ⟨0, 0, (some 4), .mov (.const (.int .i64 4)), none⟩] [] [4] [] [])
  .ret)
  .skip))
 (.seq (.region 6 false 0 [
   ⟨0, 0, (some 4), .mov (.const (.int .i64 0)), none⟩] [] [4] [] [])
 .ret))))
noncomputable def h112 : List RH := [⟨0, [1, 2], [], [], [], []⟩, ⟨1, [1, 2, 5], [], [], [], []⟩, ⟨2, [1, 2, 5, 9], [], [], [], []⟩, ⟨3, [4], [], [], [], []⟩, ⟨4, [20], [], [], [], []⟩, ⟨5, [4], [], [], [], []⟩, ⟨6, [4], [], [], [], []⟩]
noncomputable def F112 : IFn := ⟨2, 21, c112, [⟨4, none⟩]⟩
theorem is112 : compFn Try.prog h112 Try.f112 = some F112 := by kernel_rfl

/-- saleroom/coalition.newSolver -/
noncomputable def c113 : IR :=
 (.seq (.region 0 false 1 [
   ⟨0, 0, (some 1), .box 27 (.tmp 0), none⟩,
   ⟨1, 1, (some 2), .mov (.const (.pointer none)), none⟩] [] [1] [] [])
 (.seq (.region 1 false 2 [
   ⟨0, 0, (some 6), .load (some 20) (.tmp 1), none⟩,
   ⟨1, 0, (some 7), .mkmap ([0, 0, 0, 0, 0, 0, 0, 0, 0, 0, 0, 0, 0], true) true, none⟩,
   ⟨2, 1, (some 8), .build [(.int .i64 0), (.int .i64 0), (.int .i64 0), (.int .i64 0), (.int .i64 0), (.int .i64 0), (.int .i64 0), (.int .i64 0), (.int .i64 0), (.int .i64 0), (.int .i64 0), (.int .i64 0), (.int .i64 0), (.int .i64 0), (.int .i64 0), (.int .i64 0), (.int .i64 0), (.int .i64 0), (.slice none 0 0), (.slice none 0 0), (.slice none 0 0), (.slice none 0 0), (.slice none 0 0), (.slice none 0 0), (.slice none 0 0), (.slice none 0 0), (.slice none 0 0), (.slice none 0 0), (.map none)] [(0, 20, (.tmp 6)), (28, 1, (.tmp 7))], none⟩,
   ⟨3, 1, (some 9), .box 174 (.tmp 8), none⟩,
   ⟨4, 2, (some 3), .mov (.tmp 9), none⟩] [] [1, 3] [] [⟨true, 3, (some 20), 43, 8, true⟩, ⟨true, 3, (some 21), 43, 8, true⟩, ⟨true, 3, (some 22), 43, 8, true⟩, ⟨true, 3, (some 23), 43, 8, true⟩, ⟨true, 3, (some 24), 43, 8, true⟩, ⟨true, 3, (some 25), 43, 8, true⟩, ⟨true, 3, (some 26), 43, 8, true⟩, ⟨true, 3, (some 27), 43, 8, true⟩])
 (.seq (.seq (.region 2 false 0 [
   ⟨0, 0, (some 10), .fieldA 19 (.tmp 1), none⟩,
   ⟨1, 0, (some 11), .load none (.tmp 10), none⟩,
   ⟨2, 0, (some 12), .len 0 (.tmp 11), none⟩,
   ⟨3, 0, (some 13), .mov (.const (.int .i64 0)), none⟩] [] [3, 11, 12, 13] [] [])
 (.block 0
  (.loop
   (.seq (.region 3 false 0 [
     ⟨0, 0, (some 14), .bin .lss (.tmp 13) (.tmp 12), none⟩] [] [3, 11, 12, 13, 14] [] [])
   (.seq (.cond (.tmp 14)
    .skip
    (.exit 0))
   (.seq (.block 1
    (.seq (.region 4 false 1 [
      ⟨0, 0, (some 15), .idxS 8 (.tmp 11) (.tmp 13), none⟩,
      ⟨1, 0, (some 16), .load (some 8) (.tmp 15), none⟩,
      ⟨2, 0, (some 5), .alloc [(.int .i64 0), (.int .i64 0), (.int .i64 0), (.int .i64 0), (.int .i64 0), (.int .i64 0), (.int .i64 0), (.int .i64 0)] 43 false, none⟩,
      ⟨3, 1, none, .store 8 (.tmp 5) (.tmp 16), none⟩] [] [3, 5, 11, 12, 13] [] [])
    (.region 5 true 2 [
      ⟨0, 0, (some 17), .mov (.tmp 3), none⟩,
      ⟨1, 0, (some 18), .fieldA 0 (.tmp 5), none⟩,
      ⟨2, 0, (some 19), .load none (.tmp 18), none⟩,
      ⟨3, 0, (some 20), .mov (.tmp 3), none⟩,
      ⟨4, 0, (some 21), .fieldA 0 (.tmp 5), none⟩,
      ⟨5, 0, (some 22), .load none (.tmp 21), none⟩,
      ⟨6, 0, (some 23), .nilc (.tmp 20), none⟩,
      ⟨7, 0, (some 24), .fieldA 20 (.tmp 23), none⟩,
      ⟨8, 0, (some 25), .idxA 8 1 (.tmp 24) (.tmp 22), none⟩,
      ⟨9, 0, (some 26), .load none (.tmp 25), none⟩,
      ⟨10, 0, (some 27), .load (some 8) (.tmp 5), none⟩,
      ⟨11, 0, (some 28), .mkrow [(.int .i64 0), (.int .i64 0), (.int .i64 0), (.int .i64 0), (.int .i64 0), (.int .i64 0), (.int .i64 0), (.int .i64 0)] 1 [(0, (.tmp 27))] 43 8, none⟩,
      ⟨12, 1, (some 29), .append 43 8 64 (.tmp 26) (.tmp 28) true, none⟩,
      ⟨13, 2, (some 30), .nilc (.tmp 17), none⟩,
      ⟨14, 2, (some 31), .fieldA 20 (.tmp 30), none⟩,
      ⟨15, 2, (some 32), .idxA 8 1 (.tmp 31) (.tmp 19), none⟩,
      ⟨16, 2, none, .store 1 (.tmp 32) (.tmp 29), none⟩] [(2, 11), (2, 12), (5, 11), (9, 11)] [3, 11, 12, 13] [] [])))
   (.region 6 false 0 [
     ⟨0, 0, (some 33), .bin .add (.tmp 13) (.const (.int .i64 1)), none⟩,
     ⟨1, 0, (some 13), .mov (.tmp 33), none⟩] [] [3, 11, 12, 13] [] [])))))))
 (.seq (.region 7 false 0 [
   ⟨0, 0, (some 34), .mov (.tmp 3), none⟩,
   ⟨1, 0, (some 2), .mov (.tmp 34), none⟩] [] [2] [] [])
 .ret))))
noncomputable def h113 : List RH := [⟨0, [1], [], [], [], []⟩, ⟨1, [1, 3], [], [1], [], [⟨true, 3, (some 20), 43, 8, true⟩, ⟨true, 3, (some 21), 43, 8, true⟩, ⟨true, 3, (some 22), 43, 8, true⟩, ⟨true, 3, (some 23), 43, 8, true⟩, ⟨true, 3, (some 24), 43, 8, true⟩, ⟨true, 3, (some 25), 43, 8, true⟩, ⟨true, 3, (some 26), 43, 8, true⟩, ⟨true, 3, (some 27), 43, 8, true⟩]⟩, ⟨2, [3, 11, 12, 13], [], [], [], []⟩, ⟨3, [3, 11, 12, 13, 14], [], [], [], []⟩, ⟨4, [3, 5, 11, 12, 13], [], [], [], []⟩, ⟨5, [3, 11, 12, 13], [], [12], [], []⟩, ⟨6, [3, 11, 12, 13], [], [], [], []⟩, ⟨7, [2], [], [], [], []⟩]
noncomputable def F113 : IFn := ⟨1, 35, c113, [⟨2, none⟩]⟩
theorem is113 : compFn Try.prog h113 Try.f113 = some F113 := by kernel_rfl

/-- (*saleroom/coalition.solver).start -/
noncomputable def c114 : IR :=
 (.seq (.region 0 false 1 [
   ⟨0, 0, (some 4), .alloc [(.int .i64 0), (.int .i64 0), (.int .i64 0), (.int .i64 0), (.int .i64 0), (.int .i64 0), (.int .i64 0), (.int .i64 0), (.int .i64 0), (.int .i64 0), (.int .i64 0), (.int .i64 0), (.int .i64 0)] 141 false, none⟩] [] [0, 1, 4] [] [])
 (.seq (.region 1 true 0 [
   ⟨0, 0, (some 5), .mov (.tmp 1), none⟩,
   ⟨1, 0, (some 6), .mov (.tmp 0), none⟩,
   ⟨2, 0, (some 7), .nilc (.tmp 6), none⟩,
   ⟨3, 0, (some 8), .fieldA 0 (.tmp 7), none⟩,
   ⟨4, 0, (some 9), .fieldA 0 (.tmp 8), none⟩,
   ⟨5, 0, (some 10), .load (some 6) (.tmp 9), none⟩,
   ⟨6, 0, (some 11), .mov (.tmp 0), none⟩,
   ⟨7, 0, (some 12), .nilc (.tmp 11), none⟩,
   ⟨8, 0, (some 13), .fieldA 0 (.tmp 12), none⟩,
   ⟨9, 0, (some 14), .fieldA 6 (.tmp 13), none⟩,
   ⟨10, 0, (some 15), .load (some 6) (.tmp 14), none⟩,
   ⟨11, 0, (some 16), .build [(.int .i64 0), (.int .i64 0), (.int .i64 0), (.int .i64 0), (.int .i64 0), (.int .i64 0), (.int .i64 0), (.int .i64 0), (.int .i64 0), (.int .i64 0), (.int .i64 0), (.int .i64 0), (.int .i64 0)] [(0, 1, (.tmp 5)), (1, 6, (.tmp 10)), (7, 6, (.tmp 15))], none⟩,
   ⟨12, 0, none, .store 13 (.tmp 4) (.tmp 16), none⟩] [] [4] [] [])
 .ret))
noncomputable def h114 : List RH := [⟨0, [0, 1, 4], [], [], [], []⟩, ⟨1, [4], [], [], [], []⟩]
noncomputable def F114 : IFn := ⟨2, 17, c114, [⟨4, (some (some 13))⟩]⟩
theorem is114 : compFn Try.prog h114 Try.f114 = some F114 := by kernel_rfl

/-- (*saleroom/coalition.solver).best -/
noncomputable def c115 : IR :=
 (.seq (.region 0 false 1 [
   ⟨0, 0, (some 3), .box 141 (.tmp 1), none⟩,
   ⟨1, 1, (some 4), .mov (.const (.int .i64 0)), none⟩] [] [0, 3] [] [])
 (.seq (.seq (.region 1 false 0 [
   ⟨0, 0, (some 14), .fieldA 0 (.tmp 3), none⟩,
   ⟨1, 0, (some 15), .load none (.tmp 14), none⟩,
   ⟨2, 0, (some 16), .bin .eql (.tmp 15) (.const (.int .i64 0)), none⟩] [] [0, 3, 16] [] [])
 (.cond (.tmp 16)
  (.seq (.region 2 false 0 [
    ⟨0, 0, (some 4), .mov (.const (.int .i64 0)), none⟩] [] [4] [] [])
  .ret)
  .skip))
 (.seq (.seq (.region 3 true 0 [
   ⟨0, 0, (some 18), .mov (.tmp 0), none⟩,
   ⟨1, 0, (some 19), .nilc (.tmp 18), none⟩,
   ⟨2, 0, (some 20), .fieldA 28 (.tmp 19), none⟩,
   ⟨3, 0, (some 21), .load none (.tmp 20), none⟩,
   ⟨4, 0, (some 22), .load (some 13) (.tmp 3), none⟩,
   ⟨5, 0, (some 23), .lookup [(.int .i64 0)] false [0, 0, 0, 0, 0, 0, 0, 0, 0, 0, 0, 0, 0] true (.tmp 21) (.tmp 22) true, none⟩,
   ⟨6, 0, (some 17), .mov (.tmp 23), none⟩,
   ⟨7, 0, (some 24), .extract (.tmp 17) 0, none⟩,
   ⟨8, 0, (some 25), .extract (.tmp 17) 1, none⟩,
   ⟨9, 0, (some 5), .mov (.tmp 24), none⟩,
   ⟨10, 0, (some 6), .mov (.tmp 25), none⟩] [] [0, 3, 5, 6] [] [])
 (.seq (.region 4 false 0 [
   ⟨0, 0, (some 26), .mov (.tmp 6), none⟩] [] [0, 3, 5, 26] [] [])
 (.cond (.tmp 26)
  (.seq (.region 5 false 0 [
    ⟨0, 0, (some 27), .mov (.tmp 5), none⟩,
    ⟨1, 0, (some 4), .mov (.tmp 27), none⟩] [] [4] [] [])
  .ret)
  .skip)))
 (.seq (.region 6 false 0 [
   ⟨0, 0, (some 7), .mov (.const (.int .i64 0)), none⟩] [] [0, 3, 7] [] [])
 (.seq (.block 0
  (.loop
   (.seq (.seq (.region 7 false 0 [
     ⟨0, 0, (some 28), .fieldA 0 (.tmp 3), none⟩,
     ⟨1, 0, (some 29), .load none (.tmp 28), none⟩,
     ⟨2, 0, (some 30), .mov (.tmp 7), none⟩,
     ⟨3, 0, (some 31), .bin .shr (.tmp 29) (.tmp 30), none⟩,
     ⟨4, 0, (some 32), .bin .and (.tmp 31) (.const (.int .i64 1)), none⟩,
     ⟨5, 0, (some 33), .bin .eql (.tmp 32) (.const (.int .i64 0)), none⟩] [] [0, 3, 7, 33] [] [])
   (.cond (.tmp 33)
    .skip
    (.exit 0)))
   (.block 1
    (.region 8 false 0 [
      ⟨0, 0, (some 34), .mov (.tmp 7), none⟩,
      ⟨1, 0, (some 35), .bin .add (.tmp 34) (.const (.int .i64 1)), none⟩,
      ⟨2, 0, (some 7), .mov (.tmp 35), none⟩] [] [0, 3, 7] [] [])))))
 (.seq (.region 9 false 1 [
   ⟨0, 0, (some 36), .load (some 13) (.tmp 3), none⟩,
   ⟨1, 0, (some 8), .alloc [(.int .i64 0), (.int .i64 0), (.int .i64 0), (.int .i64 0), (.int .i64 0), (.int .i64 0), (.int .i64 0), (.int .i64 0), (.int .i64 0), (.int .i64 0), (.int .i64 0), (.int .i64 0), (.int .i64 0)] 141 false, none⟩,
   ⟨2, 1, none, .store 13 (.tmp 8) (.tmp 36), none⟩] [] [0, 3, 7, 8] [] [])
 (.seq (.region 10 true 0 [
   ⟨0, 0, (some 37), .fieldA 0 (.tmp 8), none⟩,
   ⟨1, 0, (some 38), .load none (.tmp 37), none⟩,
   ⟨2, 0, (some 39), .mov (.tmp 7), none⟩,
   ⟨3, 0, (some 40), .bin .shl (.const (.int .i64 1)) (.tmp 39), none⟩,
   ⟨4, 0, (some 41), .bin .andNot (.tmp 38) (.tmp 40), none⟩,
   ⟨5, 0, (some 42), .fieldA 0 (.tmp 8), none⟩,
   ⟨6, 0, none, .store 1 (.tmp 42) (.tmp 41), none⟩] [] [0, 3, 7, 8] [] [])
 (.seq (.region 11 false 0 [
   ⟨0, 0, (some 43), .mov (.tmp 0), none⟩,
   ⟨1, 0, (some 44), .load (some 13) (.tmp 8), none⟩,
   ⟨2, 0, (some 45), .call 115 [(.tmp 43), (.tmp 44)] true, none⟩,
   ⟨3, 0, (some 9), .mov (.tmp 45), none⟩] [] [0, 3, 7, 9] [] [])
 (.seq (.seq (.region 12 false 0 [
   ⟨0, 0, (some 46), .mov (.tmp 0), none⟩,
   ⟨1, 0, (some 47), .mov (.tmp 7), none⟩,
   ⟨2, 0, (some 48), .nilc (.tmp 46), none⟩,
   ⟨3, 0, (some 49), .fieldA 20 (.tmp 48), none⟩,
   ⟨4, 0, (some 50), .idxA 8 1 (.tmp 49) (.tmp 47), none⟩,
   ⟨5, 0, (some 51), .load none (.tmp 50), none⟩,
   ⟨6, 0, (some 52), .len 0 (.tmp 51), none⟩,
   ⟨7, 0, (some 53), .mov (.const (.int .i64 0)), none⟩] [] [0, 3, 9, 51, 52, 53] [] [])
 (.block 2
  (.loop
   (.seq (.region 13 false 0 [
     ⟨0, 0, (some 54), .bin .lss (.tmp 53) (.tmp 52), none⟩] [] [0, 3, 9, 51, 52, 53, 54] [] [])
   (.seq (.cond (.tmp 54)
    .skip
    (.exit 2))
   (.seq (.block 3
    (.seq (.region 14 false 1 [
      ⟨0, 0, (some 55), .idxS 8 (.tmp 51) (.tmp 53), none⟩,
      ⟨1, 0, (some 56), .load (some 8) (.tmp 55), none⟩,
      ⟨2, 0, (some 11), .alloc [(.int .i64 0), (.int .i64 0), (.int .i64 0), (.int .i64 0), (.int .i64 0), (.int .i64 0), (.int .i64 0), (.int .i64 0)] 43 false, none⟩,
      ⟨3, 1, none, .store 8 (.tmp 11) (.tmp 56), none⟩] [] [0, 3, 9, 11, 51, 52, 53] [] [])
    (.seq (.region 15 false 1 [
      ⟨0, 0, (some 58), .mov (.tmp 0), none⟩,
      ⟨1, 0, (some 59), .load (some 13) (.tmp 3), none⟩,
      ⟨2, 0, (some 60), .load (some 8) (.tmp 11), none⟩,
      ⟨3, 0, (some 61), .call 116 [(.tmp 58), (.tmp 59), (.tmp 60)] true, none⟩,
      ⟨4, 0, (some 57), .mov (.tmp 61), none⟩,
      ⟨5, 0, (some 62), .extract (.tmp 57) 0, none⟩,
      ⟨6, 0, (some 63), .extract (.tmp 57) 1, none⟩,
      ⟨7, 0, (some 12), .alloc [(.int .i64 0), (.int .i64 0), (.int .i64 0), (.int .i64 0), (.int .i64 0), (.int .i64 0), (.int .i64 0), (.int .i64 0), (.int .i64 0), (.int .i64 0), (.int .i64 0), (.int .i64 0), (.int .i64 0)] 141 false, none⟩,
      ⟨8, 1, none, .store 13 (.tmp 12) (.tmp 62), none⟩,
      ⟨9, 1, (some 13), .mov (.tmp 63), none⟩] [] [0, 3, 9, 11, 12, 13, 51, 52, 53] [] [])
    (.seq (.region 16 false 0 [
      ⟨0, 0, (some 64), .mov (.tmp 13), none⟩] [] [0, 3, 9, 11, 12, 51, 52, 53, 64] [] [])
    (.cond (.tmp 64)
     (.region 17 true 0 [
       ⟨0, 0, (some 65), .mov (.tmp 9), none⟩,
       ⟨1, 0, (some 66), .fieldA 7 (.tmp 11), none⟩,
       ⟨2, 0, (some 67), .load none (.tmp 66), none⟩,
       ⟨3, 0, (some 68), .mov (.tmp 0), none⟩,
       ⟨4, 0, (some 69), .load (some 13) (.tmp 12), none⟩,
       ⟨5, 0, (some 70), .call 115 [(.tmp 68), (.tmp 69)] true, none⟩,
       ⟨6, 0, (some 71), .bin .add (.tmp 67) (.tmp 70), none⟩,
       ⟨7, 0, (some 72), .mm true (.tmp 65) (.tmp 71), none⟩,
       ⟨8, 0, (some 9), .mov (.tmp 72), none⟩] [(2, 5)] [0, 3, 9, 51, 52, 53] [] [])
     .skip)))))
   (.region 18 false 0 [
     ⟨0, 0, (some 73), .bin .add (.tmp 53) (.const (.int .i64 1)), none⟩,
     ⟨1, 0, (some 53), .mov (.tmp 73), none⟩] [] [0, 3, 9, 51, 52, 53] [] [])))))))
 (.seq (.region 19 true 0 [
   ⟨0, 0, (some 74), .mov (.tmp 0), none⟩,
   ⟨1, 0, (some 75), .nilc (.tmp 74), none⟩,
   ⟨2, 0, (some 76), .fieldA 28 (.tmp 75), none⟩,
   ⟨3, 0, (some 77), .load none (.tmp 76), none⟩,
   ⟨4, 0, (some 78), .load (some 13) (.tmp 3), none⟩,
   ⟨5, 0, (some 79), .mov (.tmp 9), none⟩,
   ⟨6, 0, none, .mapset [0, 0, 0, 0, 0, 0, 0, 0, 0, 0, 0, 0, 0] true (.tmp 77) (.tmp 78) (.tmp 79), none⟩] [] [9] [] [])
 (.seq (.region 20 false 0 [
   ⟨0, 0, (some 80), .mov (.tmp 9), none⟩,
   ⟨1, 0, (some 4), .mov (.tmp 80), none⟩] [] [4] [] [])
 .ret)))))))))))
noncomputable def h115 : List RH := [⟨0, [0, 3], [], [], [], []⟩, ⟨1, [0, 3, 16], [], [], [], []⟩, ⟨2, [4], [], [], [], []⟩, ⟨3, [0, 3, 5, 6], [], [], [], []⟩, ⟨4, [0, 3, 5, 26], [], [], [], []⟩, ⟨5, [4], [], [], [], []⟩, ⟨6, [0, 3, 7], [], [], [], []⟩, ⟨7, [0, 3, 7, 33], [], [], [], []⟩, ⟨8, [0, 3, 7], [], [], [], []⟩, ⟨9, [0, 3, 7, 8], [], [], [], []⟩, ⟨10, [0, 3, 7, 8], [], [], [], []⟩, ⟨11, [0, 3, 7, 9], [], [2], [], []⟩, ⟨12, [0, 3, 9, 51, 52, 53], [], [], [], []⟩, ⟨13, [0, 3, 9, 51, 52, 53, 54], [], [], [], []⟩, ⟨14, [0, 3, 9, 11, 51, 52, 53], [], [], [], []⟩, ⟨15, [0, 3, 9, 11, 12, 13, 51, 52, 53], [], [3], [], []⟩, ⟨16, [0, 3, 9, 11, 12, 51, 52, 53, 64], [], [], [], []⟩, ⟨17, [0, 3, 9, 51, 52, 53], [], [5], [], []⟩, ⟨18, [0, 3, 9, 51, 52, 53], [], [], [], []⟩, ⟨19, [9], [], [], [], []⟩, ⟨20, [4], [], [], [], []⟩]
noncomputable def F115 : IFn := ⟨2, 81, c115, [⟨4, none⟩]⟩
theorem is115 : compFn Try.prog h115 Try.f115 = some F115 := by kernel_rfl

/-- (*saleroom/coalition.solver).after -/
noncomputable def c116 : IR :=
 (.seq (.region 0 false 3 [
   ⟨0, 0, (some 4), .box 141 (.tmp 1), none⟩,
   ⟨1, 1, (some 5), .box 43 (.tmp 2), none⟩,
   ⟨2, 2, (some 6), .alloc [(.int .i64 0), (.int .i64 0), (.int .i64 0), (.int .i64 0), (.int .i64 0), (.int .i64 0), (.int .i64 0), (.int .i64 0), (.int .i64 0), (.int .i64 0), (.int .i64 0), (.int .i64 0), (.int .i64 0)] 141 false, none⟩,
   ⟨3, 3, (some 7), .mov (.const (.bool false)), none⟩] [] [0, 4, 5, 6] [] [])
 (.seq (.region 1 false 1 [
   ⟨0, 0, (some 9), .mov (.tmp 0), none⟩,
   ⟨1, 0, (some 10), .load (some 8) (.tmp 5), none⟩,
   ⟨2, 0, (some 11), .call 143 [(.tmp 9), (.tmp 10)] true, none⟩,
   ⟨3, 0, (some 8), .alloc [(.int .i64 0), (.int .i64 0), (.int .i64 0), (.int .i64 0), (.int .i64 0), (.int .i64 0)] 23 false, none⟩,
   ⟨4, 1, none, .store 6 (.tmp 8) (.tmp 11), none⟩] [] [4, 5, 6, 8] [] [])
 (.seq (.seq (.region 2 false 0 [
   ⟨0, 0, (some 12), .fieldA 1 (.tmp 5), none⟩,
   ⟨1, 0, (some 13), .load (some 6) (.tmp 12), none⟩,
   ⟨2, 0, (some 14), .fieldA 1 (.tmp 4), none⟩,
   ⟨3, 0, (some 15), .load (some 6) (.tmp 14), none⟩,
   ⟨4, 0, (some 16), .call 144 [(.tmp 13), (.tmp 15)] false, none⟩,
   ⟨5, 0, (some 17), .un .not (.tmp 16), none⟩,
   ⟨6, 0, (some 18), .mov (.tmp 17), none⟩,
   ⟨7, 0, (some 19), .load (some 6) (.tmp 8), (some ((some 18), false))⟩,
   ⟨8, 0, (some 20), .fieldA 7 (.tmp 4), (some ((some 18), false))⟩,
   ⟨9, 0, (some 21), .load (some 6) (.tmp 20), (some ((some 18), false))⟩,
   ⟨10, 0, (some 22), .call 144 [(.tmp 19), (.tmp 21)] false, (some ((some 18), false))⟩,
   ⟨11, 0, (some 23), .un .not (.tmp 22), (some ((some 18), false))⟩,
   ⟨12, 0, (some 24), .pick (.tmp 18) (.const (.bool true)) (.tmp 23), none⟩] [] [4, 5, 6, 8, 24] [] [])
 (.cond (.tmp 24)
  (.seq (.region 3 false 0 [
    ⟨0, 0, (some 25), .build [(.int .i64 0), (.int .i64 0), (.int .i64 0), (.int .i64 0), (.int .i64 0), (.int .i64 0), (.int .i64 0), (.int .i64 0), (.int .i64 0), (.int .i64 0), (.int .i64 0), (.int .i64 0), (.int .i64 0)] [], none⟩,
    ⟨1, 0, none, .store 13 (.tmp 6) (.tmp 25), none⟩,
    ⟨2, 0, (some 7), .mov (.const (.bool false)), none⟩] [] [6, 7] [] [])
  .ret)
  .skip))
 (.seq (.region 4 true 0 [
   ⟨0, 0, (some 26), .fieldA 0 (.tmp 4), none⟩,
   ⟨1, 0, (some 27), .load none (.tmp 26), none⟩,
   ⟨2, 0, (some 28), .fieldA 0 (.tmp 5), none⟩,
   ⟨3, 0, (some 29), .load none (.tmp 28), none⟩,
   ⟨4, 0, (some 30), .bin .shl (.const (.int .i64 1)) (.tmp 29), none⟩,
   ⟨5, 0, (some 31), .bin .andNot (.tmp 27) (.tmp 30), none⟩,
   ⟨6, 0, (some 32), .fieldA 1 (.tmp 4), none⟩,
   ⟨7, 0, (some 33), .load (some 6) (.tmp 32), none⟩,
   ⟨8, 0, (some 34), .fieldA 1 (.tmp 5), none⟩,
   ⟨9, 0, (some 35), .load (some 6) (.tmp 34), none⟩,
   ⟨10, 0, (some 36), .call 145 [(.tmp 33), (.tmp 35)] false, none⟩,
   ⟨11, 0, (some 37), .fieldA 7 (.tmp 4), none⟩,
   ⟨12, 0, (some 38), .load (some 6) (.tmp 37), none⟩,
   ⟨13, 0, (some 39), .load (some 6) (.tmp 8), none⟩,
   ⟨14, 0, (some 40), .call 145 [(.tmp 38), (.tmp 39)] false, none⟩,
   ⟨15, 0, (some 41), .build [(.int .i64 0), (.int .i64 0), (.int .i64 0), (.int .i64 0), (.int .i64 0), (.int .i64 0), (.int .i64 0), (.int .i64 0), (.int .i64 0), (.int .i64 0), (.int .i64 0), (.int .i64 0), (.int .i64 0)] [(0, 1, (.tmp 31)), (1, 6, (.tmp 36)), (7, 6, (.tmp 40))], none⟩,
   ⟨16, 0, none, .store 13 (.tmp 6) (.tmp 41), none⟩,
   ⟨17, 0, (some 7), .mov (.const (.bool true)), none⟩] [] [6, 7] [] [])
 .ret))))
noncomputable def h116 : List RH := [⟨0, [0, 4, 5, 6], [], [], [], []⟩, ⟨1, [4, 5, 6, 8], [], [2], [], []⟩, ⟨2, [4, 5, 6, 8, 24], [], [], [], []⟩, ⟨3, [6, 7], [], [], [], []⟩, ⟨4, [6, 7], [], [], [], []⟩]
noncomputable def F116 : IFn := ⟨3, 42, c116, [⟨6, (some (some 13))⟩, ⟨7, none⟩]⟩
theorem is116 : compFn Try.prog h116 Try.f116 = some F116 := by kernel_rfl

/-- (saleroom/problem.view).frame -/
noncomputable def c118 : IR :=
 (.seq (.region 0 false 1 [
   ⟨0, 0, (some 1), .box 148 (.tmp 0), none⟩,
   ⟨1, 1, (some 2), .mov (.const (.int .i64 0)), none⟩] [] [1] [] [])
 (.seq (.seq (.region 1 false 0 [
   ⟨0, 0, (some 9), .fieldA 0 (.tmp 1), none⟩,
   ⟨1, 0, (some 10), .fieldA 0 (.tmp 9), none⟩,
   ⟨2, 0, (some 11), .load (some 6) (.tmp 10), none⟩,
   ⟨3, 0, (some 12), .call 146 [(.tmp 11)] false, none⟩,
   ⟨4, 0, (some 3), .mov (.tmp 12), none⟩] [] [1, 3] [] [])
 (.seq (.region 2 false 0 [
   ⟨0, 0, (some 13), .mov (.tmp 3), none⟩,
   ⟨1, 0, (some 14), .bin .neq (.tmp 13) (.const (.int .i64 0)), none⟩] [] [1, 3, 14] [] [])
 (.cond (.tmp 14)
  (.seq (.region 3 false 0 [
    ⟨0, 0, (some 15), .mov (.tmp 3), none⟩,
    ⟨1, 0, (some 2), .mov (.tmp 15), none⟩] [] [2] [] [])
  .ret)
  .skip)))
 (.seq (.seq (.region 4 false 0 [
   ⟨0, 0, (some 16), .mov (.const (.int .i64 0)), none⟩] [] [1, 16] [] [])
 (.block 0
  (.loop
   (.seq (.region 5 false 0 [
     ⟨0, 0, (some 17), .bin .lss (.tmp 16) (.const (.int .i64 6)), none⟩] [] [1, 16, 17] [] [])
   (.seq (.cond (.tmp 17)
    .skip
    (.exit 0))
   (.seq (.block 1
    (.seq (.region 6 false 0 [
      ⟨0, 0, (some 18), .mov (.tmp 16), none⟩,
      ⟨1, 0, (some 4), .mov (.tmp 18), none⟩] [] [1, 4, 16] [] [])
    (.seq (.region 7 true 0 [
      ⟨0, 0, (some 19), .mov (.tmp 4), none⟩,
      ⟨1, 0, (some 20), .fieldA 0 (.tmp 1), none⟩,
      ⟨2, 0, (some 21), .fieldA 6 (.tmp 20), none⟩,
      ⟨3, 0, (some 22), .idxA 6 1 (.tmp 21) (.tmp 19), none⟩,
      ⟨4, 0, (some 23), .load none (.tmp 22), none⟩,
      ⟨5, 0, (some 24), .mov (.tmp 4), none⟩,
      ⟨6, 0, (some 25), .fieldA 0 (.tmp 1), none⟩,
      ⟨7, 0, (some 26), .fieldA 12 (.tmp 25), none⟩,
      ⟨8, 0, (some 27), .idxA 6 1 (.tmp 26) (.tmp 24), none⟩,
      ⟨9, 0, (some 28), .load none (.tmp 27), none⟩,
      ⟨10, 0, (some 5), .mov (.tmp 23), none⟩,
      ⟨11, 0, (some 6), .mov (.tmp 28), none⟩] [] [1, 4, 5, 6, 16] [] [])
    (.seq (.region 8 false 0 [
      ⟨0, 0, (some 29), .mov (.tmp 6), none⟩,
      ⟨1, 0, (some 30), .bin .lss (.tmp 29) (.const (.int .i64 0)), none⟩,
      ⟨2, 0, (some 31), .mov (.tmp 30), none⟩,
      ⟨3, 0, (some 32), .mov (.tmp 6), (some ((some 31), false))⟩,
      ⟨4, 0, (some 33), .bin .gtr (.tmp 32) (.const (.int .i64 4)), (some ((some 31), false))⟩,
      ⟨5, 0, (some 34), .pick (.tmp 31) (.const (.bool true)) (.tmp 33), none⟩,
      ⟨6, 0, (some 35), .mov (.tmp 34), none⟩,
      ⟨7, 0, (some 36), .mov (.tmp 5), (some ((some 35), false))⟩,
      ⟨8, 0, (some 37), .bin .lss (.tmp 36) (.const (.int .i64 0)), (some ((some 35), false))⟩,
      ⟨9, 0, (some 38), .pick (.tmp 35) (.const (.bool true)) (.tmp 37), none⟩,
      ⟨10, 0, (some 39), .mov (.tmp 38), none⟩,
      ⟨11, 0, (some 40), .mov (.tmp 5), (some ((some 39), false))⟩,
      ⟨12, 0, (some 41), .mov (.tmp 4), (some ((some 39), false))⟩,
      ⟨13, 0, (some 42), .fieldA 0 (.tmp 1), (some ((some 39), false))⟩,
      ⟨14, 0, (some 43), .fieldA 0 (.tmp 42), (some ((some 39), false))⟩,
      ⟨15, 0, (some 44), .idxA 6 1 (.tmp 43) (.tmp 41), (some ((some 39), false))⟩,
      ⟨16, 0, (some 45), .load none (.tmp 44), (some ((some 39), false))⟩,
      ⟨17, 0, (some 46), .bin .gtr (.tmp 40) (.tmp 45), (some ((some 39), false))⟩,
      ⟨18, 0, (some 47), .pick (.tmp 39) (.const (.bool true)) (.tmp 46), none⟩,
      ⟨19, 0, (some 48), .mov (.tmp 47), none⟩,
      ⟨20, 0, (some 49), .mov (.tmp 6), (some ((some 48), false))⟩,
      ⟨21, 0, (some 50), .bin .eql (.tmp 49) (.const (.int .i64 0)), (some ((some 48), false))⟩,
      ⟨22, 0, (some 51), .mov (.tmp 50), (some ((some 48), false))⟩,
      ⟨23, 0, (some 52), .mov (.tmp 5), (some ((some 51), true))⟩,
      ⟨24, 0, (some 53), .mov (.tmp 4), (some ((some 51), true))⟩,
      ⟨25, 0, (some 54), .fieldA 0 (.tmp 1), (some ((some 51), true))⟩,
      ⟨26, 0, (some 55), .fieldA 0 (.tmp 54), (some ((some 51), true))⟩,
      ⟨27, 0, (some 56), .idxA 6 1 (.tmp 55) (.tmp 53), (some ((some 51), true))⟩,
      ⟨28, 0, (some 57), .load none (.tmp 56), (some ((some 51), true))⟩,
      ⟨29, 0, (some 58), .bin .neq (.tmp 52) (.tmp 57), (some ((some 51), true))⟩,
      ⟨30, 0, (some 59), .pick (.tmp 51) (.tmp 58) (.const (.bool false)), (some ((some 48), false))⟩,
      ⟨31, 0, (some 60), .pick (.tmp 48) (.const (.bool true)) (.tmp 59), none⟩] [] [1, 16, 60] [] [])
    (.cond (.tmp 60)
     (.seq (.region 9 false 0 [
       ⟨0, 0, (some 2), .mov (.const (.int .i64 4)), none⟩] [] [2] [] [])
     .ret)
     .skip)))))
   (.region 10 false 0 [
     ⟨0, 0, (some 61), .bin .add (.tmp 16) (.const (.int .i64 1)), none⟩,
     ⟨1, 0, (some 16), .mov (.tmp 61), none⟩] [] [1, 16] [] [])))))))
 (.seq (.seq (.region 11 false 0 [
   ⟨0, 0, (some 62), .fieldA 0 (.tmp 1), none⟩,
   ⟨1, 0, (some 63), .fieldA 18 (.tmp 62), none⟩,
   ⟨2, 0, (some 64), .load none (.tmp 63), none⟩,
   ⟨3, 0, (some 65), .len 0 (.tmp 64), none⟩,
   ⟨4, 0, (some 66), .bin .gtr (.tmp 65) (.const (.int .i64 8)), none⟩,
   ⟨5, 0, (some 67), .mov (.tmp 66), none⟩,
   ⟨6, 0, (some 68), .fieldA 0 (.tmp 1), (some ((some 67), false))⟩,
   ⟨7, 0, (some 69), .fieldA 19 (.tmp 68), (some ((some 67), false))⟩,
   ⟨8, 0, (some 70), .load none (.tmp 69), (some ((some 67), false))⟩,
   ⟨9, 0, (some 71), .len 0 (.tmp 70), (some ((some 67), false))⟩,
   ⟨10, 0, (some 72), .bin .gtr (.tmp 71) (.const (.int .i64 160)), (some ((some 67), false))⟩,
   ⟨11, 0, (some 73), .pick (.tmp 67) (.const (.bool true)) (.tmp 72), none⟩] [] [1, 73] [] [])
 (.cond (.tmp 73)
  (.seq (.region 12 false 0 [
    ⟨0, 0, (some 2), .mov (.const (.int .i64 3)), none⟩] [] [2] [] [])
  .ret)
  .skip))
 (.seq (.seq (.region 13 false 0 [
   ⟨0, 0, (some 74), .fieldA 0 (.tmp 1), none⟩,
   ⟨1, 0, (some 75), .fieldA 18 (.tmp 74), none⟩,
   ⟨2, 0, (some 76), .load none (.tmp 75), none⟩,
   ⟨3, 0, (some 77), .len 0 (.tmp 76), none⟩,
   ⟨4, 0, (some 78), .mov (.const (.int .i64 0)), none⟩] [] [76, 77, 78] [] [])
 (.block 2
  (.loop
   (.seq (.region 14 false 0 [
     ⟨0, 0, (some 79), .bin .lss (.tmp 78) (.tmp 77), none⟩] [] [76, 77, 78, 79] [] [])
   (.seq (.cond (.tmp 79)
    .skip
    (.exit 2))
   (.seq (.block 3
    (.seq (.region 15 false 0 [
      ⟨0, 0, (some 80), .idxS 1 (.tmp 76) (.tmp 78), none⟩,
      ⟨1, 0, (some 81), .load none (.tmp 80), none⟩,
      ⟨2, 0, (some 8), .mov (.tmp 81), none⟩] [] [8, 76, 77, 78] [] [])
    (.seq (.region 16 false 0 [
      ⟨0, 0, (some 82), .mov (.tmp 8), none⟩,
      ⟨1, 0, (some 83), .bin .lss (.tmp 82) (.const (.int .i64 0)), none⟩,
      ⟨2, 0, (some 84), .mov (.tmp 83), none⟩,
      ⟨3, 0, (some 85), .mov (.tmp 8), (some ((some 84), false))⟩,
      ⟨4, 0, (some 86), .bin .gtr (.tmp 85) (.const (.int .i64 4)), (some ((some 84), false))⟩,
      ⟨5, 0, (some 87), .pick (.tmp 84) (.const (.bool true)) (.tmp 86), none⟩] [] [76, 77, 78, 87] [] [])
    (.cond (.tmp 87)
     (.seq (.region 17 false 0 [
       ⟨0, 0, (some 2), .mov (.const (.int .i64 4)), none⟩] [] [2] [] [])
     .ret)
     .skip))))
   (.region 18 false 0 [
     ⟨0, 0, (some 88), .bin .add (.tmp 78) (.const (.int .i64 1)), none⟩,
     ⟨1, 0, (some 78), .mov (.tmp 88), none⟩] [] [76, 77, 78] [] [])))))))
 (.seq (.region 19 false 0 [
   ⟨0, 0, (some 2), .mov (.const (.int .i64 0)), none⟩] [] [2] [] [])
 .ret))))))
noncomputable def h118 : List RH := [⟨0, [1], [], [], [], []⟩, ⟨1, [1, 3], [], [], [], []⟩, ⟨2, [1, 3, 14], [], [], [], []⟩, ⟨3, [2], [], [], [], []⟩, ⟨4, [1, 16], [], [], [], []⟩, ⟨5, [1, 16, 17], [], [], [], []⟩, ⟨6, [1, 4, 16], [], [], [], []⟩, ⟨7, [1, 4, 5, 6, 16], [], [], [], []⟩, ⟨8, [1, 16, 60], [], [], [], []⟩, ⟨9, [2], [], [], [], []⟩, ⟨10, [1, 16], [], [], [], []⟩, ⟨11, [1, 73], [], [], [], []⟩, ⟨12, [2], [], [], [], []⟩, ⟨13, [76, 77, 78], [], [], [], []⟩, ⟨14, [76, 77, 78, 79], [], [], [], []⟩, ⟨15, [8, 76, 77, 78], [], [], [], []⟩, ⟨16, [76, 77, 78, 87], [], [], [], []⟩, ⟨17, [2], [], [], [], []⟩, ⟨18, [76, 77, 78], [], [], [], []⟩, ⟨19, [2], [], [], [], []⟩]
noncomputable def F118 : IFn := ⟨1, 89, c118, [⟨2, none⟩]⟩
theorem is118 : compFn Try.prog h118 Try.f118 = some F118 := by kernel_rfl

/-- (saleroom/problem.view).offer -/
noncomputable def c119 : IR :=
 (.seq (.region 0 false 2 [
   ⟨0, 0, (some 2), .box 148 (.tmp 0), none⟩,
   ⟨1, 1, (some 3), .box 43 (.tmp 1), none⟩,
   ⟨2, 2, (some 4), .mov (.const (.int .i64 0)), none⟩] [] [2, 3] [] [])
 (.seq (.seq (.region 1 false 0 [
   ⟨0, 0, (some 6), .fieldA 0 (.tmp 2), none⟩,
   ⟨1, 0, (some 7), .fieldA 18 (.tmp 6), none⟩,
   ⟨2, 0, (some 8), .load none (.tmp 7), none⟩,
   ⟨3, 0, (some 9), .len 0 (.tmp 8), none⟩,
   ⟨4, 0, (some 10), .load (some 8) (.tmp 3), none⟩,
   ⟨5, 0, (some 11), .call 147 [(.tmp 9), (.tmp 10)] false, none⟩,
   ⟨6, 0, (some 5), .mov (.tmp 11), none⟩] [] [2, 3, 5] [] [])
 (.seq (.region 2 false 0 [
   ⟨0, 0, (some 12), .mov (.tmp 5), none⟩,
   ⟨1, 0, (some 13), .bin .neq (.tmp 12) (.const (.int .i64 0)), none⟩] [] [2, 3, 5, 13] [] [])
 (.cond (.tmp 13)
  (.seq (.region 3 false 0 [
    ⟨0, 0, (some 14), .mov (.tmp 5), none⟩,
    ⟨1, 0, (some 4), .mov (.tmp 14), none⟩] [] [4] [] [])
  .ret)
  .skip)))
 (.seq (.block 0
  (.seq (.region 4 false 0 [
    ⟨0, 0, (some 16), .fieldA 1 (.tmp 3), none⟩,
    ⟨1, 0, (some 17), .load (some 6) (.tmp 16), none⟩,
    ⟨2, 0, (some 18), .build [(.int .i64 0), (.int .i64 0), (.int .i64 0), (.int .i64 0), (.int .i64 0), (.int .i64 0)] [], none⟩,
    ⟨3, 0, (some 19), .eqf false [0, 0, 0, 0, 0, 0] (.tmp 17) (.tmp 18), none⟩,
    ⟨4, 0, (some 15), .mov (.tmp 19), none⟩] [] [2, 3, 15] [] [])
  (.cond (.tmp 15)
   (.seq (.region 5 false 0 [
     ⟨0, 0, (some 4), .mov (.const (.int .i64 4)), none⟩] [] [4] [] [])
   .ret)
   (.seq (.region 6 false 0 [
     ⟨0, 0, (some 21), .load (some 20) (.tmp 2), none⟩,
     ⟨1, 0, (some 22), .load (some 8) (.tmp 3), none⟩,
     ⟨2, 0, (some 23), .mkimm [(.int .i64 0), (.int .i64 0), (.int .i64 0), (.int .i64 0), (.int .i64 0), (.int .i64 0), (.int .i64 0), (.int .i64 0)] 1 [(0, (.tmp 22))] 43 8, none⟩,
     ⟨3, 0, (some 24), .call 134 [(.tmp 21), (.tmp 23)] false, none⟩,
     ⟨4, 0, (some 25), .un .not (.tmp 24), none⟩,
     ⟨5, 0, (some 20), .mov (.tmp 25), none⟩] [] [20] [] [])
   (.cond (.tmp 20)
    (.seq (.region 7 false 0 [
      ⟨0, 0, (some 4), .mov (.const (.int .i64 14)), none⟩] [] [4] [] [])
    .ret)
    .skip)))))
 (.seq (.region 8 false 0 [
   ⟨0, 0, (some 4), .mov (.const (.int .i64 0)), none⟩] [] [4] [] [])
 .ret))))
noncomputable def h119 : List RH := [⟨0, [2, 3], [], [], [], []⟩, ⟨1, [2, 3, 5], [], [], [], []⟩, ⟨2, [2, 3, 5, 13], [], [], [], []⟩, ⟨3, [4], [], [], [], []⟩, ⟨4, [2, 3, 15], [], [], [], []⟩, ⟨5, [4], [], [], [], []⟩, ⟨6, [20], [], [2], [], []⟩, ⟨7, [4], [], [], [], []⟩, ⟨8, [4], [], [], [], []⟩]
noncomputable def F119 : IFn := ⟨2, 26, c119, [⟨4, none⟩]⟩
theorem is119 : compFn Try.prog h119 Try.f119 = some F119 := by kernel_rfl

/-- saleroom/problem.picked -/
noncomputable def c133 : IR :=
 (.seq (.region 0 false 1 [
   ⟨0, 0, (some 2), .box 27 (.tmp 0), none⟩,
   ⟨1, 1, (some 4), .mov (.const (.slice none 0 0)), none⟩,
   ⟨2, 1, (some 5), .mov (.const (.bool false)), none⟩] [] [1, 2] [] [])
 (.seq (.region 1 false 0 [
   ⟨0, 0, (some 6), .mov (.const (.slice none 0 0)), none⟩] [] [1, 2, 6] [] [⟨true, 6, none, 43, 8, true⟩])
 (.seq (.region 2 false 0 [
   ⟨0, 0, (some 7), .mov (.const (.int .i64 (-1))), none⟩] [] [1, 2, 6, 7] [] [])
 (.seq (.seq (.region 3 false 0 [
   ⟨0, 0, (some 10), .mov (.tmp 1), none⟩,
   ⟨1, 0, (some 11), .len 0 (.tmp 10), none⟩,
   ⟨2, 0, (some 12), .mov (.const (.int .i64 0)), none⟩] [] [2, 6, 7, 10, 11, 12] [] [])
 (.block 0
  (.loop
   (.seq (.region 4 false 0 [
     ⟨0, 0, (some 13), .bin .lss (.tmp 12) (.tmp 11), none⟩] [] [2, 6, 7, 10, 11, 12, 13] [] [])
   (.seq (.cond (.tmp 13)
    .skip
    (.exit 0))
   (.seq (.block 1
    (.seq (.region 5 false 0 [
      ⟨0, 0, (some 14), .idxS 1 (.tmp 10) (.tmp 12), none⟩,
      ⟨1, 0, (some 15), .load none (.tmp 14), none⟩,
      ⟨2, 0, (some 9), .mov (.tmp 15), none⟩] [] [2, 6, 7, 9, 10, 11, 12] [] [])
    (.seq (.seq (.region 6 false 0 [
      ⟨0, 0, (some 16), .mov (.tmp 9), none⟩,
      ⟨1, 0, (some 17), .mov (.tmp 7), none⟩,
      ⟨2, 0, (some 18), .bin .leq (.tmp 16) (.tmp 17), none⟩,
      ⟨3, 0, (some 19), .mov (.tmp 18), none⟩,
      ⟨4, 0, (some 20), .mov (.tmp 9), (some ((some 19), false))⟩,
      ⟨5, 0, (some 21), .fieldA 19 (.tmp 2), (some ((some 19), false))⟩,
      ⟨6, 0, (some 22), .load none (.tmp 21), (some ((some 19), false))⟩,
      ⟨7, 0, (some 23), .len 0 (.tmp 22), (some ((some 19), false))⟩,
      ⟨8, 0, (some 24), .bin .geq (.tmp 20) (.tmp 23), (some ((some 19), false))⟩,
      ⟨9, 0, (some 25), .pick (.tmp 19) (.const (.bool true)) (.tmp 24), none⟩] [] [2, 6, 9, 10, 11, 12, 25] [] [])
    (.cond (.tmp 25)
     (.seq (.region 7 false 0 [
       ⟨0, 0, (some 4), .mov (.const (.slice none 0 0)), none⟩,
       ⟨1, 0, (some 5), .mov (.const (.bool false)), none⟩] [] [4, 5] [] [])
     .ret)
     .skip))
    (.seq (.region 8 false 0 [
      ⟨0, 0, (some 26), .mov (.tmp 9), none⟩,
      ⟨1, 0, (some 7), .mov (.tmp 26), none⟩] [] [2, 6, 7, 9, 10, 11, 12] [] [])
    (.region 9 false 1 [
      ⟨0, 0, (some 27), .mov (.tmp 6), none⟩,
      ⟨1, 0, (some 28), .fieldA 19 (.tmp 2), none⟩,
      ⟨2, 0, (some 29), .load none (.tmp 28), none⟩,
      ⟨3, 0, (some 30), .mov (.tmp 9), none⟩,
      ⟨4, 0, (some 31), .idxS 8 (.tmp 29) (.tmp 30), none⟩,
      ⟨5, 0, (some 32), .load (some 8) (.tmp 31), none⟩,
      ⟨6, 0, (some 33), .mkimm [(.int .i64 0), (.int .i64 0), (.int .i64 0), (.int .i64 0), (.int .i64 0), (.int .i64 0), (.int .i64 0), (.int .i64 0)] 1 [(0, (.tmp 32))] 43 8, none⟩,
      ⟨7, 0, (some 34), .append 43 8 64 (.tmp 27) (.tmp 33) true, none⟩,
      ⟨8, 1, (some 6), .mov (.tmp 34), none⟩] [] [2, 6, 7, 10, 11, 12] [] [])))))
   (.region 10 false 0 [
     ⟨0, 0, (some 35), .bin .add (.tmp 12) (.const (.int .i64 1)), none⟩,
     ⟨1, 0, (some 12), .mov (.tmp 35), none⟩] [] [2, 6, 7, 10, 11, 12] [] [])))))))
 (.seq (.region 11 false 0 [
   ⟨0, 0, (some 36), .mov (.tmp 6), none⟩,
   ⟨1, 0, (some 4), .mov (.tmp 36), none⟩,
   ⟨2, 0, (some 5), .mov (.const (.bool true)), none⟩] [] [4, 5] [] [])
 .ret)))))
noncomputable def h133 : List RH := [⟨0, [1, 2], [], [], [], []⟩, ⟨1, [1, 2, 6], [], [], [], [⟨true, 6, none, 43, 8, true⟩]⟩, ⟨2, [1, 2, 6, 7], [], [], [], []⟩, ⟨3, [2, 6, 7, 10, 11, 12], [], [], [], []⟩, ⟨4, [2, 6, 7, 10, 11, 12, 13], [], [], [], []⟩, ⟨5, [2, 6, 7, 9, 10, 11, 12], [], [], [], []⟩, ⟨6, [2, 6, 9, 10, 11, 12, 25], [], [], [], []⟩, ⟨7, [4, 5], [], [], [], []⟩, ⟨8, [2, 6, 7, 9, 10, 11, 12], [], [], [], []⟩, ⟨9, [2, 6, 7, 10, 11, 12], [], [6, 7], [], []⟩, ⟨10, [2, 6, 7, 10, 11, 12], [], [], [], []⟩, ⟨11, [4, 5], [], [], [], []⟩]
noncomputable def F133 : IFn := ⟨2, 37, c133, [⟨4, none⟩, ⟨5, none⟩]⟩
theorem is133 : compFn Try.prog h133 Try.f133 = some F133 := by kernel_rfl

/-- (saleroom/problem.view).fits -/
noncomputable def c134 : IR :=
 (.seq (.region 0 false 1 [
   ⟨0, 0, (some 2), .box 148 (.tmp 0), none⟩,
   ⟨1, 1, (some 4), .mov (.const (.bool false)), none⟩] [] [1, 2] [] [])
 (.seq (.region 1 false 0 [
   ⟨0, 0, (some 5), .mov (.func 156), none⟩] [] [1, 2, 5] [] [])
 (.seq (.seq (.region 2 false 0 [
   ⟨0, 0, (some 10), .load (some 20) (.tmp 2), none⟩,
   ⟨1, 0, (some 11), .call 157 [(.tmp 10)] false, none⟩,
   ⟨2, 0, (some 12), .mov (.const (.int .i64 0)), none⟩] [] [1, 2, 5, 11, 12] [] [])
 (.block 0
  (.loop
   (.seq (.region 3 false 0 [
     ⟨0, 0, (some 13), .bin .lss (.tmp 12) (.tmp 11), none⟩] [] [1, 2, 5, 11, 12, 13] [] [])
   (.seq (.cond (.tmp 13)
    .skip
    (.exit 0))
   (.seq (.block 1
    (.seq (.region 4 false 0 [
      ⟨0, 0, (some 14), .mov (.tmp 12), none⟩,
      ⟨1, 0, (some 6), .mov (.tmp 14), none⟩] [] [1, 2, 5, 6, 11, 12] [] [])
    (.seq (.region 5 false 0 [
      ⟨0, 0, (some 7), .mov (.const (.int .i64 0)), none⟩] [] [1, 2, 5, 6, 7, 11, 12] [] [])
    (.seq (.seq (.region 6 false 0 [
      ⟨0, 0, (some 15), .mov (.tmp 1), none⟩,
      ⟨1, 0, (some 16), .len 0 (.tmp 15), none⟩,
      ⟨2, 0, (some 17), .mov (.const (.int .i64 0)), none⟩] [] [1, 2, 5, 6, 7, 11, 12, 15, 16, 17] [] [])
    (.block 2
     (.loop
      (.seq (.region 7 false 0 [
        ⟨0, 0, (some 18), .bin .lss (.tmp 17) (.tmp 16), none⟩] [] [1, 2, 5, 6, 7, 11, 12, 15, 16, 17, 18] [] [])
      (.seq (.cond (.tmp 18)
       .skip
       (.exit 2))
      (.seq (.block 3
       (.seq (.region 8 false 1 [
         ⟨0, 0, (some 19), .idxS 8 (.tmp 15) (.tmp 17), none⟩,
         ⟨1, 0, (some 20), .load (some 8) (.tmp 19), none⟩,
         ⟨2, 0, (some 9), .alloc [(.int .i64 0), (.int .i64 0), (.int .i64 0), (.int .i64 0), (.int .i64 0), (.int .i64 0), (.int .i64 0), (.int .i64 0)] 43 false, none⟩,
         ⟨3, 1, none, .store 8 (.tmp 9) (.tmp 20), none⟩] [] [1, 2, 5, 6, 7, 9, 11, 12, 15, 16, 17] [] [])
       (.region 9 false 0 [
         ⟨0, 0, (some 21), .mov (.tmp 7), none⟩,
         ⟨1, 0, (some 22), .mov (.tmp 5), none⟩,
         ⟨2, 0, (some 23), .load (some 20) (.tmp 2), none⟩,
         ⟨3, 0, (some 24), .mov (.tmp 6), none⟩,
         ⟨4, 0, (some 25), .load (some 8) (.tmp 9), none⟩,
         ⟨5, 0, (some 26), .callv (.tmp 22) [(.tmp 23), (.tmp 24), (.tmp 25)] false, none⟩,
         ⟨6, 0, (some 27), .bin .add (.tmp 21) (.tmp 26), none⟩,
         ⟨7, 0, (some 7), .mov (.tmp 27), none⟩] [] [1, 2, 5, 6, 7, 11, 12, 15, 16, 17] [] [])))
      (.region 10 false 0 [
        ⟨0, 0, (some 28), .bin .add (.tmp 17) (.const (.int .i64 1)), none⟩,
        ⟨1, 0, (some 17), .mov (.tmp 28), none⟩] [] [1, 2, 5, 6, 7, 11, 12, 15, 16, 17] [] [])))))))
    (.seq (.region 11 false 0 [
      ⟨0, 0, (some 29), .mov (.tmp 7), none⟩,
      ⟨1, 0, (some 30), .load (some 20) (.tmp 2), none⟩,
      ⟨2, 0, (some 31), .mov (.tmp 6), none⟩,
      ⟨3, 0, (some 32), .call 158 [(.tmp 30), (.tmp 31)] false, none⟩,
      ⟨4, 0, (some 33), .bin .gtr (.tmp 29) (.tmp 32), none⟩] [] [1, 2, 5, 11, 12, 33] [] [])
    (.cond (.tmp 33)
     (.seq (.region 12 false 0 [
       ⟨0, 0, (some 4), .mov (.const (.bool false)), none⟩] [] [4] [] [])
     .ret)
     .skip))))))
   (.region 13 false 0 [
     ⟨0, 0, (some 34), .bin .add (.tmp 12) (.const (.int .i64 1)), none⟩,
     ⟨1, 0, (some 12), .mov (.tmp 34), none⟩] [] [1, 2, 5, 11, 12] [] [])))))))
 (.seq (.region 14 false 0 [
   ⟨0, 0, (some 4), .mov (.const (.bool true)), none⟩] [] [4] [] [])
 .ret))))
noncomputable def h134 : List RH := [⟨0, [1, 2], [], [], [], []⟩, ⟨1, [1, 2, 5], [], [], [], []⟩, ⟨2, [1, 2, 5, 11, 12], [], [], [], []⟩, ⟨3, [1, 2, 5, 11, 12, 13], [], [], [], []⟩, ⟨4, [1, 2, 5, 6, 11, 12], [], [], [], []⟩, ⟨5, [1, 2, 5, 6, 7, 11, 12], [], [], [], []⟩, ⟨6, [1, 2, 5, 6, 7, 11, 12, 15, 16, 17], [], [], [], []⟩, ⟨7, [1, 2, 5, 6, 7, 11, 12, 15, 16, 17, 18], [], [], [], []⟩, ⟨8, [1, 2, 5, 6, 7, 9, 11, 12, 15, 16, 17], [], [], [], []⟩, ⟨9, [1, 2, 5, 6, 7, 11, 12, 15, 16, 17], [], [], [], []⟩, ⟨10, [1, 2, 5, 6, 7, 11, 12, 15, 16, 17], [], [], [], []⟩, ⟨11, [1, 2, 5, 11, 12, 33], [], [], [], []⟩, ⟨12, [4], [], [], [], []⟩, ⟨13, [1, 2, 5, 11, 12], [], [], [], []⟩, ⟨14, [4], [], [], [], []⟩]
noncomputable def F134 : IFn := ⟨2, 35, c134, [⟨4, none⟩]⟩
theorem is134 : compFn Try.prog h134 Try.f134 = some F134 := by kernel_rfl

/-- (*saleroom/coalition.solver).outside -/
noncomputable def c143 : IR :=
 (.seq (.region 0 false 2 [
   ⟨0, 0, (some 3), .box 43 (.tmp 1), none⟩,
   ⟨1, 1, (some 4), .alloc [(.int .i64 0), (.int .i64 0), (.int .i64 0), (.int .i64 0), (.int .i64 0), (.int .i64 0)] 23 false, none⟩] [] [0, 3, 4] [] [])
 (.seq (.region 1 false 1 [
   ⟨0, 0, (some 7), .fieldA 1 (.tmp 3), none⟩,
   ⟨1, 0, (some 8), .load (some 6) (.tmp 7), none⟩,
   ⟨2, 0, (some 5), .alloc [(.int .i64 0), (.int .i64 0), (.int .i64 0), (.int .i64 0), (.int .i64 0), (.int .i64 0)] 23 false, none⟩,
   ⟨3, 1, none, .store 6 (.tmp 5) (.tmp 8), none⟩] [] [0, 3, 4, 5] [] [])
 (.seq (.seq (.region 2 false 0 [
   ⟨0, 0, (some 9), .mov (.const (.int .i64 0)), none⟩] [] [0, 3, 4, 5, 9] [] [])
 (.block 0
  (.loop
   (.seq (.region 3 false 0 [
     ⟨0, 0, (some 10), .bin .lss (.tmp 9) (.const (.int .i64 6)), none⟩] [] [0, 3, 4, 5, 9, 10] [] [])
   (.seq (.cond (.tmp 10)
    .skip
    (.exit 0))
   (.seq (.block 1
    (.seq (.region 4 false 0 [
      ⟨0, 0, (some 11), .mov (.tmp 9), none⟩,
      ⟨1, 0, (some 6), .mov (.tmp 11), none⟩] [] [0, 3, 4, 5, 6, 9] [] [])
    (.seq (.region 5 true 0 [
      ⟨0, 0, (some 12), .mov (.tmp 0), none⟩,
      ⟨1, 0, (some 13), .mov (.tmp 6), none⟩,
      ⟨2, 0, (some 14), .nilc (.tmp 12), none⟩,
      ⟨3, 0, (some 15), .fieldA 0 (.tmp 14), none⟩,
      ⟨4, 0, (some 16), .fieldA 12 (.tmp 15), none⟩,
      ⟨5, 0, (some 17), .idxA 6 1 (.tmp 16) (.tmp 13), none⟩,
      ⟨6, 0, (some 18), .load none (.tmp 17), none⟩,
      ⟨7, 0, (some 19), .bin .eql (.tmp 18) (.const (.int .i64 0)), none⟩,
      ⟨8, 0, (some 20), .mov (.tmp 19), none⟩,
      ⟨9, 0, (some 21), .mov (.tmp 0), (some ((some 20), false))⟩,
      ⟨10, 0, (some 22), .mov (.tmp 6), (some ((some 20), false))⟩,
      ⟨11, 0, (some 23), .nilc (.tmp 21), (some ((some 20), false))⟩,
      ⟨12, 0, (some 24), .fieldA 0 (.tmp 23), (some ((some 20), false))⟩,
      ⟨13, 0, (some 25), .fieldA 12 (.tmp 24), (some ((some 20), false))⟩,
      ⟨14, 0, (some 26), .idxA 6 1 (.tmp 25) (.tmp 22), (some ((some 20), false))⟩,
      ⟨15, 0, (some 27), .load none (.tmp 26), (some ((some 20), false))⟩,
      ⟨16, 0, (some 28), .mov (.tmp 0), (some ((some 20), false))⟩,
      ⟨17, 0, (some 29), .nilc (.tmp 28), (some ((some 20), false))⟩,
      ⟨18, 0, (some 30), .fieldA 0 (.tmp 29), (some ((some 20), false))⟩,
      ⟨19, 0, (some 31), .fieldA 18 (.tmp 30), (some ((some 20), false))⟩,
      ⟨20, 0, (some 32), .load none (.tmp 31), (some ((some 20), false))⟩,
      ⟨21, 0, (some 33), .fieldA 0 (.tmp 3), (some ((some 20), false))⟩,
      ⟨22, 0, (some 34), .load none (.tmp 33), (some ((some 20), false))⟩,
      ⟨23, 0, (some 35), .idxS 1 (.tmp 32) (.tmp 34), (some ((some 20), false))⟩,
      ⟨24, 0, (some 36), .load none (.tmp 35), (some ((some 20), false))⟩,
      ⟨25, 0, (some 37), .bin .eql (.tmp 27) (.tmp 36), (some ((some 20), false))⟩,
      ⟨26, 0, (some 38), .pick (.tmp 20) (.const (.bool true)) (.tmp 37), none⟩] [] [0, 3, 4, 5, 6, 9, 38] [] [])
    (.cond (.tmp 38)
     (.region 6 false 0 [
       ⟨0, 0, (some 39), .mov (.tmp 6), none⟩,
       ⟨1, 0, (some 40), .idxA 6 1 (.tmp 5) (.tmp 39), none⟩,
       ⟨2, 0, none, .store 1 (.tmp 40) (.const (.int .i64 0)), none⟩] [] [0, 3, 4, 5, 9] [] [])
     .skip))))
   (.region 7 false 0 [
     ⟨0, 0, (some 41), .bin .add (.tmp 9) (.const (.int .i64 1)), none⟩,
     ⟨1, 0, (some 9), .mov (.tmp 41), none⟩] [] [0, 3, 4, 5, 9] [] [])))))))
 (.seq (.region 8 false 0 [
   ⟨0, 0, (some 42), .load (some 6) (.tmp 5), none⟩,
   ⟨1, 0, none, .store 6 (.tmp 4) (.tmp 42), none⟩] [] [4] [] [])
 .ret))))
noncomputable def h143 : List RH := [⟨0, [0, 3, 4], [], [], [], []⟩, ⟨1, [0, 3, 4, 5], [], [], [], []⟩, ⟨2, [0, 3, 4, 5, 9], [], [], [], []⟩, ⟨3, [0, 3, 4, 5, 9, 10], [], [], [], []⟩, ⟨4, [0, 3, 4, 5, 6, 9], [], [], [], []⟩, ⟨5, [0, 3, 4, 5, 6, 9, 38], [], [], [], []⟩, ⟨6, [0, 3, 4, 5, 9], [], [], [], []⟩, ⟨7, [0, 3, 4, 5, 9], [], [], [], []⟩, ⟨8, [4], [], [], [], []⟩]
noncomputable def F143 : IFn := ⟨2, 43, c143, [⟨4, (some (some 6))⟩]⟩
theorem is143 : compFn Try.prog h143 Try.f143 = some F143 := by kernel_rfl

/-- saleroom/bundle.Within -/
noncomputable def c144 : IR :=
 (.seq (.region 0 false 2 [
   ⟨0, 0, (some 2), .box 23 (.tmp 0), none⟩,
   ⟨1, 1, (some 3), .box 23 (.tmp 1), none⟩,
   ⟨2, 2, (some 4), .mov (.const (.bool false)), none⟩] [] [2, 3] [] [])
 (.seq (.region 1 true 0 [
   ⟨0, 0, (some 5), .load (some 6) (.tmp 2), none⟩,
   ⟨1, 0, (some 6), .load (some 6) (.tmp 3), none⟩,
   ⟨2, 0, (some 7), .call 163 [(.tmp 5), (.tmp 6)] false, none⟩,
   ⟨3, 0, (some 8), .load (some 6) (.tmp 2), none⟩,
   ⟨4, 0, (some 9), .eqf false [0, 0, 0, 0, 0, 0] (.tmp 7) (.tmp 8), none⟩,
   ⟨5, 0, (some 4), .mov (.tmp 9), none⟩] [] [4] [] [])
 .ret))
noncomputable def h144 : List RH := [⟨0, [2, 3], [], [], [], []⟩, ⟨1, [4], [], [], [], []⟩]
noncomputable def F144 : IFn := ⟨2, 10, c144, [⟨4, none⟩]⟩
theorem is144 : compFn Try.prog h144 Try.f144 = some F144 := by kernel_rfl

/-- saleroom/bundle.Sub -/
noncomputable def c145 : IR :=
 (.seq (.region 0 false 3 [
   ⟨0, 0, (some 2), .box 23 (.tmp 0), none⟩,
   ⟨1, 1, (some 3), .box 23 (.tmp 1), none⟩,
   ⟨2, 2, (some 4), .alloc [(.int .i64 0), (.int .i64 0), (.int .i64 0), (.int .i64 0), (.int .i64 0), (.int .i64 0)] 23 false, none⟩] [] [2, 3, 4] [] [])
 (.seq (.seq (.region 1 false 0 [
   ⟨0, 0, (some 6), .mov (.const (.int .i64 0)), none⟩] [] [2, 3, 4, 6] [] [])
 (.block 0
  (.loop
   (.seq (.region 2 false 0 [
     ⟨0, 0, (some 7), .bin .lss (.tmp 6) (.const (.int .i64 6)), none⟩] [] [2, 3, 4, 6, 7] [] [])
   (.seq (.cond (.tmp 7)
    .skip
    (.exit 0))
   (.seq (.block 1
    (.seq (.region 3 false 0 [
      ⟨0, 0, (some 8), .mov (.tmp 6), none⟩,
      ⟨1, 0, (some 5), .mov (.tmp 8), none⟩] [] [2, 3, 4, 5, 6] [] [])
    (.region 4 true 0 [
      ⟨0, 0, (some 9), .mov (.tmp 5), none⟩,
      ⟨1, 0, (some 10), .idxA 6 1 (.tmp 2) (.tmp 9), none⟩,
      ⟨2, 0, (some 11), .load none (.tmp 10), none⟩,
      ⟨3, 0, (some 12), .mov (.tmp 5), none⟩,
      ⟨4, 0, (some 13), .idxA 6 1 (.tmp 3) (.tmp 12), none⟩,
      ⟨5, 0, (some 14), .load none (.tmp 13), none⟩,
      ⟨6, 0, (some 15), .bin .sub (.tmp 11) (.tmp 14), none⟩,
      ⟨7, 0, (some 16), .idxA 6 1 (.tmp 2) (.tmp 9), none⟩,
      ⟨8, 0, none, .store 1 (.tmp 16) (.tmp 15), none⟩] [] [2, 3, 4, 6] [] [])))
   (.region 5 false 0 [
     ⟨0, 0, (some 17), .bin .add (.tmp 6) (.const (.int .i64 1)), none⟩,
     ⟨1, 0, (some 6), .mov (.tmp 17), none⟩] [] [2, 3, 4, 6] [] [])))))))
 (.seq (.region 6 false 0 [
   ⟨0, 0, (some 18), .load (some 6) (.tmp 2), none⟩,
   ⟨1, 0, none, .store 6 (.tmp 4) (.tmp 18), none⟩] [] [4] [] [])
 .ret)))
noncomputable def h145 : List RH := [⟨0, [2, 3, 4], [], [], [], []⟩, ⟨1, [2, 3, 4, 6], [], [], [], []⟩, ⟨2, [2, 3, 4, 6, 7], [], [], [], []⟩, ⟨3, [2, 3, 4, 5, 6], [], [], [], []⟩, ⟨4, [2, 3, 4, 6], [], [], [], []⟩, ⟨5, [2, 3, 4, 6], [], [], [], []⟩, ⟨6, [4], [], [], [], []⟩]
noncomputable def F145 : IFn := ⟨2, 19, c145, [⟨4, (some (some 6))⟩]⟩
theorem is145 : compFn Try.prog h145 Try.f145 = some F145 := by kernel_rfl

/-- saleroom/bundle.Check -/
noncomputable def c146 : IR :=
 (.seq (.region 0 false 1 [
   ⟨0, 0, (some 1), .box 23 (.tmp 0), none⟩,
   ⟨1, 1, (some 2), .mov (.const (.int .i64 0)), none⟩] [] [1] [] [])
 (.seq (.seq (.region 1 false 0 [
   ⟨0, 0, (some 5), .load (some 6) (.tmp 1), none⟩,
   ⟨1, 0, (some 6), .mov (.const (.int .i64 0)), none⟩] [] [5, 6] [] [])
 (.block 0
  (.loop
   (.seq (.region 2 false 0 [
     ⟨0, 0, (some 7), .bin .lss (.tmp 6) (.const (.int .i64 6)), none⟩] [] [5, 6, 7] [] [])
   (.seq (.cond (.tmp 7)
    .skip
    (.exit 0))
   (.seq (.block 1
    (.seq (.region 3 false 0 [
      ⟨0, 0, (some 8), .idx 6 1 none (.tmp 5) (.tmp 6), none⟩,
      ⟨1, 0, (some 4), .mov (.tmp 8), none⟩] [] [4, 5, 6] [] [])
    (.seq (.region 4 false 0 [
      ⟨0, 0, (some 9), .mov (.tmp 4), none⟩,
      ⟨1, 0, (some 10), .bin .lss (.tmp 9) (.const (.int .i64 0)), none⟩,
      ⟨2, 0, (some 11), .mov (.tmp 10), none⟩,
      ⟨3, 0, (some 12), .mov (.tmp 4), (some ((some 11), false))⟩,
      ⟨4, 0, (some 13), .bin .gtr (.tmp 12) (.const (.int .i64 4)), (some ((some 11), false))⟩,
      ⟨5, 0, (some 14), .pick (.tmp 11) (.const (.bool true)) (.tmp 13), none⟩] [] [5, 6, 14] [] [])
    (.cond (.tmp 14)
     (.seq (.region 5 false 0 [
       ⟨0, 0, (some 2), .mov (.const (.int .i64 4)), none⟩] [] [2] [] [])
     .ret)
     .skip))))
   (.region 6 false 0 [
     ⟨0, 0, (some 15), .bin .add (.tmp 6) (.const (.int .i64 1)), none⟩,
     ⟨1, 0, (some 6), .mov (.tmp 15), none⟩] [] [5, 6] [] [])))))))
 (.seq (.region 7 false 0 [
   ⟨0, 0, (some 2), .mov (.const (.int .i64 0)), none⟩] [] [2] [] [])
 .ret)))
noncomputable def h146 : List RH := [⟨0, [1], [], [], [], []⟩, ⟨1, [5, 6], [], [], [], []⟩, ⟨2, [5, 6, 7], [], [], [], []⟩, ⟨3, [4, 5, 6], [], [], [], []⟩, ⟨4, [5, 6, 14], [], [], [], []⟩, ⟨5, [2], [], [], [], []⟩, ⟨6, [5, 6], [], [], [], []⟩, ⟨7, [2], [], [], [], []⟩]
noncomputable def F146 : IFn := ⟨1, 16, c146, [⟨2, none⟩]⟩
theorem is146 : compFn Try.prog h146 Try.f146 = some F146 := by kernel_rfl

/-- saleroom/problem.simple -/
noncomputable def c147 : IR :=
 (.seq (.region 0 false 1 [
   ⟨0, 0, (some 3), .box 43 (.tmp 1), none⟩,
   ⟨1, 1, (some 4), .mov (.const (.int .i64 0)), none⟩] [] [0, 3] [] [])
 (.seq (.block 0
  (.seq (.region 1 false 0 [
    ⟨0, 0, (some 6), .fieldA 0 (.tmp 3), none⟩,
    ⟨1, 0, (some 7), .load none (.tmp 6), none⟩,
    ⟨2, 0, (some 8), .bin .lss (.tmp 7) (.const (.int .i64 0)), none⟩,
    ⟨3, 0, (some 9), .mov (.tmp 8), none⟩,
    ⟨4, 0, (some 10), .fieldA 0 (.tmp 3), (some ((some 9), false))⟩,
    ⟨5, 0, (some 11), .load none (.tmp 10), (some ((some 9), false))⟩,
    ⟨6, 0, (some 12), .mov (.tmp 0), (some ((some 9), false))⟩,
    ⟨7, 0, (some 13), .bin .geq (.tmp 11) (.tmp 12), (some ((some 9), false))⟩,
    ⟨8, 0, (some 14), .pick (.tmp 9) (.const (.bool true)) (.tmp 13), none⟩,
    ⟨9, 0, (some 5), .mov (.tmp 14), none⟩] [] [3, 5] [] [])
  (.cond (.tmp 5)
   (.seq (.region 2 false 0 [
     ⟨0, 0, (some 4), .mov (.const (.int .i64 6)), none⟩] [] [4] [] [])
   .ret)
   (.seq (.region 3 false 0 [
     ⟨0, 0, (some 16), .fieldA 7 (.tmp 3), none⟩,
     ⟨1, 0, (some 17), .load none (.tmp 16), none⟩,
     ⟨2, 0, (some 18), .bin .lss (.tmp 17) (.const (.int .i64 1)), none⟩,
     ⟨3, 0, (some 19), .mov (.tmp 18), none⟩,
     ⟨4, 0, (some 20), .fieldA 7 (.tmp 3), (some ((some 19), false))⟩,
     ⟨5, 0, (some 21), .load none (.tmp 20), (some ((some 19), false))⟩,
     ⟨6, 0, (some 22), .bin .gtr (.tmp 21) (.const (.int .i64 1000000)), (some ((some 19), false))⟩,
     ⟨7, 0, (some 23), .pick (.tmp 19) (.const (.bool true)) (.tmp 22), none⟩,
     ⟨8, 0, (some 15), .mov (.tmp 23), none⟩] [] [3, 15] [] [])
   (.cond (.tmp 15)
    (.seq (.region 4 false 0 [
      ⟨0, 0, (some 4), .mov (.const (.int .i64 4)), none⟩] [] [4] [] [])
    .ret)
    .skip)))))
 (.seq (.region 5 false 0 [
   ⟨0, 0, (some 24), .fieldA 1 (.tmp 3), none⟩,
   ⟨1, 0, (some 25), .load (some 6) (.tmp 24), none⟩,
   ⟨2, 0, (some 26), .call 146 [(.tmp 25)] false, none⟩,
   ⟨3, 0, (some 4), .mov (.tmp 26), none⟩] [] [4] [] [])
 .ret)))
noncomputable def h147 : List RH := [⟨0, [0, 3], [], [], [], []⟩, ⟨1, [3, 5], [], [], [], []⟩, ⟨2, [4], [], [], [], []⟩, ⟨3, [3, 15], [], [], [], []⟩, ⟨4, [4], [], [], [], []⟩, ⟨5, [4], [], [], [], []⟩]
noncomputable def F147 : IFn := ⟨2, 27, c147, [⟨4, none⟩]⟩
theorem is147 : compFn Try.prog h147 Try.f147 = some F147 := by kernel_rfl

/-- (saleroom/problem.view).coef -/
noncomputable def c156 : IR :=
 (.seq (.region 0 false 2 [
   ⟨0, 0, (some 3), .box 148 (.tmp 0), none⟩,
   ⟨1, 1, (some 5), .box 43 (.tmp 2), none⟩,
   ⟨2, 2, (some 6), .mov (.const (.int .i64 0)), none⟩] [] [1, 3, 5] [] [])
 (.seq (.region 1 false 0 [
   ⟨0, 0, (some 8), .mov (.tmp 1), none⟩,
   ⟨1, 0, (some 9), .fieldA 0 (.tmp 3), none⟩,
   ⟨2, 0, (some 10), .fieldA 18 (.tmp 9), none⟩,
   ⟨3, 0, (some 11), .load none (.tmp 10), none⟩,
   ⟨4, 0, (some 12), .len 0 (.tmp 11), none⟩,
   ⟨5, 0, (some 13), .bin .sub (.tmp 8) (.tmp 12), none⟩,
   ⟨6, 0, (some 7), .mov (.tmp 13), none⟩] [] [1, 3, 5, 7] [] [])
 (.block 0
  (.seq (.region 6 false 0 [
    ⟨0, 0, (some 42), .mov (.tmp 7), none⟩,
    ⟨1, 0, (some 43), .bin .lss (.tmp 42) (.const (.int .i64 0)), none⟩,
    ⟨2, 0, (some 44), .mov (.tmp 43), none⟩,
    ⟨3, 0, (some 45), .fieldA 0 (.tmp 5), (some ((some 44), true))⟩,
    ⟨4, 0, (some 46), .load none (.tmp 45), (some ((some 44), true))⟩,
    ⟨5, 0, (some 47), .mov (.tmp 1), (some ((some 44), true))⟩,
    ⟨6, 0, (some 48), .bin .eql (.tmp 46) (.tmp 47), (some ((some 44), true))⟩,
    ⟨7, 0, (some 49), .pick (.tmp 44) (.tmp 48) (.const (.bool false)), none⟩,
    ⟨8, 0, (some 41), .mov (.tmp 49), none⟩] [] [3, 5, 7, 41] [] [])
  (.cond (.tmp 41)
   (.seq (.region 7 false 0 [
     ⟨0, 0, (some 6), .mov (.const (.int .i64 1)), none⟩] [] [6] [] [])
   .ret)
   (.seq (.region 8 false 0 [
     ⟨0, 0, (some 51), .mov (.tmp 7), none⟩,
     ⟨1, 0, (some 52), .bin .lss (.tmp 51) (.const (.int .i64 0)), none⟩,
     ⟨2, 0, (some 50), .mov (.tmp 52), none⟩] [] [3, 5, 7, 50] [] [])
   (.cond (.tmp 50)
    (.seq (.region 9 false 0 [
      ⟨0, 0, (some 6), .mov (.const (.int .i64 0)), none⟩] [] [6] [] [])
    .ret)
    (.seq (.region 10 false 0 [
      ⟨0, 0, (some 54), .mov (.tmp 7), none⟩,
      ⟨1, 0, (some 55), .bin .lss (.tmp 54) (.const (.int .i64 6)), none⟩,
      ⟨2, 0, (some 53), .mov (.tmp 55), none⟩] [] [3, 5, 7, 53] [] [])
    (.cond (.tmp 53)
     (.seq (.region 11 false 0 [
       ⟨0, 0, (some 56), .mov (.tmp 7), none⟩,
       ⟨1, 0, (some 57), .fieldA 1 (.tmp 5), none⟩,
       ⟨2, 0, (some 58), .idxA 6 1 (.tmp 57) (.tmp 56), none⟩,
       ⟨3, 0, (some 59), .load none (.tmp 58), none⟩,
       ⟨4, 0, (some 6), .mov (.tmp 59), none⟩] [] [6] [] [])
     .ret)
     (.seq (.region 2 false 0 [
       ⟨0, 0, (some 14), .mov (.tmp 7), none⟩,
       ⟨1, 0, (some 15), .bin .sub (.tmp 14) (.const (.int .i64 6)), none⟩,
       ⟨2, 0, (some 7), .mov (.tmp 15), none⟩] [] [3, 5, 7] [] [])
     (.seq (.seq (.region 3 true 0 [
       ⟨0, 0, (some 16), .mov (.tmp 7), none⟩,
       ⟨1, 0, (some 17), .fieldA 0 (.tmp 3), none⟩,
       ⟨2, 0, (some 18), .fieldA 12 (.tmp 17), none⟩,
       ⟨3, 0, (some 19), .idxA 6 1 (.tmp 18) (.tmp 16), none⟩,
       ⟨4, 0, (some 20), .load none (.tmp 19), none⟩,
       ⟨5, 0, (some 21), .bin .eql (.tmp 20) (.const (.int .i64 0)), none⟩,
       ⟨6, 0, (some 22), .mov (.tmp 21), none⟩,
       ⟨7, 0, (some 23), .mov (.tmp 7), (some ((some 22), false))⟩,
       ⟨8, 0, (some 24), .fieldA 0 (.tmp 3), (some ((some 22), false))⟩,
       ⟨9, 0, (some 25), .fieldA 12 (.tmp 24), (some ((some 22), false))⟩,
       ⟨10, 0, (some 26), .idxA 6 1 (.tmp 25) (.tmp 23), (some ((some 22), false))⟩,
       ⟨11, 0, (some 27), .load none (.tmp 26), (some ((some 22), false))⟩,
       ⟨12, 0, (some 28), .fieldA 0 (.tmp 3), (some ((some 22), false))⟩,
       ⟨13, 0, (some 29), .fieldA 18 (.tmp 28), (some ((some 22), false))⟩,
       ⟨14, 0, (some 30), .load none (.tmp 29), (some ((some 22), false))⟩,
       ⟨15, 0, (some 31), .fieldA 0 (.tmp 5), (some ((some 22), false))⟩,
       ⟨16, 0, (some 32), .load none (.tmp 31), (some ((some 22), false))⟩,
       ⟨17, 0, (some 33), .idxS 1 (.tmp 30) (.tmp 32), (some ((some 22), false))⟩,
       ⟨18, 0, (some 34), .load none (.tmp 33), (some ((some 22), false))⟩,
       ⟨19, 0, (some 35), .bin .eql (.tmp 27) (.tmp 34), (some ((some 22), false))⟩,
       ⟨20, 0, (some 36), .pick (.tmp 22) (.const (.bool true)) (.tmp 35), none⟩] [] [5, 7, 36] [] [])
     (.cond (.tmp 36)
      (.seq (.region 4 false 0 [
        ⟨0, 0, (some 6), .mov (.const (.int .i64 0)), none⟩] [] [6] [] [])
      .ret)
      .skip))
     (.seq (.region 5 false 0 [
       ⟨0, 0, (some 37), .mov (.tmp 7), none⟩,
       ⟨1, 0, (some 38), .fieldA 1 (.tmp 5), none⟩,
       ⟨2, 0, (some 39), .idxA 6 1 (.tmp 38) (.tmp 37), none⟩,
       ⟨3, 0, (some 40), .load none (.tmp 39), none⟩,
       ⟨4, 0, (some 6), .mov (.tmp 40), none⟩] [] [6] [] [])
     .ret))))))))))))
noncomputable def h156 : List RH := [⟨0, [1, 3, 5], [], [], [], []⟩, ⟨1, [1, 3, 5, 7], [], [], [], []⟩, ⟨6, [3, 5, 7, 41], [], [], [], []⟩, ⟨7, [6], [], [], [], []⟩, ⟨8, [3, 5, 7, 50], [], [], [], []⟩, ⟨9, [6], [], [], [], []⟩, ⟨10, [3, 5, 7, 53], [], [], [], []⟩, ⟨11, [6], [], [], [], []⟩, ⟨2, [3, 5, 7], [], [], [], []⟩, ⟨3, [5, 7, 36], [], [], [], []⟩, ⟨4, [6], [], [], [], []⟩, ⟨5, [6], [], [], [], []⟩]
noncomputable def F156 : IFn := ⟨3, 60, c156, [⟨6, none⟩]⟩
theorem is156 : compFn Try.prog h156 Try.f156 = some F156 := by kernel_rfl

/-- (saleroom/problem.view).rows -/
noncomputable def c157 : IR :=
 (.seq (.region 0 false 1 [
   ⟨0, 0, (some 1), .box 148 (.tmp 0), none⟩,
   ⟨1, 1, (some 2), .mov (.const (.int .i64 0)), none⟩] [] [1] [] [])
 (.seq (.region 1 false 0 [
   ⟨0, 0, (some 3), .fieldA 0 (.tmp 1), none⟩,
   ⟨1, 0, (some 4), .fieldA 18 (.tmp 3), none⟩,
   ⟨2, 0, (some 5), .load none (.tmp 4), none⟩,
   ⟨3, 0, (some 6), .len 0 (.tmp 5), none⟩,
   ⟨4, 0, (some 7), .bin .add (.tmp 6) (.const (.int .i64 12)), none⟩,
   ⟨5, 0, (some 2), .mov (.tmp 7), none⟩] [] [2] [] [])
 .ret))
noncomputable def h157 : List RH := [⟨0, [1], [], [], [], []⟩, ⟨1, [2], [], [], [], []⟩]
noncomputable def F157 : IFn := ⟨1, 8, c157, [⟨2, none⟩]⟩
theorem is157 : compFn Try.prog h157 Try.f157 = some F157 := by kernel_rfl

/-- (saleroom/problem.view).bound -/
noncomputable def c158 : IR :=
 (.seq (.region 0 false 1 [
   ⟨0, 0, (some 2), .box 148 (.tmp 0), none⟩,
   ⟨1, 1, (some 4), .mov (.const (.int .i64 0)), none⟩] [] [1, 2] [] [])
 (.seq (.region 1 false 0 [
   ⟨0, 0, (some 6), .mov (.tmp 1), none⟩,
   ⟨1, 0, (some 7), .fieldA 0 (.tmp 2), none⟩,
   ⟨2, 0, (some 8), .fieldA 18 (.tmp 7), none⟩,
   ⟨3, 0, (some 9), .load none (.tmp 8), none⟩,
   ⟨4, 0, (some 10), .len 0 (.tmp 9), none⟩,
   ⟨5, 0, (some 11), .bin .sub (.tmp 6) (.tmp 10), none⟩,
   ⟨6, 0, (some 5), .mov (.tmp 11), none⟩] [] [2, 5] [] [])
 (.block 0
  (.seq (.region 3 false 0 [
    ⟨0, 0, (some 19), .mov (.tmp 5), none⟩,
    ⟨1, 0, (some 20), .bin .lss (.tmp 19) (.const (.int .i64 0)), none⟩,
    ⟨2, 0, (some 18), .mov (.tmp 20), none⟩] [] [2, 5, 18] [] [])
  (.cond (.tmp 18)
   (.seq (.region 4 false 0 [
     ⟨0, 0, (some 4), .mov (.const (.int .i64 1)), none⟩] [] [4] [] [])
   .ret)
   (.seq (.region 5 false 0 [
     ⟨0, 0, (some 22), .mov (.tmp 5), none⟩,
     ⟨1, 0, (some 23), .bin .lss (.tmp 22) (.const (.int .i64 6)), none⟩,
     ⟨2, 0, (some 21), .mov (.tmp 23), none⟩] [] [2, 5, 21] [] [])
   (.cond (.tmp 21)
    (.seq (.region 6 false 0 [
      ⟨0, 0, (some 24), .mov (.tmp 5), none⟩,
      ⟨1, 0, (some 25), .fieldA 0 (.tmp 2), none⟩,
      ⟨2, 0, (some 26), .fieldA 0 (.tmp 25), none⟩,
      ⟨3, 0, (some 27), .idxA 6 1 (.tmp 26) (.tmp 24), none⟩,
      ⟨4, 0, (some 28), .load none (.tmp 27), none⟩,
      ⟨5, 0, (some 4), .mov (.tmp 28), none⟩] [] [4] [] [])
    .ret)
    (.seq (.region 2 false 0 [
      ⟨0, 0, (some 12), .mov (.tmp 5), none⟩,
      ⟨1, 0, (some 13), .bin .sub (.tmp 12) (.const (.int .i64 6)), none⟩,
      ⟨2, 0, (some 14), .fieldA 0 (.tmp 2), none⟩,
      ⟨3, 0, (some 15), .fieldA 6 (.tmp 14), none⟩,
      ⟨4, 0, (some 16), .idxA 6 1 (.tmp 15) (.tmp 13), none⟩,
      ⟨5, 0, (some 17), .load none (.tmp 16), none⟩,
      ⟨6, 0, (some 4), .mov (.tmp 17), none⟩] [] [4] [] [])
    .ret))))))))
noncomputable def h158 : List RH := [⟨0, [1, 2], [], [], [], []⟩, ⟨1, [2, 5], [], [], [], []⟩, ⟨3, [2, 5, 18], [], [], [], []⟩, ⟨4, [4], [], [], [], []⟩, ⟨5, [2, 5, 21], [], [], [], []⟩, ⟨6, [4], [], [], [], []⟩, ⟨2, [4], [], [], [], []⟩]
noncomputable def F158 : IFn := ⟨2, 29, c158, [⟨4, none⟩]⟩
theorem is158 : compFn Try.prog h158 Try.f158 = some F158 := by kernel_rfl

/-- saleroom/bundle.Meet -/
noncomputable def c163 : IR :=
 (.seq (.region 0 false 3 [
   ⟨0, 0, (some 2), .box 23 (.tmp 0), none⟩,
   ⟨1, 1, (some 3), .box 23 (.tmp 1), none⟩,
   ⟨2, 2, (some 4), .alloc [(.int .i64 0), (.int .i64 0), (.int .i64 0), (.int .i64 0), (.int .i64 0), (.int .i64 0)] 23 false, none⟩] [] [2, 3, 4] [] [])
 (.seq (.seq (.region 1 false 0 [
   ⟨0, 0, (some 6), .mov (.const (.int .i64 0)), none⟩] [] [2, 3, 4, 6] [] [])
 (.block 0
  (.loop
   (.seq (.region 2 false 0 [
     ⟨0, 0, (some 7), .bin .lss (.tmp 6) (.const (.int .i64 6)), none⟩] [] [2, 3, 4, 6, 7] [] [])
   (.seq (.cond (.tmp 7)
    .skip
    (.exit 0))
   (.seq (.block 1
    (.seq (.region 3 false 0 [
      ⟨0, 0, (some 8), .mov (.tmp 6), none⟩,
      ⟨1, 0, (some 5), .mov (.tmp 8), none⟩] [] [2, 3, 4, 5, 6] [] [])
    (.region 4 true 0 [
      ⟨0, 0, (some 9), .mov (.tmp 5), none⟩,
      ⟨1, 0, (some 10), .mov (.tmp 5), none⟩,
      ⟨2, 0, (some 11), .idxA 6 1 (.tmp 2) (.tmp 10), none⟩,
      ⟨3, 0, (some 12), .load none (.tmp 11), none⟩,
      ⟨4, 0, (some 13), .mov (.tmp 5), none⟩,
      ⟨5, 0, (some 14), .idxA 6 1 (.tmp 3) (.tmp 13), none⟩,
      ⟨6, 0, (some 15), .load none (.tmp 14), none⟩,
      ⟨7, 0, (some 16), .mm false (.tmp 12) (.tmp 15), none⟩,
      ⟨8, 0, (some 17), .idxA 6 1 (.tmp 2) (.tmp 9), none⟩,
      ⟨9, 0, none, .store 1 (.tmp 17) (.tmp 16), none⟩] [] [2, 3, 4, 6] [] [])))
   (.region 5 false 0 [
     ⟨0, 0, (some 18), .bin .add (.tmp 6) (.const (.int .i64 1)), none⟩,
     ⟨1, 0, (some 6), .mov (.tmp 18), none⟩] [] [2, 3, 4, 6] [] [])))))))
 (.seq (.region 6 false 0 [
   ⟨0, 0, (some 19), .load (some 6) (.tmp 2), none⟩,
   ⟨1, 0, none, .store 6 (.tmp 4) (.tmp 19), none⟩] [] [4] [] [])
 .ret)))
noncomputable def h163 : List RH := [⟨0, [2, 3, 4], [], [], [], []⟩, ⟨1, [2, 3, 4, 6], [], [], [], []⟩, ⟨2, [2, 3, 4, 6, 7], [], [], [], []⟩, ⟨3, [2, 3, 4, 5, 6], [], [], [], []⟩, ⟨4, [2, 3, 4, 6], [], [], [], []⟩, ⟨5, [2, 3, 4, 6], [], [], [], []⟩, ⟨6, [4], [], [], [], []⟩]
noncomputable def F163 : IFn := ⟨2, 20, c163, [⟨4, (some (some 6))⟩]⟩
theorem is163 : compFn Try.prog h163 Try.f163 = some F163 := by kernel_rfl

end Go.Proofs.Ytigbjjkijfkeeaa.Ir
