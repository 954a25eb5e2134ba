/- The code of some functions without its ornaments. Written by gen.py. -/
import Derived.Test.YtlimedbanpfkgaaQp
import Derived.Test.YtlimedbanpfkgaaChecked
import Derived.Test.YtlimedbanpfkgaaPr
import Derived.Test.YtlimedbanpfkgaaR0
import Derived.Test.YtlimedbanpfkgaaR1
set_option maxRecDepth 100000
namespace Go.Proofs.Ytlimedbanpfkgaa.Q
open Go Go.RowKit Go.Proofs
variable {P : Program} {pr : Prim} {N : Nat} {e : Nat → V} {σ : St} {Q : VX → (Nat → V) → St → Prop}
def k91_r0 : List COp := [
  ⟨some 4, .assign (.const (.int .i64 0)), none, true⟩]
theorem k91_r0_e : Eo P pr N k91_r0 e σ Q = Eo P pr N [
  ⟨some 4, .assign (.const (.int .i64 0)), none, true⟩] e σ Q := propext ⟨fun h => h, fun h => h⟩
def k91_r1 : List COp := [
  ⟨some 14, .move (.tmp 1), none, true⟩,
  ⟨some 15, .call { callee := .builtin .len, args := #[.tmp 14], argTypes := #[9] }, none, true⟩,
  ⟨some 5, .assign (.tmp 15), none, true⟩]
theorem k91_r1_e : Eo P pr N k91_r1 e σ Q = Eo P pr N [
  ⟨some 14, .move (.tmp 1), none, true⟩,
  ⟨some 15, .call { callee := .builtin .len, args := #[.tmp 14], argTypes := #[9] }, none, true⟩,
  ⟨some 5, .assign (.tmp 15), none, true⟩] e σ Q := propext ⟨fun h => h, fun h => h⟩
def k91_r2 : List COp := [
  ⟨some 17, .move (.tmp 5), none, true⟩,
  ⟨some 18, .binOp .eql 3 (.tmp 17) (.const (.int .i64 0)) 3, none, true⟩,
  ⟨some 19, .move (.tmp 18), none, true⟩,
  ⟨some 20, .move (.tmp 1), some (19, false), true⟩,
  ⟨some 21, .move (.tmp 0), some (19, false), true⟩,
  ⟨some 22, .binOp .eql 9 (.tmp 20) (.tmp 21) 9, some (19, false), true⟩,
  ⟨some 23, .pick (.tmp 19) (.const (.bool true)) (.tmp 22), none, true⟩,
  ⟨some 16, .assign (.tmp 23), none, true⟩]
theorem k91_r2_e : Eo P pr N k91_r2 e σ Q = Eo P pr N [
  ⟨some 17, .move (.tmp 5), none, true⟩,
  ⟨some 18, .binOp .eql 3 (.tmp 17) (.const (.int .i64 0)) 3, none, true⟩,
  ⟨some 19, .move (.tmp 18), none, true⟩,
  ⟨some 20, .move (.tmp 1), some (19, false), true⟩,
  ⟨some 21, .move (.tmp 0), some (19, false), true⟩,
  ⟨some 22, .binOp .eql 9 (.tmp 20) (.tmp 21) 9, some (19, false), true⟩,
  ⟨some 23, .pick (.tmp 19) (.const (.bool true)) (.tmp 22), none, true⟩,
  ⟨some 16, .assign (.tmp 23), none, true⟩] e σ Q := propext ⟨fun h => h, fun h => h⟩
def k91_r3 : List COp := [
  ⟨some 4, .assign (.const (.int .i64 0)), none, true⟩]
theorem k91_r3_e : Eo P pr N k91_r3 e σ Q = Eo P pr N [
  ⟨some 4, .assign (.const (.int .i64 0)), none, true⟩] e σ Q := propext ⟨fun h => h, fun h => h⟩
def k91_r4 : List COp := [
  ⟨some 25, .move (.tmp 5), none, true⟩,
  ⟨some 26, .binOp .eql 3 (.tmp 25) (.const (.int .i64 1)) 3, none, true⟩,
  ⟨some 24, .assign (.tmp 26), none, true⟩]
theorem k91_r4_e : Eo P pr N k91_r4 e σ Q = Eo P pr N [
  ⟨some 25, .move (.tmp 5), none, true⟩,
  ⟨some 26, .binOp .eql 3 (.tmp 25) (.const (.int .i64 1)) 3, none, true⟩,
  ⟨some 24, .assign (.tmp 26), none, true⟩] e σ Q := propext ⟨fun h => h, fun h => h⟩
def k91_r5 : List COp := [
  ⟨some 27, .move (.tmp 0), none, true⟩,
  ⟨some 28, .move (.tmp 1), none, true⟩,
  ⟨some 29, .index 9 (.tmp 28) (.const (.int .i64 0)), none, true⟩,
  ⟨some 30, .call { callee := .value (.func 98), args := #[.tmp 27, .tmp 29], argTypes := #[9, 5] }, none, true⟩,
  ⟨some 4, .assign (.tmp 30), none, true⟩]
theorem k91_r5_e : Eo P pr N k91_r5 e σ Q = Eo P pr N [
  ⟨some 27, .move (.tmp 0), none, true⟩,
  ⟨some 28, .move (.tmp 1), none, true⟩,
  ⟨some 29, .index 9 (.tmp 28) (.const (.int .i64 0)), none, true⟩,
  ⟨some 30, .call { callee := .value (.func 98), args := #[.tmp 27, .tmp 29], argTypes := #[9, 5] }, none, true⟩,
  ⟨some 4, .assign (.tmp 30), none, true⟩] e σ Q := propext ⟨fun h => h, fun h => h⟩
def k91_r6 : List COp := [
  ⟨some 32, .move (.tmp 5), none, true⟩,
  ⟨some 33, .move (.tmp 0), none, true⟩,
  ⟨some 34, .call { callee := .builtin .len, args := #[.tmp 33], argTypes := #[9] }, none, true⟩,
  ⟨some 35, .binOp .geq 3 (.tmp 32) (.tmp 34) 3, none, true⟩,
  ⟨some 31, .assign (.tmp 35), none, true⟩]
theorem k91_r6_e : Eo P pr N k91_r6 e σ Q = Eo P pr N [
  ⟨some 32, .move (.tmp 5), none, true⟩,
  ⟨some 33, .move (.tmp 0), none, true⟩,
  ⟨some 34, .call { callee := .builtin .len, args := #[.tmp 33], argTypes := #[9] }, none, true⟩,
  ⟨some 35, .binOp .geq 3 (.tmp 32) (.tmp 34) 3, none, true⟩,
  ⟨some 31, .assign (.tmp 35), none, true⟩] e σ Q := propext ⟨fun h => h, fun h => h⟩
def k91_r7 : List COp := [
  ⟨some 4, .assign (.const (.int .i64 (-1))), none, true⟩]
theorem k91_r7_e : Eo P pr N k91_r7 e σ Q = Eo P pr N [
  ⟨some 4, .assign (.const (.int .i64 (-1))), none, true⟩] e σ Q := propext ⟨fun h => h, fun h => h⟩
def k91_r8 : List COp := [
  ⟨some 37, .move (.tmp 5), none, true⟩,
  ⟨some 38, .load 3 (.global 0), none, true⟩,
  ⟨some 39, .binOp .leq 3 (.tmp 37) (.tmp 38) 3, none, true⟩,
  ⟨some 40, .move (.tmp 39), none, true⟩,
  ⟨some 41, .move (.tmp 0), some (40, true), true⟩,
  ⟨some 42, .call { callee := .builtin .len, args := #[.tmp 41], argTypes := #[9] }, some (40, true), true⟩,
  ⟨some 43, .binOp .leq 3 (.tmp 42) (.const (.int .i64 64)) 3, some (40, true), true⟩,
  ⟨some 44, .pick (.tmp 40) (.tmp 43) (.const (.bool false)), none, true⟩,
  ⟨some 36, .assign (.tmp 44), none, true⟩]
theorem k91_r8_e : Eo P pr N k91_r8 e σ Q = Eo P pr N [
  ⟨some 37, .move (.tmp 5), none, true⟩,
  ⟨some 38, .load 3 (.global 0), none, true⟩,
  ⟨some 39, .binOp .leq 3 (.tmp 37) (.tmp 38) 3, none, true⟩,
  ⟨some 40, .move (.tmp 39), none, true⟩,
  ⟨some 41, .move (.tmp 0), some (40, true), true⟩,
  ⟨some 42, .call { callee := .builtin .len, args := #[.tmp 41], argTypes := #[9] }, some (40, true), true⟩,
  ⟨some 43, .binOp .leq 3 (.tmp 42) (.const (.int .i64 64)) 3, some (40, true), true⟩,
  ⟨some 44, .pick (.tmp 40) (.tmp 43) (.const (.bool false)), none, true⟩,
  ⟨some 36, .assign (.tmp 44), none, true⟩] e σ Q := propext ⟨fun h => h, fun h => h⟩
def k91_r9 : List COp := [
  ⟨some 45, .move (.tmp 0), none, true⟩,
  ⟨some 46, .move (.tmp 1), none, true⟩,
  ⟨some 47, .call { callee := .value (.func 99), args := #[.tmp 45, .tmp 46], argTypes := #[9, 9] }, none, true⟩,
  ⟨some 4, .assign (.tmp 47), none, true⟩]
theorem k91_r9_e : Eo P pr N k91_r9 e σ Q = Eo P pr N [
  ⟨some 45, .move (.tmp 0), none, true⟩,
  ⟨some 46, .move (.tmp 1), none, true⟩,
  ⟨some 47, .call { callee := .value (.func 99), args := #[.tmp 45, .tmp 46], argTypes := #[9, 9] }, none, true⟩,
  ⟨some 4, .assign (.tmp 47), none, true⟩] e σ Q := propext ⟨fun h => h, fun h => h⟩
def k91_r10 : List COp := [
  ⟨some 48, .move (.tmp 1), none, true⟩,
  ⟨some 49, .index 9 (.tmp 48) (.const (.int .i64 0)), none, true⟩,
  ⟨some 6, .assign (.tmp 49), none, true⟩]
theorem k91_r10_e : Eo P pr N k91_r10 e σ Q = Eo P pr N [
  ⟨some 48, .move (.tmp 1), none, true⟩,
  ⟨some 49, .index 9 (.tmp 48) (.const (.int .i64 0)), none, true⟩,
  ⟨some 6, .assign (.tmp 49), none, true⟩] e σ Q := propext ⟨fun h => h, fun h => h⟩
def k91_r11 : List COp := [
  ⟨some 50, .move (.tmp 1), none, true⟩,
  ⟨some 51, .index 9 (.tmp 50) (.const (.int .i64 1)), none, true⟩,
  ⟨some 7, .assign (.tmp 51), none, true⟩]
theorem k91_r11_e : Eo P pr N k91_r11 e σ Q = Eo P pr N [
  ⟨some 50, .move (.tmp 1), none, true⟩,
  ⟨some 51, .index 9 (.tmp 50) (.const (.int .i64 1)), none, true⟩,
  ⟨some 7, .assign (.tmp 51), none, true⟩] e σ Q := propext ⟨fun h => h, fun h => h⟩
def k91_r12 : List COp := [
  ⟨some 8, .assign (.const (.int .i64 0)), none, true⟩]
theorem k91_r12_e : Eo P pr N k91_r12 e σ Q = Eo P pr N [
  ⟨some 8, .assign (.const (.int .i64 0)), none, true⟩] e σ Q := propext ⟨fun h => h, fun h => h⟩
def k91_r13 : List COp := [
  ⟨some 52, .move (.tmp 0), none, true⟩,
  ⟨some 53, .call { callee := .builtin .len, args := #[.tmp 52], argTypes := #[9] }, none, true⟩,
  ⟨some 54, .move (.tmp 5), none, true⟩,
  ⟨some 55, .binOp .sub 3 (.tmp 53) (.tmp 54) 3, none, true⟩,
  ⟨some 56, .binOp .add 3 (.tmp 55) (.const (.int .i64 1)) 3, none, true⟩,
  ⟨some 9, .assign (.tmp 56), none, true⟩]
theorem k91_r13_e : Eo P pr N k91_r13 e σ Q = Eo P pr N [
  ⟨some 52, .move (.tmp 0), none, true⟩,
  ⟨some 53, .call { callee := .builtin .len, args := #[.tmp 52], argTypes := #[9] }, none, true⟩,
  ⟨some 54, .move (.tmp 5), none, true⟩,
  ⟨some 55, .binOp .sub 3 (.tmp 53) (.tmp 54) 3, none, true⟩,
  ⟨some 56, .binOp .add 3 (.tmp 55) (.const (.int .i64 1)) 3, none, true⟩,
  ⟨some 9, .assign (.tmp 56), none, true⟩] e σ Q := propext ⟨fun h => h, fun h => h⟩
def k91_r14 : List COp := [
  ⟨some 10, .assign (.const (.int .i64 0)), none, true⟩]
theorem k91_r14_e : Eo P pr N k91_r14 e σ Q = Eo P pr N [
  ⟨some 10, .assign (.const (.int .i64 0)), none, true⟩] e σ Q := propext ⟨fun h => h, fun h => h⟩
def k91_r15 : List COp := [
  ⟨some 57, .move (.tmp 8), none, true⟩,
  ⟨some 58, .move (.tmp 9), none, true⟩,
  ⟨some 59, .binOp .lss 3 (.tmp 57) (.tmp 58) 3, none, true⟩]
theorem k91_r15_e : Eo P pr N k91_r15 e σ Q = Eo P pr N [
  ⟨some 57, .move (.tmp 8), none, true⟩,
  ⟨some 58, .move (.tmp 9), none, true⟩,
  ⟨some 59, .binOp .lss 3 (.tmp 57) (.tmp 58) 3, none, true⟩] e σ Q := propext ⟨fun h => h, fun h => h⟩
def k91_r16 : List COp := [
  ⟨some 60, .move (.tmp 0), none, true⟩,
  ⟨some 61, .move (.tmp 8), none, true⟩,
  ⟨some 62, .index 9 (.tmp 60) (.tmp 61), none, true⟩,
  ⟨some 63, .move (.tmp 6), none, true⟩,
  ⟨some 64, .binOp .neq 5 (.tmp 62) (.tmp 63) 5, none, true⟩]
theorem k91_r16_e : Eo P pr N k91_r16 e σ Q = Eo P pr N [
  ⟨some 60, .move (.tmp 0), none, true⟩,
  ⟨some 61, .move (.tmp 8), none, true⟩,
  ⟨some 62, .index 9 (.tmp 60) (.tmp 61), none, true⟩,
  ⟨some 63, .move (.tmp 6), none, true⟩,
  ⟨some 64, .binOp .neq 5 (.tmp 62) (.tmp 63) 5, none, true⟩] e σ Q := propext ⟨fun h => h, fun h => h⟩
def k91_r17 : List COp := [
  ⟨some 65, .move (.tmp 0), none, true⟩,
  ⟨some 66, .move (.tmp 8), none, true⟩,
  ⟨some 67, .binOp .add 3 (.tmp 66) (.const (.int .i64 1)) 3, none, true⟩,
  ⟨some 68, .move (.tmp 9), none, true⟩,
  ⟨some 69, .slice 9 (.tmp 65) (some (.tmp 67)) (some (.tmp 68)) .none, none, true⟩,
  ⟨some 70, .move (.tmp 6), none, true⟩,
  ⟨some 71, .call { callee := .value (.func 98), args := #[.tmp 69, .tmp 70], argTypes := #[9, 5] }, none, true⟩,
  ⟨some 11, .assign (.tmp 71), none, true⟩]
theorem k91_r17_e : Eo P pr N k91_r17 e σ Q = Eo P pr N [
  ⟨some 65, .move (.tmp 0), none, true⟩,
  ⟨some 66, .move (.tmp 8), none, true⟩,
  ⟨some 67, .binOp .add 3 (.tmp 66) (.const (.int .i64 1)) 3, none, true⟩,
  ⟨some 68, .move (.tmp 9), none, true⟩,
  ⟨some 69, .slice 9 (.tmp 65) (some (.tmp 67)) (some (.tmp 68)) .none, none, true⟩,
  ⟨some 70, .move (.tmp 6), none, true⟩,
  ⟨some 71, .call { callee := .value (.func 98), args := #[.tmp 69, .tmp 70], argTypes := #[9, 5] }, none, true⟩,
  ⟨some 11, .assign (.tmp 71), none, true⟩] e σ Q := propext ⟨fun h => h, fun h => h⟩
def k91_r18 : List COp := [
  ⟨some 72, .move (.tmp 11), none, true⟩,
  ⟨some 73, .binOp .lss 3 (.tmp 72) (.const (.int .i64 0)) 3, none, true⟩]
theorem k91_r18_e : Eo P pr N k91_r18 e σ Q = Eo P pr N [
  ⟨some 72, .move (.tmp 11), none, true⟩,
  ⟨some 73, .binOp .lss 3 (.tmp 72) (.const (.int .i64 0)) 3, none, true⟩] e σ Q := propext ⟨fun h => h, fun h => h⟩
def k91_r19 : List COp := [
  ⟨some 4, .assign (.const (.int .i64 (-1))), none, true⟩]
theorem k91_r19_e : Eo P pr N k91_r19 e σ Q = Eo P pr N [
  ⟨some 4, .assign (.const (.int .i64 (-1))), none, true⟩] e σ Q := propext ⟨fun h => h, fun h => h⟩
def k91_r20 : List COp := [
  ⟨some 74, .move (.tmp 8), none, true⟩,
  ⟨some 75, .move (.tmp 11), none, true⟩,
  ⟨some 76, .binOp .add 3 (.tmp 75) (.const (.int .i64 1)) 3, none, true⟩,
  ⟨some 77, .binOp .add 3 (.tmp 74) (.tmp 76) 3, none, true⟩,
  ⟨some 8, .assign (.tmp 77), none, true⟩]
theorem k91_r20_e : Eo P pr N k91_r20 e σ Q = Eo P pr N [
  ⟨some 74, .move (.tmp 8), none, true⟩,
  ⟨some 75, .move (.tmp 11), none, true⟩,
  ⟨some 76, .binOp .add 3 (.tmp 75) (.const (.int .i64 1)) 3, none, true⟩,
  ⟨some 77, .binOp .add 3 (.tmp 74) (.tmp 76) 3, none, true⟩,
  ⟨some 8, .assign (.tmp 77), none, true⟩] e σ Q := propext ⟨fun h => h, fun h => h⟩
def k91_r21 : List COp := [
  ⟨some 78, .move (.tmp 0), none, true⟩,
  ⟨some 79, .move (.tmp 8), none, true⟩,
  ⟨some 80, .binOp .add 3 (.tmp 79) (.const (.int .i64 1)) 3, none, true⟩,
  ⟨some 81, .index 9 (.tmp 78) (.tmp 80), none, true⟩,
  ⟨some 82, .move (.tmp 7), none, true⟩,
  ⟨some 83, .binOp .eql 5 (.tmp 81) (.tmp 82) 5, none, true⟩,
  ⟨some 84, .move (.tmp 83), none, true⟩,
  ⟨some 85, .move (.tmp 0), some (84, true), true⟩,
  ⟨some 86, .move (.tmp 8), some (84, true), true⟩,
  ⟨some 87, .move (.tmp 8), some (84, true), true⟩,
  ⟨some 88, .move (.tmp 5), some (84, true), true⟩,
  ⟨some 89, .binOp .add 3 (.tmp 87) (.tmp 88) 3, some (84, true), true⟩,
  ⟨some 90, .slice 9 (.tmp 85) (some (.tmp 86)) (some (.tmp 89)) .none, some (84, true), true⟩,
  ⟨some 91, .move (.tmp 1), some (84, true), true⟩,
  ⟨some 92, .binOp .eql 9 (.tmp 90) (.tmp 91) 9, some (84, true), true⟩,
  ⟨some 93, .pick (.tmp 84) (.tmp 92) (.const (.bool false)), none, true⟩]
theorem k91_r21_e : Eo P pr N k91_r21 e σ Q = Eo P pr N [
  ⟨some 78, .move (.tmp 0), none, true⟩,
  ⟨some 79, .move (.tmp 8), none, true⟩,
  ⟨some 80, .binOp .add 3 (.tmp 79) (.const (.int .i64 1)) 3, none, true⟩,
  ⟨some 81, .index 9 (.tmp 78) (.tmp 80), none, true⟩,
  ⟨some 82, .move (.tmp 7), none, true⟩,
  ⟨some 83, .binOp .eql 5 (.tmp 81) (.tmp 82) 5, none, true⟩,
  ⟨some 84, .move (.tmp 83), none, true⟩,
  ⟨some 85, .move (.tmp 0), some (84, true), true⟩,
  ⟨some 86, .move (.tmp 8), some (84, true), true⟩,
  ⟨some 87, .move (.tmp 8), some (84, true), true⟩,
  ⟨some 88, .move (.tmp 5), some (84, true), true⟩,
  ⟨some 89, .binOp .add 3 (.tmp 87) (.tmp 88) 3, some (84, true), true⟩,
  ⟨some 90, .slice 9 (.tmp 85) (some (.tmp 86)) (some (.tmp 89)) .none, some (84, true), true⟩,
  ⟨some 91, .move (.tmp 1), some (84, true), true⟩,
  ⟨some 92, .binOp .eql 9 (.tmp 90) (.tmp 91) 9, some (84, true), true⟩,
  ⟨some 93, .pick (.tmp 84) (.tmp 92) (.const (.bool false)), none, true⟩] e σ Q := propext ⟨fun h => h, fun h => h⟩
def k91_r22 : List COp := [
  ⟨some 94, .move (.tmp 8), none, true⟩,
  ⟨some 4, .assign (.tmp 94), none, true⟩]
theorem k91_r22_e : Eo P pr N k91_r22 e σ Q = Eo P pr N [
  ⟨some 94, .move (.tmp 8), none, true⟩,
  ⟨some 4, .assign (.tmp 94), none, true⟩] e σ Q := propext ⟨fun h => h, fun h => h⟩
def k91_r23 : List COp := [
  ⟨some 95, .move (.tmp 8), none, true⟩,
  ⟨some 96, .binOp .add 3 (.tmp 95) (.const (.int .i64 1)) 3, none, true⟩,
  ⟨some 8, .assign (.tmp 96), none, true⟩]
theorem k91_r23_e : Eo P pr N k91_r23 e σ Q = Eo P pr N [
  ⟨some 95, .move (.tmp 8), none, true⟩,
  ⟨some 96, .binOp .add 3 (.tmp 95) (.const (.int .i64 1)) 3, none, true⟩,
  ⟨some 8, .assign (.tmp 96), none, true⟩] e σ Q := propext ⟨fun h => h, fun h => h⟩
def k91_r24 : List COp := [
  ⟨some 97, .move (.tmp 10), none, true⟩,
  ⟨some 98, .binOp .add 3 (.tmp 97) (.const (.int .i64 1)) 3, none, true⟩,
  ⟨some 10, .assign (.tmp 98), none, true⟩]
theorem k91_r24_e : Eo P pr N k91_r24 e σ Q = Eo P pr N [
  ⟨some 97, .move (.tmp 10), none, true⟩,
  ⟨some 98, .binOp .add 3 (.tmp 97) (.const (.int .i64 1)) 3, none, true⟩,
  ⟨some 10, .assign (.tmp 98), none, true⟩] e σ Q := propext ⟨fun h => h, fun h => h⟩
def k91_r25 : List COp := [
  ⟨some 99, .move (.tmp 5), none, true⟩,
  ⟨some 100, .load 3 (.global 0), none, true⟩,
  ⟨some 101, .binOp .leq 3 (.tmp 99) (.tmp 100) 3, none, true⟩,
  ⟨some 102, .move (.tmp 101), none, true⟩,
  ⟨some 103, .move (.tmp 10), some (102, true), true⟩,
  ⟨some 104, .move (.tmp 8), some (102, true), true⟩,
  ⟨some 105, .call { callee := .value (.func 100), args := #[.tmp 104], argTypes := #[3] }, some (102, true), true⟩,
  ⟨some 106, .binOp .gtr 3 (.tmp 103) (.tmp 105) 3, some (102, true), true⟩,
  ⟨some 107, .pick (.tmp 102) (.tmp 106) (.const (.bool false)), none, true⟩]
theorem k91_r25_e : Eo P pr N k91_r25 e σ Q = Eo P pr N [
  ⟨some 99, .move (.tmp 5), none, true⟩,
  ⟨some 100, .load 3 (.global 0), none, true⟩,
  ⟨some 101, .binOp .leq 3 (.tmp 99) (.tmp 100) 3, none, true⟩,
  ⟨some 102, .move (.tmp 101), none, true⟩,
  ⟨some 103, .move (.tmp 10), some (102, true), true⟩,
  ⟨some 104, .move (.tmp 8), some (102, true), true⟩,
  ⟨some 105, .call { callee := .value (.func 100), args := #[.tmp 104], argTypes := #[3] }, some (102, true), true⟩,
  ⟨some 106, .binOp .gtr 3 (.tmp 103) (.tmp 105) 3, some (102, true), true⟩,
  ⟨some 107, .pick (.tmp 102) (.tmp 106) (.const (.bool false)), none, true⟩] e σ Q := propext ⟨fun h => h, fun h => h⟩
def k91_r26 : List COp := [
  ⟨some 108, .move (.tmp 0), none, true⟩,
  ⟨some 109, .move (.tmp 8), none, true⟩,
  ⟨some 110, .slice 9 (.tmp 108) (some (.tmp 109)) .none .none, none, true⟩,
  ⟨some 111, .move (.tmp 1), none, true⟩,
  ⟨some 112, .call { callee := .value (.func 99), args := #[.tmp 110, .tmp 111], argTypes := #[9, 9] }, none, true⟩,
  ⟨some 12, .assign (.tmp 112), none, true⟩]
theorem k91_r26_e : Eo P pr N k91_r26 e σ Q = Eo P pr N [
  ⟨some 108, .move (.tmp 0), none, true⟩,
  ⟨some 109, .move (.tmp 8), none, true⟩,
  ⟨some 110, .slice 9 (.tmp 108) (some (.tmp 109)) .none .none, none, true⟩,
  ⟨some 111, .move (.tmp 1), none, true⟩,
  ⟨some 112, .call { callee := .value (.func 99), args := #[.tmp 110, .tmp 111], argTypes := #[9, 9] }, none, true⟩,
  ⟨some 12, .assign (.tmp 112), none, true⟩] e σ Q := propext ⟨fun h => h, fun h => h⟩
def k91_r27 : List COp := [
  ⟨some 113, .move (.tmp 12), none, true⟩,
  ⟨some 114, .binOp .geq 3 (.tmp 113) (.const (.int .i64 0)) 3, none, true⟩]
theorem k91_r27_e : Eo P pr N k91_r27 e σ Q = Eo P pr N [
  ⟨some 113, .move (.tmp 12), none, true⟩,
  ⟨some 114, .binOp .geq 3 (.tmp 113) (.const (.int .i64 0)) 3, none, true⟩] e σ Q := propext ⟨fun h => h, fun h => h⟩
def k91_r28 : List COp := [
  ⟨some 115, .move (.tmp 12), none, true⟩,
  ⟨some 116, .move (.tmp 8), none, true⟩,
  ⟨some 117, .binOp .add 3 (.tmp 115) (.tmp 116) 3, none, true⟩,
  ⟨some 4, .assign (.tmp 117), none, true⟩]
theorem k91_r28_e : Eo P pr N k91_r28 e σ Q = Eo P pr N [
  ⟨some 115, .move (.tmp 12), none, true⟩,
  ⟨some 116, .move (.tmp 8), none, true⟩,
  ⟨some 117, .binOp .add 3 (.tmp 115) (.tmp 116) 3, none, true⟩,
  ⟨some 4, .assign (.tmp 117), none, true⟩] e σ Q := propext ⟨fun h => h, fun h => h⟩
def k91_r29 : List COp := [
  ⟨some 4, .assign (.const (.int .i64 (-1))), none, true⟩]
theorem k91_r29_e : Eo P pr N k91_r29 e σ Q = Eo P pr N [
  ⟨some 4, .assign (.const (.int .i64 (-1))), none, true⟩] e σ Q := propext ⟨fun h => h, fun h => h⟩
def k91_r30 : List COp := [
  ⟨some 118, .move (.tmp 5), none, true⟩,
  ⟨some 119, .load 3 (.global 0), none, true⟩,
  ⟨some 120, .binOp .gtr 3 (.tmp 118) (.tmp 119) 3, none, true⟩,
  ⟨some 121, .move (.tmp 120), none, true⟩,
  ⟨some 122, .move (.tmp 10), some (121, true), true⟩,
  ⟨some 123, .move (.tmp 8), some (121, true), true⟩,
  ⟨some 124, .binOp .shr 3 (.tmp 123) (.const (.int .u64 4)) 100, some (121, true), true⟩,
  ⟨some 125, .binOp .add 3 (.const (.int .i64 4)) (.tmp 124) 3, some (121, true), true⟩,
  ⟨some 126, .binOp .geq 3 (.tmp 122) (.tmp 125) 3, some (121, true), true⟩,
  ⟨some 127, .pick (.tmp 121) (.tmp 126) (.const (.bool false)), none, true⟩,
  ⟨some 128, .move (.tmp 127), none, true⟩,
  ⟨some 129, .move (.tmp 8), some (128, true), true⟩,
  ⟨some 130, .move (.tmp 9), some (128, true), true⟩,
  ⟨some 131, .binOp .lss 3 (.tmp 129) (.tmp 130) 3, some (128, true), true⟩,
  ⟨some 132, .pick (.tmp 128) (.tmp 131) (.const (.bool false)), none, true⟩]
theorem k91_r30_e : Eo P pr N k91_r30 e σ Q = Eo P pr N [
  ⟨some 118, .move (.tmp 5), none, true⟩,
  ⟨some 119, .load 3 (.global 0), none, true⟩,
  ⟨some 120, .binOp .gtr 3 (.tmp 118) (.tmp 119) 3, none, true⟩,
  ⟨some 121, .move (.tmp 120), none, true⟩,
  ⟨some 122, .move (.tmp 10), some (121, true), true⟩,
  ⟨some 123, .move (.tmp 8), some (121, true), true⟩,
  ⟨some 124, .binOp .shr 3 (.tmp 123) (.const (.int .u64 4)) 100, some (121, true), true⟩,
  ⟨some 125, .binOp .add 3 (.const (.int .i64 4)) (.tmp 124) 3, some (121, true), true⟩,
  ⟨some 126, .binOp .geq 3 (.tmp 122) (.tmp 125) 3, some (121, true), true⟩,
  ⟨some 127, .pick (.tmp 121) (.tmp 126) (.const (.bool false)), none, true⟩,
  ⟨some 128, .move (.tmp 127), none, true⟩,
  ⟨some 129, .move (.tmp 8), some (128, true), true⟩,
  ⟨some 130, .move (.tmp 9), some (128, true), true⟩,
  ⟨some 131, .binOp .lss 3 (.tmp 129) (.tmp 130) 3, some (128, true), true⟩,
  ⟨some 132, .pick (.tmp 128) (.tmp 131) (.const (.bool false)), none, true⟩] e σ Q := propext ⟨fun h => h, fun h => h⟩
def k91_r31 : List COp := [
  ⟨some 133, .move (.tmp 0), none, true⟩,
  ⟨some 134, .move (.tmp 8), none, true⟩,
  ⟨some 135, .slice 9 (.tmp 133) (some (.tmp 134)) .none .none, none, true⟩,
  ⟨some 136, .move (.tmp 1), none, true⟩,
  ⟨some 137, .call { callee := .value (.func 101), args := #[.tmp 135, .tmp 136], argTypes := #[9, 9] }, none, true⟩,
  ⟨some 13, .assign (.tmp 137), none, true⟩]
theorem k91_r31_e : Eo P pr N k91_r31 e σ Q = Eo P pr N [
  ⟨some 133, .move (.tmp 0), none, true⟩,
  ⟨some 134, .move (.tmp 8), none, true⟩,
  ⟨some 135, .slice 9 (.tmp 133) (some (.tmp 134)) .none .none, none, true⟩,
  ⟨some 136, .move (.tmp 1), none, true⟩,
  ⟨some 137, .call { callee := .value (.func 101), args := #[.tmp 135, .tmp 136], argTypes := #[9, 9] }, none, true⟩,
  ⟨some 13, .assign (.tmp 137), none, true⟩] e σ Q := propext ⟨fun h => h, fun h => h⟩
def k91_r32 : List COp := [
  ⟨some 138, .move (.tmp 13), none, true⟩,
  ⟨some 139, .binOp .lss 3 (.tmp 138) (.const (.int .i64 0)) 3, none, true⟩]
theorem k91_r32_e : Eo P pr N k91_r32 e σ Q = Eo P pr N [
  ⟨some 138, .move (.tmp 13), none, true⟩,
  ⟨some 139, .binOp .lss 3 (.tmp 138) (.const (.int .i64 0)) 3, none, true⟩] e σ Q := propext ⟨fun h => h, fun h => h⟩
def k91_r33 : List COp := [
  ⟨some 4, .assign (.const (.int .i64 (-1))), none, true⟩]
theorem k91_r33_e : Eo P pr N k91_r33 e σ Q = Eo P pr N [
  ⟨some 4, .assign (.const (.int .i64 (-1))), none, true⟩] e σ Q := propext ⟨fun h => h, fun h => h⟩
def k91_r34 : List COp := [
  ⟨some 140, .move (.tmp 8), none, true⟩,
  ⟨some 141, .move (.tmp 13), none, true⟩,
  ⟨some 142, .binOp .add 3 (.tmp 140) (.tmp 141) 3, none, true⟩,
  ⟨some 4, .assign (.tmp 142), none, true⟩]
theorem k91_r34_e : Eo P pr N k91_r34 e σ Q = Eo P pr N [
  ⟨some 140, .move (.tmp 8), none, true⟩,
  ⟨some 141, .move (.tmp 13), none, true⟩,
  ⟨some 142, .binOp .add 3 (.tmp 140) (.tmp 141) 3, none, true⟩,
  ⟨some 4, .assign (.tmp 142), none, true⟩] e σ Q := propext ⟨fun h => h, fun h => h⟩
def k91_l0 : CC := (.seq (.seq (.region k91_r15) (.cond (.tmp 59) .skip (.exit 1))) (.block 2 (.seq (.seq (.region k91_r16) (.cond (.tmp 64) (.seq (.region k91_r17) (.seq (.seq (.region k91_r18) (.cond (.tmp 73) (.seq (.region k91_r19) .ret) .skip)) (.region k91_r20))) .skip)) (.seq (.seq (.region k91_r21) (.cond (.tmp 93) (.seq (.region k91_r22) .ret) .skip)) (.seq (.region k91_r23) (.seq (.region k91_r24) (.seq (.region k91_r25) (.cond (.tmp 107) (.seq (.region k91_r26) (.seq (.seq (.region k91_r27) (.cond (.tmp 114) (.seq (.region k91_r28) .ret) .skip)) (.seq (.region k91_r29) .ret))) (.seq (.region k91_r30) (.cond (.tmp 132) (.seq (.region k91_r31) (.seq (.seq (.region k91_r32) (.cond (.tmp 139) (.seq (.region k91_r33) .ret) .skip)) (.seq (.region k91_r34) .ret))) .skip))))))))))
theorem k91_l0_e : Ev P pr N k91_l0 e σ Q = Ev P pr N (.seq (.seq (.region k91_r15) (.cond (.tmp 59) .skip (.exit 1))) (.block 2 (.seq (.seq (.region k91_r16) (.cond (.tmp 64) (.seq (.region k91_r17) (.seq (.seq (.region k91_r18) (.cond (.tmp 73) (.seq (.region k91_r19) .ret) .skip)) (.region k91_r20))) .skip)) (.seq (.seq (.region k91_r21) (.cond (.tmp 93) (.seq (.region k91_r22) .ret) .skip)) (.seq (.region k91_r23) (.seq (.region k91_r24) (.seq (.region k91_r25) (.cond (.tmp 107) (.seq (.region k91_r26) (.seq (.seq (.region k91_r27) (.cond (.tmp 114) (.seq (.region k91_r28) .ret) .skip)) (.seq (.region k91_r29) .ret))) (.seq (.region k91_r30) (.cond (.tmp 132) (.seq (.region k91_r31) (.seq (.seq (.region k91_r32) (.cond (.tmp 139) (.seq (.region k91_r33) .ret) .skip)) (.seq (.region k91_r34) .ret))) .skip)))))))))) e σ Q := propext ⟨fun h => h, fun h => h⟩
def k91_r35 : List COp := [
  ⟨some 4, .assign (.const (.int .i64 (-1))), none, true⟩]
theorem k91_r35_e : Eo P pr N k91_r35 e σ Q = Eo P pr N [
  ⟨some 4, .assign (.const (.int .i64 (-1))), none, true⟩] e σ Q := propext ⟨fun h => h, fun h => h⟩
def k91 : CC := (.seq (.region k91_r0) (.seq (.region k91_r1) (.seq (.block 0 (.seq (.region k91_r2) (.cond (.tmp 16) (.seq (.region k91_r3) .ret) (.seq (.region k91_r4) (.cond (.tmp 24) (.seq (.region k91_r5) .ret) (.seq (.region k91_r6) (.cond (.tmp 31) (.seq (.region k91_r7) .ret) (.seq (.region k91_r8) (.cond (.tmp 36) (.seq (.region k91_r9) .ret) .skip))))))))) (.seq (.region k91_r10) (.seq (.region k91_r11) (.seq (.region k91_r12) (.seq (.region k91_r13) (.seq (.region k91_r14) (.seq (.block 1 (.loop k91_l0)) (.seq (.region k91_r35) .ret))))))))))
theorem k91_e : Ev P pr N k91 e σ Q = Ev P pr N (.seq (.region k91_r0) (.seq (.region k91_r1) (.seq (.block 0 (.seq (.region k91_r2) (.cond (.tmp 16) (.seq (.region k91_r3) .ret) (.seq (.region k91_r4) (.cond (.tmp 24) (.seq (.region k91_r5) .ret) (.seq (.region k91_r6) (.cond (.tmp 31) (.seq (.region k91_r7) .ret) (.seq (.region k91_r8) (.cond (.tmp 36) (.seq (.region k91_r9) .ret) .skip))))))))) (.seq (.region k91_r10) (.seq (.region k91_r11) (.seq (.region k91_r12) (.seq (.region k91_r13) (.seq (.region k91_r14) (.seq (.block 1 (.loop k91_l0)) (.seq (.region k91_r35) .ret)))))))))) e σ Q := propext ⟨fun h => h, fun h => h⟩
/-- internal/stringslite.Index -/
theorem k91_is : FnIs Try.prog prims 91 143 [ResultVar.tmp 4] k91 := FnIs.of_fn Try.func91 (by kernel_rfl) rfl
def k92_r0 : List COp := [
  ⟨some 4, .assign (.const (.int .i64 0)), none, true⟩]
theorem k92_r0_e : Eo P pr N k92_r0 e σ Q = Eo P pr N [
  ⟨some 4, .assign (.const (.int .i64 0)), none, true⟩] e σ Q := propext ⟨fun h => h, fun h => h⟩
def k92_r1 : List COp := [
  ⟨some 6, .move (.tmp 0), none, true⟩,
  ⟨some 7, .call { callee := .builtin .len, args := #[.tmp 6], argTypes := #[22] }, none, true⟩,
  ⟨some 8, .move (.const (.int .i64 0)), none, true⟩]
theorem k92_r1_e : Eo P pr N k92_r1 e σ Q = Eo P pr N [
  ⟨some 6, .move (.tmp 0), none, true⟩,
  ⟨some 7, .call { callee := .builtin .len, args := #[.tmp 6], argTypes := #[22] }, none, true⟩,
  ⟨some 8, .move (.const (.int .i64 0)), none, true⟩] e σ Q := propext ⟨fun h => h, fun h => h⟩
def k92_r2 : List COp := [
  ⟨some 9, .binOp .lss 3 (.tmp 8) (.tmp 7) 3, none, true⟩]
theorem k92_r2_e : Eo P pr N k92_r2 e σ Q = Eo P pr N [
  ⟨some 9, .binOp .lss 3 (.tmp 8) (.tmp 7) 3, none, true⟩] e σ Q := propext ⟨fun h => h, fun h => h⟩
def k92_r3 : List COp := [
  ⟨some 10, .move (.tmp 8), none, true⟩,
  ⟨some 5, .assign (.tmp 10), none, true⟩]
theorem k92_r3_e : Eo P pr N k92_r3 e σ Q = Eo P pr N [
  ⟨some 10, .move (.tmp 8), none, true⟩,
  ⟨some 5, .assign (.tmp 10), none, true⟩] e σ Q := propext ⟨fun h => h, fun h => h⟩
def k92_r4 : List COp := [
  ⟨some 11, .move (.tmp 1), none, true⟩,
  ⟨some 12, .move (.tmp 0), none, true⟩,
  ⟨some 13, .move (.tmp 5), none, true⟩,
  ⟨some 14, .indexAddr 22 (.tmp 12) (.tmp 13), none, true⟩,
  ⟨some 15, .load 24 (.tmp 14), none, true⟩,
  ⟨some 16, .call { callee := .value (.tmp 11), args := #[.tmp 15], argTypes := #[24] }, none, true⟩]
theorem k92_r4_e : Eo P pr N k92_r4 e σ Q = Eo P pr N [
  ⟨some 11, .move (.tmp 1), none, true⟩,
  ⟨some 12, .move (.tmp 0), none, true⟩,
  ⟨some 13, .move (.tmp 5), none, true⟩,
  ⟨some 14, .indexAddr 22 (.tmp 12) (.tmp 13), none, true⟩,
  ⟨some 15, .load 24 (.tmp 14), none, true⟩,
  ⟨some 16, .call { callee := .value (.tmp 11), args := #[.tmp 15], argTypes := #[24] }, none, true⟩] e σ Q := propext ⟨fun h => h, fun h => h⟩
def k92_r5 : List COp := [
  ⟨some 17, .move (.tmp 5), none, true⟩,
  ⟨some 4, .assign (.tmp 17), none, true⟩]
theorem k92_r5_e : Eo P pr N k92_r5 e σ Q = Eo P pr N [
  ⟨some 17, .move (.tmp 5), none, true⟩,
  ⟨some 4, .assign (.tmp 17), none, true⟩] e σ Q := propext ⟨fun h => h, fun h => h⟩
def k92_r6 : List COp := [
  ⟨some 18, .binOp .add 3 (.tmp 8) (.const (.int .i64 1)) 3, none, true⟩,
  ⟨some 8, .move (.tmp 18), none, true⟩]
theorem k92_r6_e : Eo P pr N k92_r6 e σ Q = Eo P pr N [
  ⟨some 18, .binOp .add 3 (.tmp 8) (.const (.int .i64 1)) 3, none, true⟩,
  ⟨some 8, .move (.tmp 18), none, true⟩] e σ Q := propext ⟨fun h => h, fun h => h⟩
def k92_l0 : CC := (.seq (.region k92_r2) (.seq (.cond (.tmp 9) .skip (.exit 0)) (.seq (.block 1 (.seq (.region k92_r3) (.seq (.region k92_r4) (.cond (.tmp 16) (.seq (.region k92_r5) .ret) .skip)))) (.region k92_r6))))
theorem k92_l0_e : Ev P pr N k92_l0 e σ Q = Ev P pr N (.seq (.region k92_r2) (.seq (.cond (.tmp 9) .skip (.exit 0)) (.seq (.block 1 (.seq (.region k92_r3) (.seq (.region k92_r4) (.cond (.tmp 16) (.seq (.region k92_r5) .ret) .skip)))) (.region k92_r6)))) e σ Q := propext ⟨fun h => h, fun h => h⟩
def k92_r7 : List COp := [
  ⟨some 4, .assign (.const (.int .i64 (-1))), none, true⟩]
theorem k92_r7_e : Eo P pr N k92_r7 e σ Q = Eo P pr N [
  ⟨some 4, .assign (.const (.int .i64 (-1))), none, true⟩] e σ Q := propext ⟨fun h => h, fun h => h⟩
def k92 : CC := (.seq (.region k92_r0) (.seq (.seq (.region k92_r1) (.block 0 (.loop k92_l0))) (.seq (.region k92_r7) .ret)))
theorem k92_e : Ev P pr N k92 e σ Q = Ev P pr N (.seq (.region k92_r0) (.seq (.seq (.region k92_r1) (.block 0 (.loop k92_l0))) (.seq (.region k92_r7) .ret))) e σ Q := propext ⟨fun h => h, fun h => h⟩
/-- slices.IndexFunc[[]quern/api.Value,quern/api.Value] -/
theorem k92_is : FnIs Try.prog prims 92 19 [ResultVar.tmp 4] k92 := FnIs.of_fn Try.func92 (by kernel_rfl) rfl
def k94_r0 : List COp := [
  ⟨some 2, .assign (.const (.int .i64 0)), none, true⟩,
  ⟨some 3, .assign (.const (.int .i64 0)), none, true⟩]
theorem k94_r0_e : Eo P pr N k94_r0 e σ Q = Eo P pr N [
  ⟨some 2, .assign (.const (.int .i64 0)), none, true⟩,
  ⟨some 3, .assign (.const (.int .i64 0)), none, true⟩] e σ Q := propext ⟨fun h => h, fun h => h⟩
def k94_r1 : List COp := [
  ⟨some 4, .assign (.const (.int .i64 0)), none, true⟩]
theorem k94_r1_e : Eo P pr N k94_r1 e σ Q = Eo P pr N [
  ⟨some 4, .assign (.const (.int .i64 0)), none, true⟩] e σ Q := propext ⟨fun h => h, fun h => h⟩
def k94_r2 : List COp := [
  ⟨some 5, .assign (.const (.int .i64 0)), none, true⟩]
theorem k94_r2_e : Eo P pr N k94_r2 e σ Q = Eo P pr N [
  ⟨some 5, .assign (.const (.int .i64 0)), none, true⟩] e σ Q := propext ⟨fun h => h, fun h => h⟩
def k94_r3 : List COp := [
  ⟨some 6, .move (.tmp 5), none, true⟩,
  ⟨some 7, .move (.tmp 0), none, true⟩,
  ⟨some 8, .call { callee := .builtin .len, args := #[.tmp 7], argTypes := #[44] }, none, true⟩,
  ⟨some 9, .binOp .lss 3 (.tmp 6) (.tmp 8) 3, none, true⟩,
  ⟨some 10, .move (.tmp 9), none, true⟩,
  ⟨some 11, .move (.tmp 5), some (10, true), true⟩,
  ⟨some 12, .binOp .lss 3 (.tmp 11) (.const (.int .i64 9)) 3, some (10, true), true⟩,
  ⟨some 13, .pick (.tmp 10) (.tmp 12) (.const (.bool false)), none, true⟩]
theorem k94_r3_e : Eo P pr N k94_r3 e σ Q = Eo P pr N [
  ⟨some 6, .move (.tmp 5), none, true⟩,
  ⟨some 7, .move (.tmp 0), none, true⟩,
  ⟨some 8, .call { callee := .builtin .len, args := #[.tmp 7], argTypes := #[44] }, none, true⟩,
  ⟨some 9, .binOp .lss 3 (.tmp 6) (.tmp 8) 3, none, true⟩,
  ⟨some 10, .move (.tmp 9), none, true⟩,
  ⟨some 11, .move (.tmp 5), some (10, true), true⟩,
  ⟨some 12, .binOp .lss 3 (.tmp 11) (.const (.int .i64 9)) 3, some (10, true), true⟩,
  ⟨some 13, .pick (.tmp 10) (.tmp 12) (.const (.bool false)), none, true⟩] e σ Q := propext ⟨fun h => h, fun h => h⟩
def k94_r5 : List COp := [
  ⟨some 16, .move (.tmp 4), none, true⟩,
  ⟨some 17, .move (.tmp 0), none, true⟩,
  ⟨some 18, .move (.tmp 5), none, true⟩,
  ⟨some 19, .indexAddr 44 (.tmp 17) (.tmp 18), none, true⟩,
  ⟨some 20, .load 5 (.tmp 19), none, true⟩,
  ⟨some 21, .binOp .and 5 (.tmp 20) (.const (.int .u8 127)) 5, none, true⟩,
  ⟨some 22, .convert 5 3 (.tmp 21), none, true⟩,
  ⟨some 23, .move (.tmp 5), none, true⟩,
  ⟨some 24, .binOp .mul 3 (.const (.int .i64 7)) (.tmp 23) 3, none, true⟩,
  ⟨some 25, .binOp .shl 3 (.tmp 22) (.tmp 24) 3, none, true⟩,
  ⟨some 26, .binOp .or 3 (.tmp 16) (.tmp 25) 3, none, true⟩,
  ⟨some 4, .assign (.tmp 26), none, true⟩]
theorem k94_r5_e : Eo P pr N k94_r5 e σ Q = Eo P pr N [
  ⟨some 16, .move (.tmp 4), none, true⟩,
  ⟨some 17, .move (.tmp 0), none, true⟩,
  ⟨some 18, .move (.tmp 5), none, true⟩,
  ⟨some 19, .indexAddr 44 (.tmp 17) (.tmp 18), none, true⟩,
  ⟨some 20, .load 5 (.tmp 19), none, true⟩,
  ⟨some 21, .binOp .and 5 (.tmp 20) (.const (.int .u8 127)) 5, none, true⟩,
  ⟨some 22, .convert 5 3 (.tmp 21), none, true⟩,
  ⟨some 23, .move (.tmp 5), none, true⟩,
  ⟨some 24, .binOp .mul 3 (.const (.int .i64 7)) (.tmp 23) 3, none, true⟩,
  ⟨some 25, .binOp .shl 3 (.tmp 22) (.tmp 24) 3, none, true⟩,
  ⟨some 26, .binOp .or 3 (.tmp 16) (.tmp 25) 3, none, true⟩,
  ⟨some 4, .assign (.tmp 26), none, true⟩] e σ Q := propext ⟨fun h => h, fun h => h⟩
def k94_r6 : List COp := [
  ⟨some 27, .move (.tmp 0), none, true⟩,
  ⟨some 28, .move (.tmp 5), none, true⟩,
  ⟨some 29, .indexAddr 44 (.tmp 27) (.tmp 28), none, true⟩,
  ⟨some 30, .load 5 (.tmp 29), none, true⟩,
  ⟨some 31, .binOp .gtr 5 (.tmp 30) (.const (.int .u8 127)) 5, none, true⟩]
theorem k94_r6_e : Eo P pr N k94_r6 e σ Q = Eo P pr N [
  ⟨some 27, .move (.tmp 0), none, true⟩,
  ⟨some 28, .move (.tmp 5), none, true⟩,
  ⟨some 29, .indexAddr 44 (.tmp 27) (.tmp 28), none, true⟩,
  ⟨some 30, .load 5 (.tmp 29), none, true⟩,
  ⟨some 31, .binOp .gtr 5 (.tmp 30) (.const (.int .u8 127)) 5, none, true⟩] e σ Q := propext ⟨fun h => h, fun h => h⟩
def k94_r7 : List COp := [
  ⟨some 32, .move (.tmp 0), none, true⟩,
  ⟨some 33, .move (.tmp 5), none, true⟩,
  ⟨some 34, .indexAddr 44 (.tmp 32) (.tmp 33), none, true⟩,
  ⟨some 35, .load 5 (.tmp 34), none, true⟩,
  ⟨some 36, .binOp .eql 5 (.tmp 35) (.const (.int .u8 0)) 5, none, true⟩,
  ⟨some 37, .move (.tmp 36), none, true⟩,
  ⟨some 38, .move (.tmp 5), some (37, true), true⟩,
  ⟨some 39, .binOp .gtr 3 (.tmp 38) (.const (.int .i64 0)) 3, some (37, true), true⟩,
  ⟨some 40, .pick (.tmp 37) (.tmp 39) (.const (.bool false)), none, true⟩]
theorem k94_r7_e : Eo P pr N k94_r7 e σ Q = Eo P pr N [
  ⟨some 32, .move (.tmp 0), none, true⟩,
  ⟨some 33, .move (.tmp 5), none, true⟩,
  ⟨some 34, .indexAddr 44 (.tmp 32) (.tmp 33), none, true⟩,
  ⟨some 35, .load 5 (.tmp 34), none, true⟩,
  ⟨some 36, .binOp .eql 5 (.tmp 35) (.const (.int .u8 0)) 5, none, true⟩,
  ⟨some 37, .move (.tmp 36), none, true⟩,
  ⟨some 38, .move (.tmp 5), some (37, true), true⟩,
  ⟨some 39, .binOp .gtr 3 (.tmp 38) (.const (.int .i64 0)) 3, some (37, true), true⟩,
  ⟨some 40, .pick (.tmp 37) (.tmp 39) (.const (.bool false)), none, true⟩] e σ Q := propext ⟨fun h => h, fun h => h⟩
def k94_r8 : List COp := [
  ⟨some 41, .move (.tmp 4), none, true⟩,
  ⟨some 42, .move (.tmp 5), none, true⟩,
  ⟨some 43, .binOp .add 3 (.tmp 42) (.const (.int .i64 1)) 3, none, true⟩,
  ⟨some 2, .assign (.tmp 41), none, true⟩,
  ⟨some 3, .assign (.tmp 43), none, true⟩]
theorem k94_r8_e : Eo P pr N k94_r8 e σ Q = Eo P pr N [
  ⟨some 41, .move (.tmp 4), none, true⟩,
  ⟨some 42, .move (.tmp 5), none, true⟩,
  ⟨some 43, .binOp .add 3 (.tmp 42) (.const (.int .i64 1)) 3, none, true⟩,
  ⟨some 2, .assign (.tmp 41), none, true⟩,
  ⟨some 3, .assign (.tmp 43), none, true⟩] e σ Q := propext ⟨fun h => h, fun h => h⟩
def k94_r4 : List COp := [
  ⟨some 14, .move (.tmp 5), none, true⟩,
  ⟨some 15, .binOp .add 3 (.tmp 14) (.const (.int .i64 1)) 3, none, true⟩,
  ⟨some 5, .assign (.tmp 15), none, true⟩]
theorem k94_r4_e : Eo P pr N k94_r4 e σ Q = Eo P pr N [
  ⟨some 14, .move (.tmp 5), none, true⟩,
  ⟨some 15, .binOp .add 3 (.tmp 14) (.const (.int .i64 1)) 3, none, true⟩,
  ⟨some 5, .assign (.tmp 15), none, true⟩] e σ Q := propext ⟨fun h => h, fun h => h⟩
def k94_l0 : CC := (.seq (.seq (.region k94_r3) (.cond (.tmp 13) .skip (.exit 0))) (.seq (.block 1 (.seq (.region k94_r5) (.seq (.seq (.region k94_r6) (.cond (.tmp 31) (.exit 1) .skip)) (.seq (.seq (.region k94_r7) (.cond (.tmp 40) (.exit 0) .skip)) (.seq (.region k94_r8) .ret))))) (.region k94_r4)))
theorem k94_l0_e : Ev P pr N k94_l0 e σ Q = Ev P pr N (.seq (.seq (.region k94_r3) (.cond (.tmp 13) .skip (.exit 0))) (.seq (.block 1 (.seq (.region k94_r5) (.seq (.seq (.region k94_r6) (.cond (.tmp 31) (.exit 1) .skip)) (.seq (.seq (.region k94_r7) (.cond (.tmp 40) (.exit 0) .skip)) (.seq (.region k94_r8) .ret))))) (.region k94_r4))) e σ Q := propext ⟨fun h => h, fun h => h⟩
def k94_r9 : List COp := [
  ⟨some 2, .assign (.const (.int .i64 0)), none, true⟩,
  ⟨some 3, .assign (.const (.int .i64 0)), none, true⟩]
theorem k94_r9_e : Eo P pr N k94_r9 e σ Q = Eo P pr N [
  ⟨some 2, .assign (.const (.int .i64 0)), none, true⟩,
  ⟨some 3, .assign (.const (.int .i64 0)), none, true⟩] e σ Q := propext ⟨fun h => h, fun h => h⟩
def k94 : CC := (.seq (.region k94_r0) (.seq (.region k94_r1) (.seq (.seq (.region k94_r2) (.block 0 (.loop k94_l0))) (.seq (.region k94_r9) .ret))))
theorem k94_e : Ev P pr N k94 e σ Q = Ev P pr N (.seq (.region k94_r0) (.seq (.region k94_r1) (.seq (.seq (.region k94_r2) (.block 0 (.loop k94_l0))) (.seq (.region k94_r9) .ret)))) e σ Q := propext ⟨fun h => h, fun h => h⟩
/-- quern/pack.Take -/
theorem k94_is : FnIs Try.prog prims 94 44 [ResultVar.tmp 2, ResultVar.tmp 3] k94 := FnIs.of_fn Try.func94 (by kernel_rfl) rfl
def k95_r0 : List COp := [
  ⟨some 2, .assign (.const (.int .i64 0)), none, true⟩,
  ⟨some 3, .assign (.const (.int .i64 0)), none, true⟩]
theorem k95_r0_e : Eo P pr N k95_r0 e σ Q = Eo P pr N [
  ⟨some 2, .assign (.const (.int .i64 0)), none, true⟩,
  ⟨some 3, .assign (.const (.int .i64 0)), none, true⟩] e σ Q := propext ⟨fun h => h, fun h => h⟩
def k95_r1 : List COp := [
  ⟨some 4, .assign (.const (.int .i64 0)), none, true⟩]
theorem k95_r1_e : Eo P pr N k95_r1 e σ Q = Eo P pr N [
  ⟨some 4, .assign (.const (.int .i64 0)), none, true⟩] e σ Q := propext ⟨fun h => h, fun h => h⟩
def k95_r2 : List COp := [
  ⟨some 7, .move (.tmp 4), none, true⟩,
  ⟨some 8, .move (.tmp 0), none, true⟩,
  ⟨some 9, .call { callee := .builtin .len, args := #[.tmp 8], argTypes := #[44] }, none, true⟩,
  ⟨some 10, .binOp .lss 3 (.tmp 7) (.tmp 9) 3, none, true⟩,
  ⟨some 11, .move (.tmp 10), none, true⟩,
  ⟨some 12, .move (.tmp 0), some (11, true), true⟩,
  ⟨some 13, .move (.tmp 4), some (11, true), true⟩,
  ⟨some 14, .indexAddr 44 (.tmp 12) (.tmp 13), some (11, true), true⟩,
  ⟨some 15, .load 5 (.tmp 14), some (11, true), true⟩,
  ⟨some 16, .binOp .geq 5 (.tmp 15) (.const (.int .u8 128)) 5, some (11, true), true⟩,
  ⟨some 17, .pick (.tmp 11) (.tmp 16) (.const (.bool false)), none, true⟩]
theorem k95_r2_e : Eo P pr N k95_r2 e σ Q = Eo P pr N [
  ⟨some 7, .move (.tmp 4), none, true⟩,
  ⟨some 8, .move (.tmp 0), none, true⟩,
  ⟨some 9, .call { callee := .builtin .len, args := #[.tmp 8], argTypes := #[44] }, none, true⟩,
  ⟨some 10, .binOp .lss 3 (.tmp 7) (.tmp 9) 3, none, true⟩,
  ⟨some 11, .move (.tmp 10), none, true⟩,
  ⟨some 12, .move (.tmp 0), some (11, true), true⟩,
  ⟨some 13, .move (.tmp 4), some (11, true), true⟩,
  ⟨some 14, .indexAddr 44 (.tmp 12) (.tmp 13), some (11, true), true⟩,
  ⟨some 15, .load 5 (.tmp 14), some (11, true), true⟩,
  ⟨some 16, .binOp .geq 5 (.tmp 15) (.const (.int .u8 128)) 5, some (11, true), true⟩,
  ⟨some 17, .pick (.tmp 11) (.tmp 16) (.const (.bool false)), none, true⟩] e σ Q := propext ⟨fun h => h, fun h => h⟩
def k95_r3 : List COp := [
  ⟨some 18, .move (.tmp 4), none, true⟩,
  ⟨some 19, .binOp .add 3 (.tmp 18) (.const (.int .i64 1)) 3, none, true⟩,
  ⟨some 4, .assign (.tmp 19), none, true⟩]
theorem k95_r3_e : Eo P pr N k95_r3 e σ Q = Eo P pr N [
  ⟨some 18, .move (.tmp 4), none, true⟩,
  ⟨some 19, .binOp .add 3 (.tmp 18) (.const (.int .i64 1)) 3, none, true⟩,
  ⟨some 4, .assign (.tmp 19), none, true⟩] e σ Q := propext ⟨fun h => h, fun h => h⟩
def k95_l0 : CC := (.seq (.seq (.region k95_r2) (.cond (.tmp 17) .skip (.exit 0))) (.block 1 (.region k95_r3)))
theorem k95_l0_e : Ev P pr N k95_l0 e σ Q = Ev P pr N (.seq (.seq (.region k95_r2) (.cond (.tmp 17) .skip (.exit 0))) (.block 1 (.region k95_r3))) e σ Q := propext ⟨fun h => h, fun h => h⟩
def k95_r4 : List COp := [
  ⟨some 20, .move (.tmp 4), none, true⟩,
  ⟨some 21, .move (.tmp 0), none, true⟩,
  ⟨some 22, .call { callee := .builtin .len, args := #[.tmp 21], argTypes := #[44] }, none, true⟩,
  ⟨some 23, .binOp .geq 3 (.tmp 20) (.tmp 22) 3, none, true⟩,
  ⟨some 24, .move (.tmp 23), none, true⟩,
  ⟨some 25, .move (.tmp 4), some (24, false), true⟩,
  ⟨some 26, .binOp .geq 3 (.tmp 25) (.const (.int .i64 9)) 3, some (24, false), true⟩,
  ⟨some 27, .pick (.tmp 24) (.const (.bool true)) (.tmp 26), none, true⟩,
  ⟨some 28, .move (.tmp 27), none, true⟩,
  ⟨some 29, .move (.tmp 4), some (28, false), true⟩,
  ⟨some 30, .binOp .gtr 3 (.tmp 29) (.const (.int .i64 0)) 3, some (28, false), true⟩,
  ⟨some 31, .move (.tmp 30), some (28, false), true⟩,
  ⟨some 32, .move (.tmp 0), some (31, true), true⟩,
  ⟨some 33, .move (.tmp 4), some (31, true), true⟩,
  ⟨some 34, .indexAddr 44 (.tmp 32) (.tmp 33), some (31, true), true⟩,
  ⟨some 35, .load 5 (.tmp 34), some (31, true), true⟩,
  ⟨some 36, .binOp .eql 5 (.tmp 35) (.const (.int .u8 0)) 5, some (31, true), true⟩,
  ⟨some 37, .pick (.tmp 31) (.tmp 36) (.const (.bool false)), some (28, false), true⟩,
  ⟨some 38, .pick (.tmp 28) (.const (.bool true)) (.tmp 37), none, true⟩]
theorem k95_r4_e : Eo P pr N k95_r4 e σ Q = Eo P pr N [
  ⟨some 20, .move (.tmp 4), none, true⟩,
  ⟨some 21, .move (.tmp 0), none, true⟩,
  ⟨some 22, .call { callee := .builtin .len, args := #[.tmp 21], argTypes := #[44] }, none, true⟩,
  ⟨some 23, .binOp .geq 3 (.tmp 20) (.tmp 22) 3, none, true⟩,
  ⟨some 24, .move (.tmp 23), none, true⟩,
  ⟨some 25, .move (.tmp 4), some (24, false), true⟩,
  ⟨some 26, .binOp .geq 3 (.tmp 25) (.const (.int .i64 9)) 3, some (24, false), true⟩,
  ⟨some 27, .pick (.tmp 24) (.const (.bool true)) (.tmp 26), none, true⟩,
  ⟨some 28, .move (.tmp 27), none, true⟩,
  ⟨some 29, .move (.tmp 4), some (28, false), true⟩,
  ⟨some 30, .binOp .gtr 3 (.tmp 29) (.const (.int .i64 0)) 3, some (28, false), true⟩,
  ⟨some 31, .move (.tmp 30), some (28, false), true⟩,
  ⟨some 32, .move (.tmp 0), some (31, true), true⟩,
  ⟨some 33, .move (.tmp 4), some (31, true), true⟩,
  ⟨some 34, .indexAddr 44 (.tmp 32) (.tmp 33), some (31, true), true⟩,
  ⟨some 35, .load 5 (.tmp 34), some (31, true), true⟩,
  ⟨some 36, .binOp .eql 5 (.tmp 35) (.const (.int .u8 0)) 5, some (31, true), true⟩,
  ⟨some 37, .pick (.tmp 31) (.tmp 36) (.const (.bool false)), some (28, false), true⟩,
  ⟨some 38, .pick (.tmp 28) (.const (.bool true)) (.tmp 37), none, true⟩] e σ Q := propext ⟨fun h => h, fun h => h⟩
def k95_r5 : List COp := [
  ⟨some 2, .assign (.const (.int .i64 0)), none, true⟩,
  ⟨some 3, .assign (.const (.int .i64 0)), none, true⟩]
theorem k95_r5_e : Eo P pr N k95_r5 e σ Q = Eo P pr N [
  ⟨some 2, .assign (.const (.int .i64 0)), none, true⟩,
  ⟨some 3, .assign (.const (.int .i64 0)), none, true⟩] e σ Q := propext ⟨fun h => h, fun h => h⟩
def k95_r6 : List COp := [
  ⟨some 5, .assign (.const (.int .i64 0)), none, true⟩]
theorem k95_r6_e : Eo P pr N k95_r6 e σ Q = Eo P pr N [
  ⟨some 5, .assign (.const (.int .i64 0)), none, true⟩] e σ Q := propext ⟨fun h => h, fun h => h⟩
def k95_r7 : List COp := [
  ⟨some 39, .move (.tmp 4), none, true⟩,
  ⟨some 6, .assign (.tmp 39), none, true⟩]
theorem k95_r7_e : Eo P pr N k95_r7 e σ Q = Eo P pr N [
  ⟨some 39, .move (.tmp 4), none, true⟩,
  ⟨some 6, .assign (.tmp 39), none, true⟩] e σ Q := propext ⟨fun h => h, fun h => h⟩
def k95_r8 : List COp := [
  ⟨some 40, .move (.tmp 6), none, true⟩,
  ⟨some 41, .binOp .geq 3 (.tmp 40) (.const (.int .i64 0)) 3, none, true⟩]
theorem k95_r8_e : Eo P pr N k95_r8 e σ Q = Eo P pr N [
  ⟨some 40, .move (.tmp 6), none, true⟩,
  ⟨some 41, .binOp .geq 3 (.tmp 40) (.const (.int .i64 0)) 3, none, true⟩] e σ Q := propext ⟨fun h => h, fun h => h⟩
def k95_r10 : List COp := [
  ⟨some 44, .move (.tmp 5), none, true⟩,
  ⟨some 45, .binOp .mul 3 (.tmp 44) (.const (.int .i64 128)) 3, none, true⟩,
  ⟨some 46, .move (.tmp 0), none, true⟩,
  ⟨some 47, .move (.tmp 6), none, true⟩,
  ⟨some 48, .indexAddr 44 (.tmp 46) (.tmp 47), none, true⟩,
  ⟨some 49, .load 5 (.tmp 48), none, true⟩,
  ⟨some 50, .convert 5 3 (.tmp 49), none, true⟩,
  ⟨some 51, .binOp .rem 3 (.tmp 50) (.const (.int .i64 128)) 3, none, true⟩,
  ⟨some 52, .binOp .add 3 (.tmp 45) (.tmp 51) 3, none, true⟩,
  ⟨some 5, .assign (.tmp 52), none, true⟩]
theorem k95_r10_e : Eo P pr N k95_r10 e σ Q = Eo P pr N [
  ⟨some 44, .move (.tmp 5), none, true⟩,
  ⟨some 45, .binOp .mul 3 (.tmp 44) (.const (.int .i64 128)) 3, none, true⟩,
  ⟨some 46, .move (.tmp 0), none, true⟩,
  ⟨some 47, .move (.tmp 6), none, true⟩,
  ⟨some 48, .indexAddr 44 (.tmp 46) (.tmp 47), none, true⟩,
  ⟨some 49, .load 5 (.tmp 48), none, true⟩,
  ⟨some 50, .convert 5 3 (.tmp 49), none, true⟩,
  ⟨some 51, .binOp .rem 3 (.tmp 50) (.const (.int .i64 128)) 3, none, true⟩,
  ⟨some 52, .binOp .add 3 (.tmp 45) (.tmp 51) 3, none, true⟩,
  ⟨some 5, .assign (.tmp 52), none, true⟩] e σ Q := propext ⟨fun h => h, fun h => h⟩
def k95_r9 : List COp := [
  ⟨some 42, .move (.tmp 6), none, true⟩,
  ⟨some 43, .binOp .sub 3 (.tmp 42) (.const (.int .i64 1)) 3, none, true⟩,
  ⟨some 6, .assign (.tmp 43), none, true⟩]
theorem k95_r9_e : Eo P pr N k95_r9 e σ Q = Eo P pr N [
  ⟨some 42, .move (.tmp 6), none, true⟩,
  ⟨some 43, .binOp .sub 3 (.tmp 42) (.const (.int .i64 1)) 3, none, true⟩,
  ⟨some 6, .assign (.tmp 43), none, true⟩] e σ Q := propext ⟨fun h => h, fun h => h⟩
def k95_l1 : CC := (.seq (.seq (.region k95_r8) (.cond (.tmp 41) .skip (.exit 2))) (.seq (.block 3 (.region k95_r10)) (.region k95_r9)))
theorem k95_l1_e : Ev P pr N k95_l1 e σ Q = Ev P pr N (.seq (.seq (.region k95_r8) (.cond (.tmp 41) .skip (.exit 2))) (.seq (.block 3 (.region k95_r10)) (.region k95_r9))) e σ Q := propext ⟨fun h => h, fun h => h⟩
def k95_r11 : List COp := [
  ⟨some 53, .move (.tmp 5), none, true⟩,
  ⟨some 54, .move (.tmp 4), none, true⟩,
  ⟨some 55, .binOp .add 3 (.tmp 54) (.const (.int .i64 1)) 3, none, true⟩,
  ⟨some 2, .assign (.tmp 53), none, true⟩,
  ⟨some 3, .assign (.tmp 55), none, true⟩]
theorem k95_r11_e : Eo P pr N k95_r11 e σ Q = Eo P pr N [
  ⟨some 53, .move (.tmp 5), none, true⟩,
  ⟨some 54, .move (.tmp 4), none, true⟩,
  ⟨some 55, .binOp .add 3 (.tmp 54) (.const (.int .i64 1)) 3, none, true⟩,
  ⟨some 2, .assign (.tmp 53), none, true⟩,
  ⟨some 3, .assign (.tmp 55), none, true⟩] e σ Q := propext ⟨fun h => h, fun h => h⟩
def k95 : CC := (.seq (.region k95_r0) (.seq (.region k95_r1) (.seq (.block 0 (.loop k95_l0)) (.seq (.seq (.region k95_r4) (.cond (.tmp 38) (.seq (.region k95_r5) .ret) .skip)) (.seq (.region k95_r6) (.seq (.seq (.region k95_r7) (.block 2 (.loop k95_l1))) (.seq (.region k95_r11) .ret)))))))
theorem k95_e : Ev P pr N k95 e σ Q = Ev P pr N (.seq (.region k95_r0) (.seq (.region k95_r1) (.seq (.block 0 (.loop k95_l0)) (.seq (.seq (.region k95_r4) (.cond (.tmp 38) (.seq (.region k95_r5) .ret) .skip)) (.seq (.region k95_r6) (.seq (.seq (.region k95_r7) (.block 2 (.loop k95_l1))) (.seq (.region k95_r11) .ret))))))) e σ Q := propext ⟨fun h => h, fun h => h⟩
/-- quern/quernref01.Take -/
theorem k95_is : FnIs Try.prog prims 95 56 [ResultVar.tmp 2, ResultVar.tmp 3] k95 := FnIs.of_fn Try.func95 (by kernel_rfl) rfl
def k97_r0 : List COp := [
  ⟨some 4, .assign (.const (.string { data := #[] })), none, true⟩,
  ⟨some 5, .assign (.const (.bool false)), none, true⟩]
theorem k97_r0_e : Eo P pr N k97_r0 e σ Q = Eo P pr N [
  ⟨some 4, .assign (.const (.string { data := #[] })), none, true⟩,
  ⟨some 5, .assign (.const (.bool false)), none, true⟩] e σ Q := propext ⟨fun h => h, fun h => h⟩
def k97_r1 : List COp := [
  ⟨some 6, .move (.tmp 0), none, true⟩,
  ⟨some 7, .move (.tmp 1), none, true⟩,
  ⟨some 8, .call { callee := .value (.func 103), args := #[.tmp 6, .tmp 7], argTypes := #[9, 9] }, none, true⟩,
  ⟨some 9, .unOp .not 4 (.tmp 8), none, true⟩]
theorem k97_r1_e : Eo P pr N k97_r1 e σ Q = Eo P pr N [
  ⟨some 6, .move (.tmp 0), none, true⟩,
  ⟨some 7, .move (.tmp 1), none, true⟩,
  ⟨some 8, .call { callee := .value (.func 103), args := #[.tmp 6, .tmp 7], argTypes := #[9, 9] }, none, true⟩,
  ⟨some 9, .unOp .not 4 (.tmp 8), none, true⟩] e σ Q := propext ⟨fun h => h, fun h => h⟩
def k97_r2 : List COp := [
  ⟨some 10, .move (.tmp 0), none, true⟩,
  ⟨some 4, .assign (.tmp 10), none, true⟩,
  ⟨some 5, .assign (.const (.bool false)), none, true⟩]
theorem k97_r2_e : Eo P pr N k97_r2 e σ Q = Eo P pr N [
  ⟨some 10, .move (.tmp 0), none, true⟩,
  ⟨some 4, .assign (.tmp 10), none, true⟩,
  ⟨some 5, .assign (.const (.bool false)), none, true⟩] e σ Q := propext ⟨fun h => h, fun h => h⟩
def k97_r3 : List COp := [
  ⟨some 11, .move (.tmp 0), none, true⟩,
  ⟨some 12, .move (.tmp 1), none, true⟩,
  ⟨some 13, .call { callee := .builtin .len, args := #[.tmp 12], argTypes := #[9] }, none, true⟩,
  ⟨some 14, .slice 9 (.tmp 11) (some (.tmp 13)) .none .none, none, true⟩,
  ⟨some 4, .assign (.tmp 14), none, true⟩,
  ⟨some 5, .assign (.const (.bool true)), none, true⟩]
theorem k97_r3_e : Eo P pr N k97_r3 e σ Q = Eo P pr N [
  ⟨some 11, .move (.tmp 0), none, true⟩,
  ⟨some 12, .move (.tmp 1), none, true⟩,
  ⟨some 13, .call { callee := .builtin .len, args := #[.tmp 12], argTypes := #[9] }, none, true⟩,
  ⟨some 14, .slice 9 (.tmp 11) (some (.tmp 13)) .none .none, none, true⟩,
  ⟨some 4, .assign (.tmp 14), none, true⟩,
  ⟨some 5, .assign (.const (.bool true)), none, true⟩] e σ Q := propext ⟨fun h => h, fun h => h⟩
def k97 : CC := (.seq (.region k97_r0) (.seq (.seq (.region k97_r1) (.cond (.tmp 9) (.seq (.region k97_r2) .ret) .skip)) (.seq (.region k97_r3) .ret)))
theorem k97_e : Ev P pr N k97 e σ Q = Ev P pr N (.seq (.region k97_r0) (.seq (.seq (.region k97_r1) (.cond (.tmp 9) (.seq (.region k97_r2) .ret) .skip)) (.seq (.region k97_r3) .ret))) e σ Q := propext ⟨fun h => h, fun h => h⟩
/-- internal/stringslite.CutPrefix -/
theorem k97_is : FnIs Try.prog prims 97 15 [ResultVar.tmp 4, ResultVar.tmp 5] k97 := FnIs.of_fn Try.func97 (by kernel_rfl) rfl
def k103_r0 : List COp := [
  ⟨some 4, .assign (.const (.bool false)), none, true⟩]
theorem k103_r0_e : Eo P pr N k103_r0 e σ Q = Eo P pr N [
  ⟨some 4, .assign (.const (.bool false)), none, true⟩] e σ Q := propext ⟨fun h => h, fun h => h⟩
def k103_r1 : List COp := [
  ⟨some 5, .move (.tmp 0), none, true⟩,
  ⟨some 6, .call { callee := .builtin .len, args := #[.tmp 5], argTypes := #[9] }, none, true⟩,
  ⟨some 7, .move (.tmp 1), none, true⟩,
  ⟨some 8, .call { callee := .builtin .len, args := #[.tmp 7], argTypes := #[9] }, none, true⟩,
  ⟨some 9, .binOp .geq 3 (.tmp 6) (.tmp 8) 3, none, true⟩,
  ⟨some 10, .move (.tmp 9), none, true⟩,
  ⟨some 11, .move (.tmp 0), some (10, true), true⟩,
  ⟨some 12, .move (.tmp 1), some (10, true), true⟩,
  ⟨some 13, .call { callee := .builtin .len, args := #[.tmp 12], argTypes := #[9] }, some (10, true), true⟩,
  ⟨some 14, .slice 9 (.tmp 11) .none (some (.tmp 13)) .none, some (10, true), true⟩,
  ⟨some 15, .move (.tmp 1), some (10, true), true⟩,
  ⟨some 16, .binOp .eql 9 (.tmp 14) (.tmp 15) 9, some (10, true), true⟩,
  ⟨some 17, .pick (.tmp 10) (.tmp 16) (.const (.bool false)), none, true⟩,
  ⟨some 4, .assign (.tmp 17), none, true⟩]
theorem k103_r1_e : Eo P pr N k103_r1 e σ Q = Eo P pr N [
  ⟨some 5, .move (.tmp 0), none, true⟩,
  ⟨some 6, .call { callee := .builtin .len, args := #[.tmp 5], argTypes := #[9] }, none, true⟩,
  ⟨some 7, .move (.tmp 1), none, true⟩,
  ⟨some 8, .call { callee := .builtin .len, args := #[.tmp 7], argTypes := #[9] }, none, true⟩,
  ⟨some 9, .binOp .geq 3 (.tmp 6) (.tmp 8) 3, none, true⟩,
  ⟨some 10, .move (.tmp 9), none, true⟩,
  ⟨some 11, .move (.tmp 0), some (10, true), true⟩,
  ⟨some 12, .move (.tmp 1), some (10, true), true⟩,
  ⟨some 13, .call { callee := .builtin .len, args := #[.tmp 12], argTypes := #[9] }, some (10, true), true⟩,
  ⟨some 14, .slice 9 (.tmp 11) .none (some (.tmp 13)) .none, some (10, true), true⟩,
  ⟨some 15, .move (.tmp 1), some (10, true), true⟩,
  ⟨some 16, .binOp .eql 9 (.tmp 14) (.tmp 15) 9, some (10, true), true⟩,
  ⟨some 17, .pick (.tmp 10) (.tmp 16) (.const (.bool false)), none, true⟩,
  ⟨some 4, .assign (.tmp 17), none, true⟩] e σ Q := propext ⟨fun h => h, fun h => h⟩
def k103 : CC := (.seq (.region k103_r0) (.seq (.region k103_r1) .ret))
theorem k103_e : Ev P pr N k103 e σ Q = Ev P pr N (.seq (.region k103_r0) (.seq (.region k103_r1) .ret)) e σ Q := propext ⟨fun h => h, fun h => h⟩
/-- internal/stringslite.HasPrefix -/
theorem k103_is : FnIs Try.prog prims 103 18 [ResultVar.tmp 4] k103 := FnIs.of_fn Try.func103 (by kernel_rfl) rfl
end Go.Proofs.Ytlimedbanpfkgaa.Q
