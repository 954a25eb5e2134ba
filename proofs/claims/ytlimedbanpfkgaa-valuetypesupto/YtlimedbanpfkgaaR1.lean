/- The code of some functions without its ornaments. Written by gen.py. -/
import Derived.Test.YtlimedbanpfkgaaQp
import Derived.Test.YtlimedbanpfkgaaChecked
import Derived.Test.YtlimedbanpfkgaaPr
set_option maxRecDepth 100000
namespace Go.Proofs.Ytlimedbanpfkgaa.Q
open Go Go.RowKit Go.Proofs
variable {P : Program} {pr : Prim} {N : Nat} {e : Nat → V} {σ : St} {Q : VX → (Nat → V) → St → Prop}
def k55_r0 : List COp := [
  ⟨some 2, .box 24 (.tmp 0), none, true⟩,
  ⟨some 4, .assign (.const (.bool false)), none, true⟩]
theorem k55_r0_e : Eo P pr N k55_r0 e σ Q = Eo P pr N [
  ⟨some 2, .box 24 (.tmp 0), none, true⟩,
  ⟨some 4, .assign (.const (.bool false)), none, true⟩] e σ Q := propext ⟨fun h => h, fun h => h⟩
def k55_r1 : CC := (.wregion [
  (true, ⟨some 12, .fieldAddr 24 (.tmp 2) 0, none, true⟩),
  (false, ⟨some 13, .load 3 (.tmp 12), none, true⟩),
  (false, ⟨some 14, .binOp .eql 3 (.tmp 13) (.const (.int .i64 0)) 3, none, true⟩),
  (false, ⟨some 15, .move (.tmp 14), none, true⟩),
  (false, ⟨some 16, .fieldAddr 24 (.tmp 2) 0, some (15, false), false⟩),
  (true, ⟨some 17, .load 3 (.tmp 16), some (15, false), false⟩),
  (false, ⟨some 18, .move (.tmp 1), some (15, false), true⟩),
  (false, ⟨some 19, .call { callee := .value (.func 23), args := #[.tmp 18], argTypes := #[9] }, some (15, false), true⟩),
  (true, ⟨some 20, .field 24 (.tmp 19) 0, some (15, false), true⟩),
  (false, ⟨some 21, .binOp .neq 3 (.tmp 17) (.tmp 20) 3, some (15, false), true⟩),
  (false, ⟨some 22, .pick (.tmp 15) (.const (.bool true)) (.tmp 21), none, true⟩)] false [(5, ⟨some 17, .load 3 (.tmp 16), some (15, false), false⟩, [0, 8])])
theorem k55_r1_e : Ev P pr N k55_r1 e σ Q = Ev P pr N (.wregion [
  (true, ⟨some 12, .fieldAddr 24 (.tmp 2) 0, none, true⟩),
  (false, ⟨some 13, .load 3 (.tmp 12), none, true⟩),
  (false, ⟨some 14, .binOp .eql 3 (.tmp 13) (.const (.int .i64 0)) 3, none, true⟩),
  (false, ⟨some 15, .move (.tmp 14), none, true⟩),
  (false, ⟨some 16, .fieldAddr 24 (.tmp 2) 0, some (15, false), false⟩),
  (true, ⟨some 17, .load 3 (.tmp 16), some (15, false), false⟩),
  (false, ⟨some 18, .move (.tmp 1), some (15, false), true⟩),
  (false, ⟨some 19, .call { callee := .value (.func 23), args := #[.tmp 18], argTypes := #[9] }, some (15, false), true⟩),
  (true, ⟨some 20, .field 24 (.tmp 19) 0, some (15, false), true⟩),
  (false, ⟨some 21, .binOp .neq 3 (.tmp 17) (.tmp 20) 3, some (15, false), true⟩),
  (false, ⟨some 22, .pick (.tmp 15) (.const (.bool true)) (.tmp 21), none, true⟩)] false [(5, ⟨some 17, .load 3 (.tmp 16), some (15, false), false⟩, [0, 8])]) e σ Q := propext ⟨fun h => h, fun h => h⟩
def k55_r2 : List COp := [
  ⟨some 4, .assign (.const (.bool false)), none, true⟩]
theorem k55_r2_e : Eo P pr N k55_r2 e σ Q = Eo P pr N [
  ⟨some 4, .assign (.const (.bool false)), none, true⟩] e σ Q := propext ⟨fun h => h, fun h => h⟩
def k55_r3 : List COp := [
  ⟨some 23, .fieldAddr 24 (.tmp 2) 0, none, true⟩,
  ⟨some 24, .load 3 (.tmp 23), none, true⟩,
  ⟨some 25, .binOp .gtr 3 (.tmp 24) (.const (.int .i64 2)) 3, none, true⟩,
  ⟨some 26, .move (.tmp 25), none, true⟩,
  ⟨some 27, .fieldAddr 24 (.tmp 2) 1, some (26, true), true⟩,
  ⟨some 28, .load 3 (.tmp 27), some (26, true), true⟩,
  ⟨some 29, .binOp .neq 3 (.tmp 28) (.const (.int .i64 0)) 3, some (26, true), true⟩,
  ⟨some 30, .pick (.tmp 26) (.tmp 29) (.const (.bool false)), none, true⟩,
  ⟨some 31, .move (.tmp 30), none, true⟩,
  ⟨some 32, .fieldAddr 24 (.tmp 2) 0, some (31, false), true⟩,
  ⟨some 33, .load 3 (.tmp 32), some (31, false), true⟩,
  ⟨some 34, .binOp .neq 3 (.tmp 33) (.const (.int .i64 3)) 3, some (31, false), true⟩,
  ⟨some 35, .move (.tmp 34), some (31, false), true⟩,
  ⟨some 36, .fieldAddr 24 (.tmp 2) 2, some (35, true), true⟩,
  ⟨some 37, .load 9 (.tmp 36), some (35, true), true⟩,
  ⟨some 38, .binOp .neq 9 (.tmp 37) (.const (.string { data := #[] })) 9, some (35, true), true⟩,
  ⟨some 39, .pick (.tmp 35) (.tmp 38) (.const (.bool false)), some (31, false), true⟩,
  ⟨some 40, .pick (.tmp 31) (.const (.bool true)) (.tmp 39), none, true⟩,
  ⟨some 41, .move (.tmp 40), none, true⟩,
  ⟨some 42, .fieldAddr 24 (.tmp 2) 0, some (41, false), true⟩,
  ⟨some 43, .load 3 (.tmp 42), some (41, false), true⟩,
  ⟨some 44, .binOp .lss 3 (.tmp 43) (.const (.int .i64 4)) 3, some (41, false), true⟩,
  ⟨some 45, .move (.tmp 44), some (41, false), true⟩,
  ⟨some 46, .fieldAddr 24 (.tmp 2) 3, some (45, true), true⟩,
  ⟨some 47, .load 22 (.tmp 46), some (45, true), true⟩,
  ⟨some 48, .call { callee := .builtin .len, args := #[.tmp 47], argTypes := #[22] }, some (45, true), true⟩,
  ⟨some 49, .binOp .gtr 3 (.tmp 48) (.const (.int .i64 0)) 3, some (45, true), true⟩,
  ⟨some 50, .pick (.tmp 45) (.tmp 49) (.const (.bool false)), some (41, false), true⟩,
  ⟨some 51, .pick (.tmp 41) (.const (.bool true)) (.tmp 50), none, true⟩]
theorem k55_r3_e : Eo P pr N k55_r3 e σ Q = Eo P pr N [
  ⟨some 23, .fieldAddr 24 (.tmp 2) 0, none, true⟩,
  ⟨some 24, .load 3 (.tmp 23), none, true⟩,
  ⟨some 25, .binOp .gtr 3 (.tmp 24) (.const (.int .i64 2)) 3, none, true⟩,
  ⟨some 26, .move (.tmp 25), none, true⟩,
  ⟨some 27, .fieldAddr 24 (.tmp 2) 1, some (26, true), true⟩,
  ⟨some 28, .load 3 (.tmp 27), some (26, true), true⟩,
  ⟨some 29, .binOp .neq 3 (.tmp 28) (.const (.int .i64 0)) 3, some (26, true), true⟩,
  ⟨some 30, .pick (.tmp 26) (.tmp 29) (.const (.bool false)), none, true⟩,
  ⟨some 31, .move (.tmp 30), none, true⟩,
  ⟨some 32, .fieldAddr 24 (.tmp 2) 0, some (31, false), true⟩,
  ⟨some 33, .load 3 (.tmp 32), some (31, false), true⟩,
  ⟨some 34, .binOp .neq 3 (.tmp 33) (.const (.int .i64 3)) 3, some (31, false), true⟩,
  ⟨some 35, .move (.tmp 34), some (31, false), true⟩,
  ⟨some 36, .fieldAddr 24 (.tmp 2) 2, some (35, true), true⟩,
  ⟨some 37, .load 9 (.tmp 36), some (35, true), true⟩,
  ⟨some 38, .binOp .neq 9 (.tmp 37) (.const (.string { data := #[] })) 9, some (35, true), true⟩,
  ⟨some 39, .pick (.tmp 35) (.tmp 38) (.const (.bool false)), some (31, false), true⟩,
  ⟨some 40, .pick (.tmp 31) (.const (.bool true)) (.tmp 39), none, true⟩,
  ⟨some 41, .move (.tmp 40), none, true⟩,
  ⟨some 42, .fieldAddr 24 (.tmp 2) 0, some (41, false), true⟩,
  ⟨some 43, .load 3 (.tmp 42), some (41, false), true⟩,
  ⟨some 44, .binOp .lss 3 (.tmp 43) (.const (.int .i64 4)) 3, some (41, false), true⟩,
  ⟨some 45, .move (.tmp 44), some (41, false), true⟩,
  ⟨some 46, .fieldAddr 24 (.tmp 2) 3, some (45, true), true⟩,
  ⟨some 47, .load 22 (.tmp 46), some (45, true), true⟩,
  ⟨some 48, .call { callee := .builtin .len, args := #[.tmp 47], argTypes := #[22] }, some (45, true), true⟩,
  ⟨some 49, .binOp .gtr 3 (.tmp 48) (.const (.int .i64 0)) 3, some (45, true), true⟩,
  ⟨some 50, .pick (.tmp 45) (.tmp 49) (.const (.bool false)), some (41, false), true⟩,
  ⟨some 51, .pick (.tmp 41) (.const (.bool true)) (.tmp 50), none, true⟩] e σ Q := propext ⟨fun h => h, fun h => h⟩
def k55_r4 : List COp := [
  ⟨some 4, .assign (.const (.bool false)), none, true⟩]
theorem k55_r4_e : Eo P pr N k55_r4 e σ Q = Eo P pr N [
  ⟨some 4, .assign (.const (.bool false)), none, true⟩] e σ Q := propext ⟨fun h => h, fun h => h⟩
def k55_r5 : List COp := [
  ⟨some 52, .fieldAddr 24 (.tmp 2) 0, none, true⟩,
  ⟨some 53, .load 3 (.tmp 52), none, true⟩]
theorem k55_r5_e : Eo P pr N k55_r5 e σ Q = Eo P pr N [
  ⟨some 52, .fieldAddr 24 (.tmp 2) 0, none, true⟩,
  ⟨some 53, .load 3 (.tmp 52), none, true⟩] e σ Q := propext ⟨fun h => h, fun h => h⟩
def k55_r6 : List COp := [
  ⟨some 55, .binOp .eql 3 (.tmp 53) (.const (.int .i64 2)) 3, none, true⟩,
  ⟨some 54, .assign (.tmp 55), none, true⟩]
theorem k55_r6_e : Eo P pr N k55_r6 e σ Q = Eo P pr N [
  ⟨some 55, .binOp .eql 3 (.tmp 53) (.const (.int .i64 2)) 3, none, true⟩,
  ⟨some 54, .assign (.tmp 55), none, true⟩] e σ Q := propext ⟨fun h => h, fun h => h⟩
def k55_r7 : List COp := [
  ⟨some 56, .fieldAddr 24 (.tmp 2) 1, none, true⟩,
  ⟨some 57, .load 3 (.tmp 56), none, true⟩,
  ⟨some 58, .binOp .eql 3 (.tmp 57) (.const (.int .i64 0)) 3, none, true⟩,
  ⟨some 59, .move (.tmp 58), none, true⟩,
  ⟨some 60, .fieldAddr 24 (.tmp 2) 1, some (59, false), true⟩,
  ⟨some 61, .load 3 (.tmp 60), some (59, false), true⟩,
  ⟨some 62, .binOp .eql 3 (.tmp 61) (.const (.int .i64 1)) 3, some (59, false), true⟩,
  ⟨some 63, .pick (.tmp 59) (.const (.bool true)) (.tmp 62), none, true⟩,
  ⟨some 4, .assign (.tmp 63), none, true⟩]
theorem k55_r7_e : Eo P pr N k55_r7 e σ Q = Eo P pr N [
  ⟨some 56, .fieldAddr 24 (.tmp 2) 1, none, true⟩,
  ⟨some 57, .load 3 (.tmp 56), none, true⟩,
  ⟨some 58, .binOp .eql 3 (.tmp 57) (.const (.int .i64 0)) 3, none, true⟩,
  ⟨some 59, .move (.tmp 58), none, true⟩,
  ⟨some 60, .fieldAddr 24 (.tmp 2) 1, some (59, false), true⟩,
  ⟨some 61, .load 3 (.tmp 60), some (59, false), true⟩,
  ⟨some 62, .binOp .eql 3 (.tmp 61) (.const (.int .i64 1)) 3, some (59, false), true⟩,
  ⟨some 63, .pick (.tmp 59) (.const (.bool true)) (.tmp 62), none, true⟩,
  ⟨some 4, .assign (.tmp 63), none, true⟩] e σ Q := propext ⟨fun h => h, fun h => h⟩
def k55_r8 : List COp := [
  ⟨some 65, .binOp .eql 3 (.tmp 53) (.const (.int .i64 3)) 3, none, true⟩,
  ⟨some 64, .assign (.tmp 65), none, true⟩]
theorem k55_r8_e : Eo P pr N k55_r8 e σ Q = Eo P pr N [
  ⟨some 65, .binOp .eql 3 (.tmp 53) (.const (.int .i64 3)) 3, none, true⟩,
  ⟨some 64, .assign (.tmp 65), none, true⟩] e σ Q := propext ⟨fun h => h, fun h => h⟩
def k55_r9 : List COp := [
  ⟨some 66, .fieldAddr 24 (.tmp 2) 2, none, true⟩,
  ⟨some 67, .load 9 (.tmp 66), none, true⟩,
  ⟨some 68, .call { callee := .builtin .len, args := #[.tmp 67], argTypes := #[9] }, none, true⟩,
  ⟨some 69, .binOp .leq 3 (.tmp 68) (.const (.int .i64 256)) 3, none, true⟩,
  ⟨some 4, .assign (.tmp 69), none, true⟩]
theorem k55_r9_e : Eo P pr N k55_r9 e σ Q = Eo P pr N [
  ⟨some 66, .fieldAddr 24 (.tmp 2) 2, none, true⟩,
  ⟨some 67, .load 9 (.tmp 66), none, true⟩,
  ⟨some 68, .call { callee := .builtin .len, args := #[.tmp 67], argTypes := #[9] }, none, true⟩,
  ⟨some 69, .binOp .leq 3 (.tmp 68) (.const (.int .i64 256)) 3, none, true⟩,
  ⟨some 4, .assign (.tmp 69), none, true⟩] e σ Q := propext ⟨fun h => h, fun h => h⟩
def k55_r10 : List COp := [
  ⟨some 71, .binOp .eql 3 (.tmp 53) (.const (.int .i64 4)) 3, none, true⟩,
  ⟨some 70, .assign (.tmp 71), none, true⟩]
theorem k55_r10_e : Eo P pr N k55_r10 e σ Q = Eo P pr N [
  ⟨some 71, .binOp .eql 3 (.tmp 53) (.const (.int .i64 4)) 3, none, true⟩,
  ⟨some 70, .assign (.tmp 71), none, true⟩] e σ Q := propext ⟨fun h => h, fun h => h⟩
def k55_r11 : List COp := [
  ⟨some 72, .fieldAddr 24 (.tmp 2) 3, none, true⟩,
  ⟨some 73, .load 22 (.tmp 72), none, true⟩,
  ⟨some 74, .call { callee := .builtin .len, args := #[.tmp 73], argTypes := #[22] }, none, true⟩,
  ⟨some 75, .move (.const (.int .i64 0)), none, true⟩]
theorem k55_r11_e : Eo P pr N k55_r11 e σ Q = Eo P pr N [
  ⟨some 72, .fieldAddr 24 (.tmp 2) 3, none, true⟩,
  ⟨some 73, .load 22 (.tmp 72), none, true⟩,
  ⟨some 74, .call { callee := .builtin .len, args := #[.tmp 73], argTypes := #[22] }, none, true⟩,
  ⟨some 75, .move (.const (.int .i64 0)), none, true⟩] e σ Q := propext ⟨fun h => h, fun h => h⟩
def k55_r12 : List COp := [
  ⟨some 76, .binOp .lss 3 (.tmp 75) (.tmp 74) 3, none, true⟩]
theorem k55_r12_e : Eo P pr N k55_r12 e σ Q = Eo P pr N [
  ⟨some 76, .binOp .lss 3 (.tmp 75) (.tmp 74) 3, none, true⟩] e σ Q := propext ⟨fun h => h, fun h => h⟩
def k55_r13 : List COp := [
  ⟨some 77, .indexAddr 22 (.tmp 73) (.tmp 75), none, true⟩,
  ⟨some 78, .load 24 (.tmp 77), none, true⟩,
  ⟨some 6, .alloc 24, none, true⟩,
  ⟨none, .store 24 (.tmp 6) (.tmp 78), none, true⟩]
theorem k55_r13_e : Eo P pr N k55_r13 e σ Q = Eo P pr N [
  ⟨some 77, .indexAddr 22 (.tmp 73) (.tmp 75), none, true⟩,
  ⟨some 78, .load 24 (.tmp 77), none, true⟩,
  ⟨some 6, .alloc 24, none, true⟩,
  ⟨none, .store 24 (.tmp 6) (.tmp 78), none, true⟩] e σ Q := propext ⟨fun h => h, fun h => h⟩
def k55_r14 : CC := (.wregion [
  (true, ⟨some 79, .load 24 (.tmp 6), none, false⟩),
  (false, ⟨some 80, .move (.tmp 1), none, true⟩),
  (false, ⟨some 81, .call { callee := .value (.func 21), args := #[.tmp 80], argTypes := #[9] }, none, true⟩),
  (true, ⟨some 82, .call { callee := .value (.func 55), args := #[.tmp 79, .tmp 81], argTypes := #[24, 9] }, none, true⟩),
  (false, ⟨some 83, .unOp .not 4 (.tmp 82), none, true⟩)] false [(0, ⟨some 79, .load 24 (.tmp 6), none, false⟩, [0, 3])])
theorem k55_r14_e : Ev P pr N k55_r14 e σ Q = Ev P pr N (.wregion [
  (true, ⟨some 79, .load 24 (.tmp 6), none, false⟩),
  (false, ⟨some 80, .move (.tmp 1), none, true⟩),
  (false, ⟨some 81, .call { callee := .value (.func 21), args := #[.tmp 80], argTypes := #[9] }, none, true⟩),
  (true, ⟨some 82, .call { callee := .value (.func 55), args := #[.tmp 79, .tmp 81], argTypes := #[24, 9] }, none, true⟩),
  (false, ⟨some 83, .unOp .not 4 (.tmp 82), none, true⟩)] false [(0, ⟨some 79, .load 24 (.tmp 6), none, false⟩, [0, 3])]) e σ Q := propext ⟨fun h => h, fun h => h⟩
def k55_r15 : List COp := [
  ⟨some 4, .assign (.const (.bool false)), none, true⟩]
theorem k55_r15_e : Eo P pr N k55_r15 e σ Q = Eo P pr N [
  ⟨some 4, .assign (.const (.bool false)), none, true⟩] e σ Q := propext ⟨fun h => h, fun h => h⟩
def k55_r16 : List COp := [
  ⟨some 84, .binOp .add 3 (.tmp 75) (.const (.int .i64 1)) 3, none, true⟩,
  ⟨some 75, .move (.tmp 84), none, true⟩]
theorem k55_r16_e : Eo P pr N k55_r16 e σ Q = Eo P pr N [
  ⟨some 84, .binOp .add 3 (.tmp 75) (.const (.int .i64 1)) 3, none, true⟩,
  ⟨some 75, .move (.tmp 84), none, true⟩] e σ Q := propext ⟨fun h => h, fun h => h⟩
def k55_l0 : CC := (.seq (.region k55_r12) (.seq (.cond (.tmp 76) .skip (.exit 1)) (.seq (.block 2 (.seq (.region k55_r13) (.seq k55_r14 (.cond (.tmp 83) (.seq (.region k55_r15) .ret) .skip)))) (.region k55_r16))))
theorem k55_l0_e : Ev P pr N k55_l0 e σ Q = Ev P pr N (.seq (.region k55_r12) (.seq (.cond (.tmp 76) .skip (.exit 1)) (.seq (.block 2 (.seq (.region k55_r13) (.seq k55_r14 (.cond (.tmp 83) (.seq (.region k55_r15) .ret) .skip)))) (.region k55_r16)))) e σ Q := propext ⟨fun h => h, fun h => h⟩
def k55_r17 : List COp := [
  ⟨some 85, .fieldAddr 24 (.tmp 2) 3, none, true⟩,
  ⟨some 86, .load 22 (.tmp 85), none, true⟩,
  ⟨some 87, .call { callee := .builtin .len, args := #[.tmp 86], argTypes := #[22] }, none, true⟩,
  ⟨some 88, .binOp .leq 3 (.tmp 87) (.const (.int .i64 64)) 3, none, true⟩,
  ⟨some 4, .assign (.tmp 88), none, true⟩]
theorem k55_r17_e : Eo P pr N k55_r17 e σ Q = Eo P pr N [
  ⟨some 85, .fieldAddr 24 (.tmp 2) 3, none, true⟩,
  ⟨some 86, .load 22 (.tmp 85), none, true⟩,
  ⟨some 87, .call { callee := .builtin .len, args := #[.tmp 86], argTypes := #[22] }, none, true⟩,
  ⟨some 88, .binOp .leq 3 (.tmp 87) (.const (.int .i64 64)) 3, none, true⟩,
  ⟨some 4, .assign (.tmp 88), none, true⟩] e σ Q := propext ⟨fun h => h, fun h => h⟩
def k55_r18 : List COp := [
  ⟨some 90, .binOp .eql 3 (.tmp 53) (.const (.int .i64 5)) 3, none, true⟩,
  ⟨some 89, .assign (.tmp 90), none, true⟩]
theorem k55_r18_e : Eo P pr N k55_r18 e σ Q = Eo P pr N [
  ⟨some 90, .binOp .eql 3 (.tmp 53) (.const (.int .i64 5)) 3, none, true⟩,
  ⟨some 89, .assign (.tmp 90), none, true⟩] e σ Q := propext ⟨fun h => h, fun h => h⟩
def k55_r19 : List COp := [
  ⟨some 92, .move (.tmp 1), none, true⟩,
  ⟨some 93, .call { callee := .value (.func 20), args := #[.tmp 92], argTypes := #[9] }, none, true⟩,
  ⟨some 91, .move (.tmp 93), none, true⟩,
  ⟨some 94, .extract (.tmp 91) 0, none, true⟩,
  ⟨some 95, .extract (.tmp 91) 1, none, true⟩,
  ⟨some 7, .assign (.tmp 94), none, true⟩,
  ⟨some 8, .assign (.tmp 95), none, true⟩]
theorem k55_r19_e : Eo P pr N k55_r19 e σ Q = Eo P pr N [
  ⟨some 92, .move (.tmp 1), none, true⟩,
  ⟨some 93, .call { callee := .value (.func 20), args := #[.tmp 92], argTypes := #[9] }, none, true⟩,
  ⟨some 91, .move (.tmp 93), none, true⟩,
  ⟨some 94, .extract (.tmp 91) 0, none, true⟩,
  ⟨some 95, .extract (.tmp 91) 1, none, true⟩,
  ⟨some 7, .assign (.tmp 94), none, true⟩,
  ⟨some 8, .assign (.tmp 95), none, true⟩] e σ Q := propext ⟨fun h => h, fun h => h⟩
def k55_r20 : List COp := [
  ⟨some 96, .fieldAddr 24 (.tmp 2) 3, none, true⟩,
  ⟨some 97, .load 22 (.tmp 96), none, true⟩,
  ⟨some 98, .call { callee := .builtin .len, args := #[.tmp 97], argTypes := #[22] }, none, true⟩,
  ⟨some 99, .binOp .rem 3 (.tmp 98) (.const (.int .i64 2)) 3, none, true⟩,
  ⟨some 100, .binOp .eql 3 (.tmp 99) (.const (.int .i64 1)) 3, none, true⟩,
  ⟨some 101, .move (.tmp 100), none, true⟩,
  ⟨some 102, .fieldAddr 24 (.tmp 2) 3, some (101, false), true⟩,
  ⟨some 103, .load 22 (.tmp 102), some (101, false), true⟩,
  ⟨some 104, .call { callee := .builtin .len, args := #[.tmp 103], argTypes := #[22] }, some (101, false), true⟩,
  ⟨some 105, .binOp .gtr 3 (.tmp 104) (.const (.int .i64 128)) 3, some (101, false), true⟩,
  ⟨some 106, .pick (.tmp 101) (.const (.bool true)) (.tmp 105), none, true⟩]
theorem k55_r20_e : Eo P pr N k55_r20 e σ Q = Eo P pr N [
  ⟨some 96, .fieldAddr 24 (.tmp 2) 3, none, true⟩,
  ⟨some 97, .load 22 (.tmp 96), none, true⟩,
  ⟨some 98, .call { callee := .builtin .len, args := #[.tmp 97], argTypes := #[22] }, none, true⟩,
  ⟨some 99, .binOp .rem 3 (.tmp 98) (.const (.int .i64 2)) 3, none, true⟩,
  ⟨some 100, .binOp .eql 3 (.tmp 99) (.const (.int .i64 1)) 3, none, true⟩,
  ⟨some 101, .move (.tmp 100), none, true⟩,
  ⟨some 102, .fieldAddr 24 (.tmp 2) 3, some (101, false), true⟩,
  ⟨some 103, .load 22 (.tmp 102), some (101, false), true⟩,
  ⟨some 104, .call { callee := .builtin .len, args := #[.tmp 103], argTypes := #[22] }, some (101, false), true⟩,
  ⟨some 105, .binOp .gtr 3 (.tmp 104) (.const (.int .i64 128)) 3, some (101, false), true⟩,
  ⟨some 106, .pick (.tmp 101) (.const (.bool true)) (.tmp 105), none, true⟩] e σ Q := propext ⟨fun h => h, fun h => h⟩
def k55_r21 : List COp := [
  ⟨some 4, .assign (.const (.bool false)), none, true⟩]
theorem k55_r21_e : Eo P pr N k55_r21 e σ Q = Eo P pr N [
  ⟨some 4, .assign (.const (.bool false)), none, true⟩] e σ Q := propext ⟨fun h => h, fun h => h⟩
def k55_r22 : List COp := [
  ⟨some 107, .fieldAddr 24 (.tmp 2) 3, none, true⟩,
  ⟨some 108, .load 22 (.tmp 107), none, true⟩,
  ⟨some 109, .call { callee := .builtin .len, args := #[.tmp 108], argTypes := #[22] }, none, true⟩,
  ⟨some 110, .move (.const (.int .i64 0)), none, true⟩]
theorem k55_r22_e : Eo P pr N k55_r22 e σ Q = Eo P pr N [
  ⟨some 107, .fieldAddr 24 (.tmp 2) 3, none, true⟩,
  ⟨some 108, .load 22 (.tmp 107), none, true⟩,
  ⟨some 109, .call { callee := .builtin .len, args := #[.tmp 108], argTypes := #[22] }, none, true⟩,
  ⟨some 110, .move (.const (.int .i64 0)), none, true⟩] e σ Q := propext ⟨fun h => h, fun h => h⟩
def k55_r23 : List COp := [
  ⟨some 111, .binOp .lss 3 (.tmp 110) (.tmp 109) 3, none, true⟩]
theorem k55_r23_e : Eo P pr N k55_r23 e σ Q = Eo P pr N [
  ⟨some 111, .binOp .lss 3 (.tmp 110) (.tmp 109) 3, none, true⟩] e σ Q := propext ⟨fun h => h, fun h => h⟩
def k55_r24 : List COp := [
  ⟨some 112, .move (.tmp 110), none, true⟩,
  ⟨some 113, .indexAddr 22 (.tmp 108) (.tmp 110), none, true⟩,
  ⟨some 114, .load 24 (.tmp 113), none, true⟩,
  ⟨some 10, .alloc 24, none, true⟩,
  ⟨some 9, .assign (.tmp 112), none, true⟩,
  ⟨none, .store 24 (.tmp 10) (.tmp 114), none, true⟩]
theorem k55_r24_e : Eo P pr N k55_r24 e σ Q = Eo P pr N [
  ⟨some 112, .move (.tmp 110), none, true⟩,
  ⟨some 113, .indexAddr 22 (.tmp 108) (.tmp 110), none, true⟩,
  ⟨some 114, .load 24 (.tmp 113), none, true⟩,
  ⟨some 10, .alloc 24, none, true⟩,
  ⟨some 9, .assign (.tmp 112), none, true⟩,
  ⟨none, .store 24 (.tmp 10) (.tmp 114), none, true⟩] e σ Q := propext ⟨fun h => h, fun h => h⟩
def k55_r25 : List COp := [
  ⟨some 115, .move (.tmp 7), none, true⟩,
  ⟨some 11, .assign (.tmp 115), none, true⟩]
theorem k55_r25_e : Eo P pr N k55_r25 e σ Q = Eo P pr N [
  ⟨some 115, .move (.tmp 7), none, true⟩,
  ⟨some 11, .assign (.tmp 115), none, true⟩] e σ Q := propext ⟨fun h => h, fun h => h⟩
def k55_r26 : List COp := [
  ⟨some 116, .move (.tmp 9), none, true⟩,
  ⟨some 117, .binOp .rem 3 (.tmp 116) (.const (.int .i64 2)) 3, none, true⟩,
  ⟨some 118, .binOp .eql 3 (.tmp 117) (.const (.int .i64 1)) 3, none, true⟩]
theorem k55_r26_e : Eo P pr N k55_r26 e σ Q = Eo P pr N [
  ⟨some 116, .move (.tmp 9), none, true⟩,
  ⟨some 117, .binOp .rem 3 (.tmp 116) (.const (.int .i64 2)) 3, none, true⟩,
  ⟨some 118, .binOp .eql 3 (.tmp 117) (.const (.int .i64 1)) 3, none, true⟩] e σ Q := propext ⟨fun h => h, fun h => h⟩
def k55_r27 : List COp := [
  ⟨some 119, .move (.tmp 8), none, true⟩,
  ⟨some 11, .assign (.tmp 119), none, true⟩]
theorem k55_r27_e : Eo P pr N k55_r27 e σ Q = Eo P pr N [
  ⟨some 119, .move (.tmp 8), none, true⟩,
  ⟨some 11, .assign (.tmp 119), none, true⟩] e σ Q := propext ⟨fun h => h, fun h => h⟩
def k55_r28 : List COp := [
  ⟨some 120, .load 24 (.tmp 10), none, false⟩,
  ⟨some 121, .move (.tmp 11), none, true⟩,
  ⟨some 122, .call { callee := .value (.func 55), args := #[.tmp 120, .tmp 121], argTypes := #[24, 9] }, none, true⟩,
  ⟨some 123, .unOp .not 4 (.tmp 122), none, true⟩,
  ⟨some 124, .move (.tmp 123), none, true⟩,
  ⟨some 125, .move (.tmp 9), some (124, false), true⟩,
  ⟨some 126, .binOp .rem 3 (.tmp 125) (.const (.int .i64 2)) 3, some (124, false), true⟩,
  ⟨some 127, .binOp .eql 3 (.tmp 126) (.const (.int .i64 0)) 3, some (124, false), true⟩,
  ⟨some 128, .move (.tmp 127), some (124, false), true⟩,
  ⟨some 129, .move (.tmp 9), some (128, true), true⟩,
  ⟨some 130, .binOp .gtr 3 (.tmp 129) (.const (.int .i64 1)) 3, some (128, true), true⟩,
  ⟨some 131, .pick (.tmp 128) (.tmp 130) (.const (.bool false)), some (124, false), true⟩,
  ⟨some 132, .move (.tmp 131), some (124, false), true⟩,
  ⟨some 133, .fieldAddr 24 (.tmp 2) 3, some (132, true), false⟩,
  ⟨some 134, .load 22 (.tmp 133), some (132, true), false⟩,
  ⟨some 135, .move (.tmp 9), some (132, true), false⟩,
  ⟨some 136, .binOp .sub 3 (.tmp 135) (.const (.int .i64 2)) 3, some (132, true), false⟩,
  ⟨some 137, .indexAddr 22 (.tmp 134) (.tmp 136), some (132, true), false⟩,
  ⟨some 138, .load 24 (.tmp 137), some (132, true), false⟩,
  ⟨some 139, .load 24 (.tmp 10), some (132, true), true⟩,
  ⟨some 140, .call { callee := .value (.func 27), args := #[.tmp 138, .tmp 139], argTypes := #[24, 24] }, some (132, true), true⟩,
  ⟨some 141, .binOp .geq 3 (.tmp 140) (.const (.int .i64 0)) 3, some (132, true), true⟩,
  ⟨some 142, .pick (.tmp 132) (.tmp 141) (.const (.bool false)), some (124, false), true⟩,
  ⟨some 143, .pick (.tmp 124) (.const (.bool true)) (.tmp 142), none, true⟩]
theorem k55_r28_e : Eo P pr N k55_r28 e σ Q = Eo P pr N [
  ⟨some 120, .load 24 (.tmp 10), none, false⟩,
  ⟨some 121, .move (.tmp 11), none, true⟩,
  ⟨some 122, .call { callee := .value (.func 55), args := #[.tmp 120, .tmp 121], argTypes := #[24, 9] }, none, true⟩,
  ⟨some 123, .unOp .not 4 (.tmp 122), none, true⟩,
  ⟨some 124, .move (.tmp 123), none, true⟩,
  ⟨some 125, .move (.tmp 9), some (124, false), true⟩,
  ⟨some 126, .binOp .rem 3 (.tmp 125) (.const (.int .i64 2)) 3, some (124, false), true⟩,
  ⟨some 127, .binOp .eql 3 (.tmp 126) (.const (.int .i64 0)) 3, some (124, false), true⟩,
  ⟨some 128, .move (.tmp 127), some (124, false), true⟩,
  ⟨some 129, .move (.tmp 9), some (128, true), true⟩,
  ⟨some 130, .binOp .gtr 3 (.tmp 129) (.const (.int .i64 1)) 3, some (128, true), true⟩,
  ⟨some 131, .pick (.tmp 128) (.tmp 130) (.const (.bool false)), some (124, false), true⟩,
  ⟨some 132, .move (.tmp 131), some (124, false), true⟩,
  ⟨some 133, .fieldAddr 24 (.tmp 2) 3, some (132, true), false⟩,
  ⟨some 134, .load 22 (.tmp 133), some (132, true), false⟩,
  ⟨some 135, .move (.tmp 9), some (132, true), false⟩,
  ⟨some 136, .binOp .sub 3 (.tmp 135) (.const (.int .i64 2)) 3, some (132, true), false⟩,
  ⟨some 137, .indexAddr 22 (.tmp 134) (.tmp 136), some (132, true), false⟩,
  ⟨some 138, .load 24 (.tmp 137), some (132, true), false⟩,
  ⟨some 139, .load 24 (.tmp 10), some (132, true), true⟩,
  ⟨some 140, .call { callee := .value (.func 27), args := #[.tmp 138, .tmp 139], argTypes := #[24, 24] }, some (132, true), true⟩,
  ⟨some 141, .binOp .geq 3 (.tmp 140) (.const (.int .i64 0)) 3, some (132, true), true⟩,
  ⟨some 142, .pick (.tmp 132) (.tmp 141) (.const (.bool false)), some (124, false), true⟩,
  ⟨some 143, .pick (.tmp 124) (.const (.bool true)) (.tmp 142), none, true⟩] e σ Q := propext ⟨fun h => h, fun h => h⟩
def k55_r29 : List COp := [
  ⟨some 4, .assign (.const (.bool false)), none, true⟩]
theorem k55_r29_e : Eo P pr N k55_r29 e σ Q = Eo P pr N [
  ⟨some 4, .assign (.const (.bool false)), none, true⟩] e σ Q := propext ⟨fun h => h, fun h => h⟩
def k55_r30 : List COp := [
  ⟨some 144, .binOp .add 3 (.tmp 110) (.const (.int .i64 1)) 3, none, true⟩,
  ⟨some 110, .move (.tmp 144), none, true⟩]
theorem k55_r30_e : Eo P pr N k55_r30 e σ Q = Eo P pr N [
  ⟨some 144, .binOp .add 3 (.tmp 110) (.const (.int .i64 1)) 3, none, true⟩,
  ⟨some 110, .move (.tmp 144), none, true⟩] e σ Q := propext ⟨fun h => h, fun h => h⟩
def k55_l1 : CC := (.seq (.region k55_r23) (.seq (.cond (.tmp 111) .skip (.exit 3)) (.seq (.block 4 (.seq (.region k55_r24) (.seq (.region k55_r25) (.seq (.seq (.region k55_r26) (.cond (.tmp 118) (.region k55_r27) .skip)) (.seq (.region k55_r28) (.cond (.tmp 143) (.seq (.region k55_r29) .ret) .skip)))))) (.region k55_r30))))
theorem k55_l1_e : Ev P pr N k55_l1 e σ Q = Ev P pr N (.seq (.region k55_r23) (.seq (.cond (.tmp 111) .skip (.exit 3)) (.seq (.block 4 (.seq (.region k55_r24) (.seq (.region k55_r25) (.seq (.seq (.region k55_r26) (.cond (.tmp 118) (.region k55_r27) .skip)) (.seq (.region k55_r28) (.cond (.tmp 143) (.seq (.region k55_r29) .ret) .skip)))))) (.region k55_r30)))) e σ Q := propext ⟨fun h => h, fun h => h⟩
def k55_r31 : List COp := [
  ⟨some 4, .assign (.const (.bool true)), none, true⟩]
theorem k55_r31_e : Eo P pr N k55_r31 e σ Q = Eo P pr N [
  ⟨some 4, .assign (.const (.bool true)), none, true⟩] e σ Q := propext ⟨fun h => h, fun h => h⟩
def k55 : CC := (.seq (.region k55_r0) (.seq (.seq k55_r1 (.cond (.tmp 22) (.seq (.region k55_r2) .ret) .skip)) (.seq (.seq (.region k55_r3) (.cond (.tmp 51) (.seq (.region k55_r4) .ret) .skip)) (.seq (.seq (.region k55_r5) (.block 0 (.seq (.region k55_r6) (.cond (.tmp 54) (.seq (.region k55_r7) .ret) (.seq (.region k55_r8) (.cond (.tmp 64) (.seq (.region k55_r9) .ret) (.seq (.region k55_r10) (.cond (.tmp 70) (.seq (.seq (.region k55_r11) (.block 1 (.loop k55_l0))) (.seq (.region k55_r17) .ret)) (.seq (.region k55_r18) (.cond (.tmp 89) (.seq (.region k55_r19) (.seq (.seq (.region k55_r20) (.cond (.tmp 106) (.seq (.region k55_r21) .ret) .skip)) (.seq (.region k55_r22) (.block 3 (.loop k55_l1))))) .skip)))))))))) (.seq (.region k55_r31) .ret)))))
theorem k55_e : Ev P pr N k55 e σ Q = Ev P pr N (.seq (.region k55_r0) (.seq (.seq k55_r1 (.cond (.tmp 22) (.seq (.region k55_r2) .ret) .skip)) (.seq (.seq (.region k55_r3) (.cond (.tmp 51) (.seq (.region k55_r4) .ret) .skip)) (.seq (.seq (.region k55_r5) (.block 0 (.seq (.region k55_r6) (.cond (.tmp 54) (.seq (.region k55_r7) .ret) (.seq (.region k55_r8) (.cond (.tmp 64) (.seq (.region k55_r9) .ret) (.seq (.region k55_r10) (.cond (.tmp 70) (.seq (.seq (.region k55_r11) (.block 1 (.loop k55_l0))) (.seq (.region k55_r17) .ret)) (.seq (.region k55_r18) (.cond (.tmp 89) (.seq (.region k55_r19) (.seq (.seq (.region k55_r20) (.cond (.tmp 106) (.seq (.region k55_r21) .ret) .skip)) (.seq (.region k55_r22) (.block 3 (.loop k55_l1))))) .skip)))))))))) (.seq (.region k55_r31) .ret))))) e σ Q := propext ⟨fun h => h, fun h => h⟩
/-- quern/quernref09.of -/
theorem k55_is : FnIs Try.prog prims 55 145 [ResultVar.tmp 4] k55 := FnIs.of_fn Try.func55 (by kernel_rfl) rfl
def k56_r0 : List COp := [
  ⟨some 2, .assign (.const (.int .i64 0)), none, true⟩]
theorem k56_r0_e : Eo P pr N k56_r0 e σ Q = Eo P pr N [
  ⟨some 2, .assign (.const (.int .i64 0)), none, true⟩] e σ Q := propext ⟨fun h => h, fun h => h⟩
def k56_r1 : List COp := [
  ⟨some 3, .assign (.const (.int .i64 0)), none, true⟩]
theorem k56_r1_e : Eo P pr N k56_r1 e σ Q = Eo P pr N [
  ⟨some 3, .assign (.const (.int .i64 0)), none, true⟩] e σ Q := propext ⟨fun h => h, fun h => h⟩
def k56_r2 : List COp := [
  ⟨some 6, .move (.tmp 0), none, true⟩,
  ⟨some 7, .call { callee := .builtin .len, args := #[.tmp 6], argTypes := #[86] }, none, true⟩,
  ⟨some 8, .move (.const (.int .i64 0)), none, true⟩]
theorem k56_r2_e : Eo P pr N k56_r2 e σ Q = Eo P pr N [
  ⟨some 6, .move (.tmp 0), none, true⟩,
  ⟨some 7, .call { callee := .builtin .len, args := #[.tmp 6], argTypes := #[86] }, none, true⟩,
  ⟨some 8, .move (.const (.int .i64 0)), none, true⟩] e σ Q := propext ⟨fun h => h, fun h => h⟩
def k56_r3 : List COp := [
  ⟨some 9, .binOp .lss 3 (.tmp 8) (.tmp 7) 3, none, true⟩]
theorem k56_r3_e : Eo P pr N k56_r3 e σ Q = Eo P pr N [
  ⟨some 9, .binOp .lss 3 (.tmp 8) (.tmp 7) 3, none, true⟩] e σ Q := propext ⟨fun h => h, fun h => h⟩
def k56_r4 : List COp := [
  ⟨some 10, .indexAddr 86 (.tmp 6) (.tmp 8), none, true⟩,
  ⟨some 11, .load 3 (.tmp 10), none, true⟩,
  ⟨some 5, .assign (.tmp 11), none, true⟩]
theorem k56_r4_e : Eo P pr N k56_r4 e σ Q = Eo P pr N [
  ⟨some 10, .indexAddr 86 (.tmp 6) (.tmp 8), none, true⟩,
  ⟨some 11, .load 3 (.tmp 10), none, true⟩,
  ⟨some 5, .assign (.tmp 11), none, true⟩] e σ Q := propext ⟨fun h => h, fun h => h⟩
def k56_r5 : List COp := [
  ⟨some 12, .move (.tmp 5), none, true⟩,
  ⟨some 13, .move (.tmp 3), none, true⟩,
  ⟨some 14, .binOp .neq 3 (.tmp 12) (.tmp 13) 3, none, true⟩]
theorem k56_r5_e : Eo P pr N k56_r5 e σ Q = Eo P pr N [
  ⟨some 12, .move (.tmp 5), none, true⟩,
  ⟨some 13, .move (.tmp 3), none, true⟩,
  ⟨some 14, .binOp .neq 3 (.tmp 12) (.tmp 13) 3, none, true⟩] e σ Q := propext ⟨fun h => h, fun h => h⟩
def k56_r6 : List COp := [
  ⟨some 15, .move (.tmp 5), none, true⟩,
  ⟨some 2, .assign (.tmp 15), none, true⟩]
theorem k56_r6_e : Eo P pr N k56_r6 e σ Q = Eo P pr N [
  ⟨some 15, .move (.tmp 5), none, true⟩,
  ⟨some 2, .assign (.tmp 15), none, true⟩] e σ Q := propext ⟨fun h => h, fun h => h⟩
def k56_r7 : List COp := [
  ⟨some 16, .binOp .add 3 (.tmp 8) (.const (.int .i64 1)) 3, none, true⟩,
  ⟨some 8, .move (.tmp 16), none, true⟩]
theorem k56_r7_e : Eo P pr N k56_r7 e σ Q = Eo P pr N [
  ⟨some 16, .binOp .add 3 (.tmp 8) (.const (.int .i64 1)) 3, none, true⟩,
  ⟨some 8, .move (.tmp 16), none, true⟩] e σ Q := propext ⟨fun h => h, fun h => h⟩
def k56_l0 : CC := (.seq (.region k56_r3) (.seq (.cond (.tmp 9) .skip (.exit 0)) (.seq (.block 1 (.seq (.region k56_r4) (.seq (.region k56_r5) (.cond (.tmp 14) (.seq (.region k56_r6) .ret) .skip)))) (.region k56_r7))))
theorem k56_l0_e : Ev P pr N k56_l0 e σ Q = Ev P pr N (.seq (.region k56_r3) (.seq (.cond (.tmp 9) .skip (.exit 0)) (.seq (.block 1 (.seq (.region k56_r4) (.seq (.region k56_r5) (.cond (.tmp 14) (.seq (.region k56_r6) .ret) .skip)))) (.region k56_r7)))) e σ Q := propext ⟨fun h => h, fun h => h⟩
def k56_r8 : List COp := [
  ⟨some 17, .move (.tmp 3), none, true⟩,
  ⟨some 2, .assign (.tmp 17), none, true⟩]
theorem k56_r8_e : Eo P pr N k56_r8 e σ Q = Eo P pr N [
  ⟨some 17, .move (.tmp 3), none, true⟩,
  ⟨some 2, .assign (.tmp 17), none, true⟩] e σ Q := propext ⟨fun h => h, fun h => h⟩
def k56 : CC := (.seq (.region k56_r0) (.seq (.region k56_r1) (.seq (.seq (.region k56_r2) (.block 0 (.loop k56_l0))) (.seq (.region k56_r8) .ret))))
theorem k56_e : Ev P pr N k56 e σ Q = Ev P pr N (.seq (.region k56_r0) (.seq (.region k56_r1) (.seq (.seq (.region k56_r2) (.block 0 (.loop k56_l0))) (.seq (.region k56_r8) .ret)))) e σ Q := propext ⟨fun h => h, fun h => h⟩
/-- cmp.Or[int] -/
theorem k56_is : FnIs Try.prog prims 56 18 [ResultVar.tmp 2] k56 := FnIs.of_fn Try.func56 (by kernel_rfl) rfl
def k57_r0 : List COp := [
  ⟨some 4, .assign (.const (.int .i64 0)), none, true⟩]
theorem k57_r0_e : Eo P pr N k57_r0 e σ Q = Eo P pr N [
  ⟨some 4, .assign (.const (.int .i64 0)), none, true⟩] e σ Q := propext ⟨fun h => h, fun h => h⟩
def k57_r1 : List COp := [
  ⟨some 7, .move (.tmp 0), none, true⟩,
  ⟨some 8, .call { callee := .value (.func 78), args := #[.tmp 7], argTypes := #[3] }, none, true⟩,
  ⟨some 5, .assign (.tmp 8), none, true⟩]
theorem k57_r1_e : Eo P pr N k57_r1 e σ Q = Eo P pr N [
  ⟨some 7, .move (.tmp 0), none, true⟩,
  ⟨some 8, .call { callee := .value (.func 78), args := #[.tmp 7], argTypes := #[3] }, none, true⟩,
  ⟨some 5, .assign (.tmp 8), none, true⟩] e σ Q := propext ⟨fun h => h, fun h => h⟩
def k57_r2 : List COp := [
  ⟨some 9, .move (.tmp 1), none, true⟩,
  ⟨some 10, .call { callee := .value (.func 78), args := #[.tmp 9], argTypes := #[3] }, none, true⟩,
  ⟨some 6, .assign (.tmp 10), none, true⟩]
theorem k57_r2_e : Eo P pr N k57_r2 e σ Q = Eo P pr N [
  ⟨some 9, .move (.tmp 1), none, true⟩,
  ⟨some 10, .call { callee := .value (.func 78), args := #[.tmp 9], argTypes := #[3] }, none, true⟩,
  ⟨some 6, .assign (.tmp 10), none, true⟩] e σ Q := propext ⟨fun h => h, fun h => h⟩
def k57_r3 : List COp := [
  ⟨some 11, .move (.tmp 5), none, true⟩]
theorem k57_r3_e : Eo P pr N k57_r3 e σ Q = Eo P pr N [
  ⟨some 11, .move (.tmp 5), none, true⟩] e σ Q := propext ⟨fun h => h, fun h => h⟩
def k57_r4 : List COp := [
  ⟨some 12, .move (.tmp 6), none, true⟩]
theorem k57_r4_e : Eo P pr N k57_r4 e σ Q = Eo P pr N [
  ⟨some 12, .move (.tmp 6), none, true⟩] e σ Q := propext ⟨fun h => h, fun h => h⟩
def k57_r5 : List COp := [
  ⟨some 4, .assign (.const (.int .i64 0)), none, true⟩]
theorem k57_r5_e : Eo P pr N k57_r5 e σ Q = Eo P pr N [
  ⟨some 4, .assign (.const (.int .i64 0)), none, true⟩] e σ Q := propext ⟨fun h => h, fun h => h⟩
def k57_r6 : List COp := [
  ⟨some 4, .assign (.const (.int .i64 (-1))), none, true⟩]
theorem k57_r6_e : Eo P pr N k57_r6 e σ Q = Eo P pr N [
  ⟨some 4, .assign (.const (.int .i64 (-1))), none, true⟩] e σ Q := propext ⟨fun h => h, fun h => h⟩
def k57_r7 : List COp := [
  ⟨some 13, .move (.tmp 6), none, true⟩]
theorem k57_r7_e : Eo P pr N k57_r7 e σ Q = Eo P pr N [
  ⟨some 13, .move (.tmp 6), none, true⟩] e σ Q := propext ⟨fun h => h, fun h => h⟩
def k57_r8 : List COp := [
  ⟨some 4, .assign (.const (.int .i64 1)), none, true⟩]
theorem k57_r8_e : Eo P pr N k57_r8 e σ Q = Eo P pr N [
  ⟨some 4, .assign (.const (.int .i64 1)), none, true⟩] e σ Q := propext ⟨fun h => h, fun h => h⟩
def k57_r9 : List COp := [
  ⟨some 14, .move (.tmp 0), none, true⟩,
  ⟨some 15, .move (.tmp 1), none, true⟩,
  ⟨some 16, .binOp .lss 3 (.tmp 14) (.tmp 15) 3, none, true⟩]
theorem k57_r9_e : Eo P pr N k57_r9 e σ Q = Eo P pr N [
  ⟨some 14, .move (.tmp 0), none, true⟩,
  ⟨some 15, .move (.tmp 1), none, true⟩,
  ⟨some 16, .binOp .lss 3 (.tmp 14) (.tmp 15) 3, none, true⟩] e σ Q := propext ⟨fun h => h, fun h => h⟩
def k57_r10 : List COp := [
  ⟨some 4, .assign (.const (.int .i64 (-1))), none, true⟩]
theorem k57_r10_e : Eo P pr N k57_r10 e σ Q = Eo P pr N [
  ⟨some 4, .assign (.const (.int .i64 (-1))), none, true⟩] e σ Q := propext ⟨fun h => h, fun h => h⟩
def k57_r11 : List COp := [
  ⟨some 17, .move (.tmp 0), none, true⟩,
  ⟨some 18, .move (.tmp 1), none, true⟩,
  ⟨some 19, .binOp .gtr 3 (.tmp 17) (.tmp 18) 3, none, true⟩]
theorem k57_r11_e : Eo P pr N k57_r11 e σ Q = Eo P pr N [
  ⟨some 17, .move (.tmp 0), none, true⟩,
  ⟨some 18, .move (.tmp 1), none, true⟩,
  ⟨some 19, .binOp .gtr 3 (.tmp 17) (.tmp 18) 3, none, true⟩] e σ Q := propext ⟨fun h => h, fun h => h⟩
def k57_r12 : List COp := [
  ⟨some 4, .assign (.const (.int .i64 1)), none, true⟩]
theorem k57_r12_e : Eo P pr N k57_r12 e σ Q = Eo P pr N [
  ⟨some 4, .assign (.const (.int .i64 1)), none, true⟩] e σ Q := propext ⟨fun h => h, fun h => h⟩
def k57_r13 : List COp := [
  ⟨some 4, .assign (.const (.int .i64 0)), none, true⟩]
theorem k57_r13_e : Eo P pr N k57_r13 e σ Q = Eo P pr N [
  ⟨some 4, .assign (.const (.int .i64 0)), none, true⟩] e σ Q := propext ⟨fun h => h, fun h => h⟩
def k57 : CC := (.seq (.region k57_r0) (.seq (.region k57_r1) (.seq (.region k57_r2) (.seq (.seq (.region k57_r3) (.cond (.tmp 11) (.seq (.seq (.region k57_r4) (.cond (.tmp 12) (.seq (.region k57_r5) .ret) .skip)) (.seq (.region k57_r6) .ret)) .skip)) (.seq (.seq (.region k57_r7) (.cond (.tmp 13) (.seq (.region k57_r8) .ret) .skip)) (.seq (.seq (.region k57_r9) (.cond (.tmp 16) (.seq (.region k57_r10) .ret) .skip)) (.seq (.seq (.region k57_r11) (.cond (.tmp 19) (.seq (.region k57_r12) .ret) .skip)) (.seq (.region k57_r13) .ret))))))))
theorem k57_e : Ev P pr N k57 e σ Q = Ev P pr N (.seq (.region k57_r0) (.seq (.region k57_r1) (.seq (.region k57_r2) (.seq (.seq (.region k57_r3) (.cond (.tmp 11) (.seq (.seq (.region k57_r4) (.cond (.tmp 12) (.seq (.region k57_r5) .ret) .skip)) (.seq (.region k57_r6) .ret)) .skip)) (.seq (.seq (.region k57_r7) (.cond (.tmp 13) (.seq (.region k57_r8) .ret) .skip)) (.seq (.seq (.region k57_r9) (.cond (.tmp 16) (.seq (.region k57_r10) .ret) .skip)) (.seq (.seq (.region k57_r11) (.cond (.tmp 19) (.seq (.region k57_r12) .ret) .skip)) (.seq (.region k57_r13) .ret)))))))) e σ Q := propext ⟨fun h => h, fun h => h⟩
/-- cmp.Compare[int] -/
theorem k57_is : FnIs Try.prog prims 57 20 [ResultVar.tmp 4] k57 := FnIs.of_fn Try.func57 (by kernel_rfl) rfl
def k59_r0 : List COp := [
  ⟨some 6, .assign (.const (.int .i64 0)), none, true⟩]
theorem k59_r0_e : Eo P pr N k59_r0 e σ Q = Eo P pr N [
  ⟨some 6, .assign (.const (.int .i64 0)), none, true⟩] e σ Q := propext ⟨fun h => h, fun h => h⟩
def k59_r1 : List COp := [
  ⟨some 11, .move (.tmp 0), none, true⟩,
  ⟨some 12, .call { callee := .builtin .len, args := #[.tmp 11], argTypes := #[22] }, none, true⟩,
  ⟨some 13, .move (.const (.int .i64 0)), none, true⟩]
theorem k59_r1_e : Eo P pr N k59_r1 e σ Q = Eo P pr N [
  ⟨some 11, .move (.tmp 0), none, true⟩,
  ⟨some 12, .call { callee := .builtin .len, args := #[.tmp 11], argTypes := #[22] }, none, true⟩,
  ⟨some 13, .move (.const (.int .i64 0)), none, true⟩] e σ Q := propext ⟨fun h => h, fun h => h⟩
def k59_r2 : List COp := [
  ⟨some 14, .binOp .lss 3 (.tmp 13) (.tmp 12) 3, none, true⟩]
theorem k59_r2_e : Eo P pr N k59_r2 e σ Q = Eo P pr N [
  ⟨some 14, .binOp .lss 3 (.tmp 13) (.tmp 12) 3, none, true⟩] e σ Q := propext ⟨fun h => h, fun h => h⟩
def k59_r3 : List COp := [
  ⟨some 15, .move (.tmp 13), none, true⟩,
  ⟨some 16, .indexAddr 22 (.tmp 11) (.tmp 13), none, true⟩,
  ⟨some 17, .load 24 (.tmp 16), none, true⟩,
  ⟨some 8, .alloc 24, none, true⟩,
  ⟨some 7, .assign (.tmp 15), none, true⟩,
  ⟨none, .store 24 (.tmp 8) (.tmp 17), none, true⟩]
theorem k59_r3_e : Eo P pr N k59_r3 e σ Q = Eo P pr N [
  ⟨some 15, .move (.tmp 13), none, true⟩,
  ⟨some 16, .indexAddr 22 (.tmp 11) (.tmp 13), none, true⟩,
  ⟨some 17, .load 24 (.tmp 16), none, true⟩,
  ⟨some 8, .alloc 24, none, true⟩,
  ⟨some 7, .assign (.tmp 15), none, true⟩,
  ⟨none, .store 24 (.tmp 8) (.tmp 17), none, true⟩] e σ Q := propext ⟨fun h => h, fun h => h⟩
def k59_r4 : List COp := [
  ⟨some 18, .move (.tmp 7), none, true⟩,
  ⟨some 19, .move (.tmp 1), none, true⟩,
  ⟨some 20, .call { callee := .builtin .len, args := #[.tmp 19], argTypes := #[22] }, none, true⟩,
  ⟨some 21, .binOp .geq 3 (.tmp 18) (.tmp 20) 3, none, true⟩]
theorem k59_r4_e : Eo P pr N k59_r4 e σ Q = Eo P pr N [
  ⟨some 18, .move (.tmp 7), none, true⟩,
  ⟨some 19, .move (.tmp 1), none, true⟩,
  ⟨some 20, .call { callee := .builtin .len, args := #[.tmp 19], argTypes := #[22] }, none, true⟩,
  ⟨some 21, .binOp .geq 3 (.tmp 18) (.tmp 20) 3, none, true⟩] e σ Q := propext ⟨fun h => h, fun h => h⟩
def k59_r5 : List COp := [
  ⟨some 6, .assign (.const (.int .i64 1)), none, true⟩]
theorem k59_r5_e : Eo P pr N k59_r5 e σ Q = Eo P pr N [
  ⟨some 6, .assign (.const (.int .i64 1)), none, true⟩] e σ Q := propext ⟨fun h => h, fun h => h⟩
def k59_r6 : List COp := [
  ⟨some 22, .move (.tmp 1), none, true⟩,
  ⟨some 23, .move (.tmp 7), none, true⟩,
  ⟨some 24, .indexAddr 22 (.tmp 22) (.tmp 23), none, true⟩,
  ⟨some 25, .load 24 (.tmp 24), none, true⟩,
  ⟨some 9, .alloc 24, none, true⟩,
  ⟨none, .store 24 (.tmp 9) (.tmp 25), none, true⟩]
theorem k59_r6_e : Eo P pr N k59_r6 e σ Q = Eo P pr N [
  ⟨some 22, .move (.tmp 1), none, true⟩,
  ⟨some 23, .move (.tmp 7), none, true⟩,
  ⟨some 24, .indexAddr 22 (.tmp 22) (.tmp 23), none, true⟩,
  ⟨some 25, .load 24 (.tmp 24), none, true⟩,
  ⟨some 9, .alloc 24, none, true⟩,
  ⟨none, .store 24 (.tmp 9) (.tmp 25), none, true⟩] e σ Q := propext ⟨fun h => h, fun h => h⟩
def k59_r7 : List COp := [
  ⟨some 26, .move (.tmp 2), none, true⟩,
  ⟨some 27, .load 24 (.tmp 8), none, true⟩,
  ⟨some 28, .load 24 (.tmp 9), none, true⟩,
  ⟨some 29, .call { callee := .value (.tmp 26), args := #[.tmp 27, .tmp 28], argTypes := #[24, 24] }, none, true⟩,
  ⟨some 10, .assign (.tmp 29), none, true⟩]
theorem k59_r7_e : Eo P pr N k59_r7 e σ Q = Eo P pr N [
  ⟨some 26, .move (.tmp 2), none, true⟩,
  ⟨some 27, .load 24 (.tmp 8), none, true⟩,
  ⟨some 28, .load 24 (.tmp 9), none, true⟩,
  ⟨some 29, .call { callee := .value (.tmp 26), args := #[.tmp 27, .tmp 28], argTypes := #[24, 24] }, none, true⟩,
  ⟨some 10, .assign (.tmp 29), none, true⟩] e σ Q := propext ⟨fun h => h, fun h => h⟩
def k59_r8 : List COp := [
  ⟨some 30, .move (.tmp 10), none, true⟩,
  ⟨some 31, .binOp .neq 3 (.tmp 30) (.const (.int .i64 0)) 3, none, true⟩]
theorem k59_r8_e : Eo P pr N k59_r8 e σ Q = Eo P pr N [
  ⟨some 30, .move (.tmp 10), none, true⟩,
  ⟨some 31, .binOp .neq 3 (.tmp 30) (.const (.int .i64 0)) 3, none, true⟩] e σ Q := propext ⟨fun h => h, fun h => h⟩
def k59_r9 : List COp := [
  ⟨some 32, .move (.tmp 10), none, true⟩,
  ⟨some 6, .assign (.tmp 32), none, true⟩]
theorem k59_r9_e : Eo P pr N k59_r9 e σ Q = Eo P pr N [
  ⟨some 32, .move (.tmp 10), none, true⟩,
  ⟨some 6, .assign (.tmp 32), none, true⟩] e σ Q := propext ⟨fun h => h, fun h => h⟩
def k59_r10 : List COp := [
  ⟨some 33, .binOp .add 3 (.tmp 13) (.const (.int .i64 1)) 3, none, true⟩,
  ⟨some 13, .move (.tmp 33), none, true⟩]
theorem k59_r10_e : Eo P pr N k59_r10 e σ Q = Eo P pr N [
  ⟨some 33, .binOp .add 3 (.tmp 13) (.const (.int .i64 1)) 3, none, true⟩,
  ⟨some 13, .move (.tmp 33), none, true⟩] e σ Q := propext ⟨fun h => h, fun h => h⟩
def k59_l0 : CC := (.seq (.region k59_r2) (.seq (.cond (.tmp 14) .skip (.exit 0)) (.seq (.block 1 (.seq (.region k59_r3) (.seq (.seq (.region k59_r4) (.cond (.tmp 21) (.seq (.region k59_r5) .ret) .skip)) (.seq (.region k59_r6) (.seq (.region k59_r7) (.seq (.region k59_r8) (.cond (.tmp 31) (.seq (.region k59_r9) .ret) .skip))))))) (.region k59_r10))))
theorem k59_l0_e : Ev P pr N k59_l0 e σ Q = Ev P pr N (.seq (.region k59_r2) (.seq (.cond (.tmp 14) .skip (.exit 0)) (.seq (.block 1 (.seq (.region k59_r3) (.seq (.seq (.region k59_r4) (.cond (.tmp 21) (.seq (.region k59_r5) .ret) .skip)) (.seq (.region k59_r6) (.seq (.region k59_r7) (.seq (.region k59_r8) (.cond (.tmp 31) (.seq (.region k59_r9) .ret) .skip))))))) (.region k59_r10)))) e σ Q := propext ⟨fun h => h, fun h => h⟩
def k59_r11 : List COp := [
  ⟨some 34, .move (.tmp 0), none, true⟩,
  ⟨some 35, .call { callee := .builtin .len, args := #[.tmp 34], argTypes := #[22] }, none, true⟩,
  ⟨some 36, .move (.tmp 1), none, true⟩,
  ⟨some 37, .call { callee := .builtin .len, args := #[.tmp 36], argTypes := #[22] }, none, true⟩,
  ⟨some 38, .binOp .lss 3 (.tmp 35) (.tmp 37) 3, none, true⟩]
theorem k59_r11_e : Eo P pr N k59_r11 e σ Q = Eo P pr N [
  ⟨some 34, .move (.tmp 0), none, true⟩,
  ⟨some 35, .call { callee := .builtin .len, args := #[.tmp 34], argTypes := #[22] }, none, true⟩,
  ⟨some 36, .move (.tmp 1), none, true⟩,
  ⟨some 37, .call { callee := .builtin .len, args := #[.tmp 36], argTypes := #[22] }, none, true⟩,
  ⟨some 38, .binOp .lss 3 (.tmp 35) (.tmp 37) 3, none, true⟩] e σ Q := propext ⟨fun h => h, fun h => h⟩
def k59_r12 : List COp := [
  ⟨some 6, .assign (.const (.int .i64 (-1))), none, true⟩]
theorem k59_r12_e : Eo P pr N k59_r12 e σ Q = Eo P pr N [
  ⟨some 6, .assign (.const (.int .i64 (-1))), none, true⟩] e σ Q := propext ⟨fun h => h, fun h => h⟩
def k59_r13 : List COp := [
  ⟨some 6, .assign (.const (.int .i64 0)), none, true⟩]
theorem k59_r13_e : Eo P pr N k59_r13 e σ Q = Eo P pr N [
  ⟨some 6, .assign (.const (.int .i64 0)), none, true⟩] e σ Q := propext ⟨fun h => h, fun h => h⟩
def k59 : CC := (.seq (.region k59_r0) (.seq (.seq (.region k59_r1) (.block 0 (.loop k59_l0))) (.seq (.seq (.region k59_r11) (.cond (.tmp 38) (.seq (.region k59_r12) .ret) .skip)) (.seq (.region k59_r13) .ret))))
theorem k59_e : Ev P pr N k59 e σ Q = Ev P pr N (.seq (.region k59_r0) (.seq (.seq (.region k59_r1) (.block 0 (.loop k59_l0))) (.seq (.seq (.region k59_r11) (.cond (.tmp 38) (.seq (.region k59_r12) .ret) .skip)) (.seq (.region k59_r13) .ret)))) e σ Q := propext ⟨fun h => h, fun h => h⟩
/-- slices.CompareFunc[[]quern/api.Value,[]quern/api.Value,quern/api.Value,quern/api.Value] -/
theorem k59_is : FnIs Try.prog prims 59 39 [ResultVar.tmp 6] k59 := FnIs.of_fn Try.func59 (by kernel_rfl) rfl
def k60_r0 : List COp := [
  ⟨some 3, .box 24 (.tmp 1), none, true⟩,
  ⟨some 4, .assign (.const (.slice .none 0 0)), none, true⟩]
theorem k60_r0_e : Eo P pr N k60_r0 e σ Q = Eo P pr N [
  ⟨some 3, .box 24 (.tmp 1), none, true⟩,
  ⟨some 4, .assign (.const (.slice .none 0 0)), none, true⟩] e σ Q := propext ⟨fun h => h, fun h => h⟩
def k60_r1 : List COp := [
  ⟨some 8, .fieldAddr 24 (.tmp 3) 0, none, true⟩,
  ⟨some 9, .load 3 (.tmp 8), none, true⟩]
theorem k60_r1_e : Eo P pr N k60_r1 e σ Q = Eo P pr N [
  ⟨some 8, .fieldAddr 24 (.tmp 3) 0, none, true⟩,
  ⟨some 9, .load 3 (.tmp 8), none, true⟩] e σ Q := propext ⟨fun h => h, fun h => h⟩
def k60_r2 : List COp := [
  ⟨some 11, .binOp .eql 3 (.tmp 9) (.const (.int .i64 1)) 3, none, true⟩,
  ⟨some 10, .assign (.tmp 11), none, true⟩]
theorem k60_r2_e : Eo P pr N k60_r2 e σ Q = Eo P pr N [
  ⟨some 11, .binOp .eql 3 (.tmp 9) (.const (.int .i64 1)) 3, none, true⟩,
  ⟨some 10, .assign (.tmp 11), none, true⟩] e σ Q := propext ⟨fun h => h, fun h => h⟩
def k60_r3 : List COp := [
  ⟨some 12, .move (.tmp 0), none, true⟩,
  ⟨some 13, .fieldAddr 24 (.tmp 3) 1, none, true⟩,
  ⟨some 14, .load 3 (.tmp 13), none, true⟩,
  ⟨some 15, .call { callee := .value (.func 81), args := #[.tmp 14], argTypes := #[3] }, none, true⟩,
  ⟨some 16, .call { callee := .value (.func 80), args := #[.tmp 12, .tmp 15], argTypes := #[44, 86] }, none, true⟩,
  ⟨some 4, .assign (.tmp 16), none, true⟩]
theorem k60_r3_e : Eo P pr N k60_r3 e σ Q = Eo P pr N [
  ⟨some 12, .move (.tmp 0), none, true⟩,
  ⟨some 13, .fieldAddr 24 (.tmp 3) 1, none, true⟩,
  ⟨some 14, .load 3 (.tmp 13), none, true⟩,
  ⟨some 15, .call { callee := .value (.func 81), args := #[.tmp 14], argTypes := #[3] }, none, true⟩,
  ⟨some 16, .call { callee := .value (.func 80), args := #[.tmp 12, .tmp 15], argTypes := #[44, 86] }, none, true⟩,
  ⟨some 4, .assign (.tmp 16), none, true⟩] e σ Q := propext ⟨fun h => h, fun h => h⟩
def k60_r4 : List COp := [
  ⟨some 18, .binOp .eql 3 (.tmp 9) (.const (.int .i64 2)) 3, none, true⟩,
  ⟨some 17, .assign (.tmp 18), none, true⟩]
theorem k60_r4_e : Eo P pr N k60_r4 e σ Q = Eo P pr N [
  ⟨some 18, .binOp .eql 3 (.tmp 9) (.const (.int .i64 2)) 3, none, true⟩,
  ⟨some 17, .assign (.tmp 18), none, true⟩] e σ Q := propext ⟨fun h => h, fun h => h⟩
def k60_r5 : List COp := [
  ⟨some 19, .move (.tmp 0), none, true⟩,
  ⟨some 20, .fieldAddr 24 (.tmp 3) 1, none, true⟩,
  ⟨some 21, .load 3 (.tmp 20), none, true⟩,
  ⟨some 22, .buildSlice 86 1 #[(0, .tmp 21)], none, true⟩,
  ⟨some 23, .call { callee := .value (.func 80), args := #[.tmp 19, .tmp 22], argTypes := #[44, 86] }, none, true⟩,
  ⟨some 4, .assign (.tmp 23), none, true⟩]
theorem k60_r5_e : Eo P pr N k60_r5 e σ Q = Eo P pr N [
  ⟨some 19, .move (.tmp 0), none, true⟩,
  ⟨some 20, .fieldAddr 24 (.tmp 3) 1, none, true⟩,
  ⟨some 21, .load 3 (.tmp 20), none, true⟩,
  ⟨some 22, .buildSlice 86 1 #[(0, .tmp 21)], none, true⟩,
  ⟨some 23, .call { callee := .value (.func 80), args := #[.tmp 19, .tmp 22], argTypes := #[44, 86] }, none, true⟩,
  ⟨some 4, .assign (.tmp 23), none, true⟩] e σ Q := propext ⟨fun h => h, fun h => h⟩
def k60_r6 : List COp := [
  ⟨some 25, .binOp .eql 3 (.tmp 9) (.const (.int .i64 3)) 3, none, true⟩,
  ⟨some 24, .assign (.tmp 25), none, true⟩]
theorem k60_r6_e : Eo P pr N k60_r6 e σ Q = Eo P pr N [
  ⟨some 25, .binOp .eql 3 (.tmp 9) (.const (.int .i64 3)) 3, none, true⟩,
  ⟨some 24, .assign (.tmp 25), none, true⟩] e σ Q := propext ⟨fun h => h, fun h => h⟩
def k60_r7 : CC := (.wregion [
  (true, ⟨some 26, .move (.tmp 0), none, false⟩),
  (false, ⟨some 27, .fieldAddr 24 (.tmp 3) 2, none, false⟩),
  (false, ⟨some 28, .load 9 (.tmp 27), none, false⟩),
  (false, ⟨some 29, .call { callee := .builtin .len, args := #[.tmp 28], argTypes := #[9] }, none, false⟩),
  (false, ⟨some 30, .buildSlice 86 1 #[(0, .tmp 29)], none, false⟩),
  (false, ⟨some 31, .call { callee := .value (.func 80), args := #[.tmp 26, .tmp 30], argTypes := #[44, 86] }, none, false⟩),
  (true, ⟨some 32, .fieldAddr 24 (.tmp 3) 2, none, true⟩),
  (true, ⟨some 33, .load 9 (.tmp 32), none, true⟩),
  (false, ⟨some 34, .call { callee := .builtin .append, args := #[.tmp 31, .tmp 33], argTypes := #[44, 9] }, none, true⟩),
  (false, ⟨some 4, .assign (.tmp 34), none, true⟩)] false [(7, ⟨some 33, .load 9 (.tmp 32), none, true⟩, [0, 6])])
theorem k60_r7_e : Ev P pr N k60_r7 e σ Q = Ev P pr N (.wregion [
  (true, ⟨some 26, .move (.tmp 0), none, false⟩),
  (false, ⟨some 27, .fieldAddr 24 (.tmp 3) 2, none, false⟩),
  (false, ⟨some 28, .load 9 (.tmp 27), none, false⟩),
  (false, ⟨some 29, .call { callee := .builtin .len, args := #[.tmp 28], argTypes := #[9] }, none, false⟩),
  (false, ⟨some 30, .buildSlice 86 1 #[(0, .tmp 29)], none, false⟩),
  (false, ⟨some 31, .call { callee := .value (.func 80), args := #[.tmp 26, .tmp 30], argTypes := #[44, 86] }, none, false⟩),
  (true, ⟨some 32, .fieldAddr 24 (.tmp 3) 2, none, true⟩),
  (true, ⟨some 33, .load 9 (.tmp 32), none, true⟩),
  (false, ⟨some 34, .call { callee := .builtin .append, args := #[.tmp 31, .tmp 33], argTypes := #[44, 9] }, none, true⟩),
  (false, ⟨some 4, .assign (.tmp 34), none, true⟩)] false [(7, ⟨some 33, .load 9 (.tmp 32), none, true⟩, [0, 6])]) e σ Q := propext ⟨fun h => h, fun h => h⟩
def k60_r8 : List COp := [
  ⟨some 35, .fieldAddr 24 (.tmp 3) 3, none, true⟩,
  ⟨some 36, .load 22 (.tmp 35), none, true⟩,
  ⟨some 37, .call { callee := .builtin .len, args := #[.tmp 36], argTypes := #[22] }, none, true⟩,
  ⟨some 5, .assign (.tmp 37), none, true⟩]
theorem k60_r8_e : Eo P pr N k60_r8 e σ Q = Eo P pr N [
  ⟨some 35, .fieldAddr 24 (.tmp 3) 3, none, true⟩,
  ⟨some 36, .load 22 (.tmp 35), none, true⟩,
  ⟨some 37, .call { callee := .builtin .len, args := #[.tmp 36], argTypes := #[22] }, none, true⟩,
  ⟨some 5, .assign (.tmp 37), none, true⟩] e σ Q := propext ⟨fun h => h, fun h => h⟩
def k60_r9 : List COp := [
  ⟨some 38, .fieldAddr 24 (.tmp 3) 0, none, true⟩,
  ⟨some 39, .load 3 (.tmp 38), none, true⟩,
  ⟨some 40, .binOp .eql 3 (.tmp 39) (.const (.int .i64 5)) 3, none, true⟩]
theorem k60_r9_e : Eo P pr N k60_r9 e σ Q = Eo P pr N [
  ⟨some 38, .fieldAddr 24 (.tmp 3) 0, none, true⟩,
  ⟨some 39, .load 3 (.tmp 38), none, true⟩,
  ⟨some 40, .binOp .eql 3 (.tmp 39) (.const (.int .i64 5)) 3, none, true⟩] e σ Q := propext ⟨fun h => h, fun h => h⟩
def k60_r10 : List COp := [
  ⟨some 41, .move (.tmp 5), none, true⟩,
  ⟨some 42, .binOp .quo 3 (.tmp 41) (.const (.int .i64 2)) 3, none, true⟩,
  ⟨some 5, .assign (.tmp 42), none, true⟩]
theorem k60_r10_e : Eo P pr N k60_r10 e σ Q = Eo P pr N [
  ⟨some 41, .move (.tmp 5), none, true⟩,
  ⟨some 42, .binOp .quo 3 (.tmp 41) (.const (.int .i64 2)) 3, none, true⟩,
  ⟨some 5, .assign (.tmp 42), none, true⟩] e σ Q := propext ⟨fun h => h, fun h => h⟩
def k60_r11 : List COp := [
  ⟨some 43, .move (.tmp 0), none, true⟩,
  ⟨some 44, .move (.tmp 5), none, true⟩,
  ⟨some 45, .buildSlice 86 1 #[(0, .tmp 44)], none, true⟩,
  ⟨some 46, .call { callee := .value (.func 80), args := #[.tmp 43, .tmp 45], argTypes := #[44, 86] }, none, true⟩,
  ⟨some 0, .assign (.tmp 46), none, true⟩]
theorem k60_r11_e : Eo P pr N k60_r11 e σ Q = Eo P pr N [
  ⟨some 43, .move (.tmp 0), none, true⟩,
  ⟨some 44, .move (.tmp 5), none, true⟩,
  ⟨some 45, .buildSlice 86 1 #[(0, .tmp 44)], none, true⟩,
  ⟨some 46, .call { callee := .value (.func 80), args := #[.tmp 43, .tmp 45], argTypes := #[44, 86] }, none, true⟩,
  ⟨some 0, .assign (.tmp 46), none, true⟩] e σ Q := propext ⟨fun h => h, fun h => h⟩
def k60_r12 : List COp := [
  ⟨some 47, .fieldAddr 24 (.tmp 3) 3, none, true⟩,
  ⟨some 48, .load 22 (.tmp 47), none, true⟩,
  ⟨some 49, .call { callee := .builtin .len, args := #[.tmp 48], argTypes := #[22] }, none, true⟩,
  ⟨some 50, .move (.const (.int .i64 0)), none, true⟩]
theorem k60_r12_e : Eo P pr N k60_r12 e σ Q = Eo P pr N [
  ⟨some 47, .fieldAddr 24 (.tmp 3) 3, none, true⟩,
  ⟨some 48, .load 22 (.tmp 47), none, true⟩,
  ⟨some 49, .call { callee := .builtin .len, args := #[.tmp 48], argTypes := #[22] }, none, true⟩,
  ⟨some 50, .move (.const (.int .i64 0)), none, true⟩] e σ Q := propext ⟨fun h => h, fun h => h⟩
def k60_r13 : List COp := [
  ⟨some 51, .binOp .lss 3 (.tmp 50) (.tmp 49) 3, none, true⟩]
theorem k60_r13_e : Eo P pr N k60_r13 e σ Q = Eo P pr N [
  ⟨some 51, .binOp .lss 3 (.tmp 50) (.tmp 49) 3, none, true⟩] e σ Q := propext ⟨fun h => h, fun h => h⟩
def k60_r14 : List COp := [
  ⟨some 52, .indexAddr 22 (.tmp 48) (.tmp 50), none, true⟩,
  ⟨some 53, .load 24 (.tmp 52), none, true⟩,
  ⟨some 7, .alloc 24, none, true⟩,
  ⟨none, .store 24 (.tmp 7) (.tmp 53), none, true⟩]
theorem k60_r14_e : Eo P pr N k60_r14 e σ Q = Eo P pr N [
  ⟨some 52, .indexAddr 22 (.tmp 48) (.tmp 50), none, true⟩,
  ⟨some 53, .load 24 (.tmp 52), none, true⟩,
  ⟨some 7, .alloc 24, none, true⟩,
  ⟨none, .store 24 (.tmp 7) (.tmp 53), none, true⟩] e σ Q := propext ⟨fun h => h, fun h => h⟩
def k60_r15 : List COp := [
  ⟨some 54, .move (.tmp 0), none, true⟩,
  ⟨some 55, .load 24 (.tmp 7), none, true⟩,
  ⟨some 56, .call { callee := .value (.func 60), args := #[.tmp 54, .tmp 55], argTypes := #[44, 24] }, none, true⟩,
  ⟨some 0, .assign (.tmp 56), none, true⟩]
theorem k60_r15_e : Eo P pr N k60_r15 e σ Q = Eo P pr N [
  ⟨some 54, .move (.tmp 0), none, true⟩,
  ⟨some 55, .load 24 (.tmp 7), none, true⟩,
  ⟨some 56, .call { callee := .value (.func 60), args := #[.tmp 54, .tmp 55], argTypes := #[44, 24] }, none, true⟩,
  ⟨some 0, .assign (.tmp 56), none, true⟩] e σ Q := propext ⟨fun h => h, fun h => h⟩
def k60_r16 : List COp := [
  ⟨some 57, .binOp .add 3 (.tmp 50) (.const (.int .i64 1)) 3, none, true⟩,
  ⟨some 50, .move (.tmp 57), none, true⟩]
theorem k60_r16_e : Eo P pr N k60_r16 e σ Q = Eo P pr N [
  ⟨some 57, .binOp .add 3 (.tmp 50) (.const (.int .i64 1)) 3, none, true⟩,
  ⟨some 50, .move (.tmp 57), none, true⟩] e σ Q := propext ⟨fun h => h, fun h => h⟩
def k60_l0 : CC := (.seq (.region k60_r13) (.seq (.cond (.tmp 51) .skip (.exit 1)) (.seq (.block 2 (.seq (.region k60_r14) (.region k60_r15))) (.region k60_r16))))
theorem k60_l0_e : Ev P pr N k60_l0 e σ Q = Ev P pr N (.seq (.region k60_r13) (.seq (.cond (.tmp 51) .skip (.exit 1)) (.seq (.block 2 (.seq (.region k60_r14) (.region k60_r15))) (.region k60_r16)))) e σ Q := propext ⟨fun h => h, fun h => h⟩
def k60_r17 : List COp := [
  ⟨some 58, .move (.tmp 0), none, true⟩,
  ⟨some 4, .assign (.tmp 58), none, true⟩]
theorem k60_r17_e : Eo P pr N k60_r17 e σ Q = Eo P pr N [
  ⟨some 58, .move (.tmp 0), none, true⟩,
  ⟨some 4, .assign (.tmp 58), none, true⟩] e σ Q := propext ⟨fun h => h, fun h => h⟩
def k60 : CC := (.seq (.region k60_r0) (.seq (.seq (.region k60_r1) (.block 0 (.seq (.region k60_r2) (.cond (.tmp 10) (.seq (.region k60_r3) .ret) (.seq (.region k60_r4) (.cond (.tmp 17) (.seq (.region k60_r5) .ret) (.seq (.region k60_r6) (.cond (.tmp 24) (.seq k60_r7 .ret) .skip)))))))) (.seq (.region k60_r8) (.seq (.seq (.region k60_r9) (.cond (.tmp 40) (.region k60_r10) .skip)) (.seq (.region k60_r11) (.seq (.seq (.region k60_r12) (.block 1 (.loop k60_l0))) (.seq (.region k60_r17) .ret)))))))
theorem k60_e : Ev P pr N k60 e σ Q = Ev P pr N (.seq (.region k60_r0) (.seq (.seq (.region k60_r1) (.block 0 (.seq (.region k60_r2) (.cond (.tmp 10) (.seq (.region k60_r3) .ret) (.seq (.region k60_r4) (.cond (.tmp 17) (.seq (.region k60_r5) .ret) (.seq (.region k60_r6) (.cond (.tmp 24) (.seq k60_r7 .ret) .skip)))))))) (.seq (.region k60_r8) (.seq (.seq (.region k60_r9) (.cond (.tmp 40) (.region k60_r10) .skip)) (.seq (.region k60_r11) (.seq (.seq (.region k60_r12) (.block 1 (.loop k60_l0))) (.seq (.region k60_r17) .ret))))))) e σ Q := propext ⟨fun h => h, fun h => h⟩
/-- quern/value.put -/
theorem k60_is : FnIs Try.prog prims 60 59 [ResultVar.tmp 4] k60 := FnIs.of_fn Try.func60 (by kernel_rfl) rfl
def k61_r0 : List COp := [
  ⟨some 1, .box 24 (.tmp 0), none, true⟩,
  ⟨some 2, .assign (.const (.slice .none 0 0)), none, true⟩]
theorem k61_r0_e : Eo P pr N k61_r0 e σ Q = Eo P pr N [
  ⟨some 1, .box 24 (.tmp 0), none, true⟩,
  ⟨some 2, .assign (.const (.slice .none 0 0)), none, true⟩] e σ Q := propext ⟨fun h => h, fun h => h⟩
def k61_r1 : List COp := [
  ⟨some 3, .assign (.const (.slice .none 0 0)), none, true⟩]
theorem k61_r1_e : Eo P pr N k61_r1 e σ Q = Eo P pr N [
  ⟨some 3, .assign (.const (.slice .none 0 0)), none, true⟩] e σ Q := propext ⟨fun h => h, fun h => h⟩
def k61_r2 : List COp := [
  ⟨some 6, .fieldAddr 24 (.tmp 1) 0, none, true⟩,
  ⟨some 7, .load 3 (.tmp 6), none, true⟩]
theorem k61_r2_e : Eo P pr N k61_r2 e σ Q = Eo P pr N [
  ⟨some 6, .fieldAddr 24 (.tmp 1) 0, none, true⟩,
  ⟨some 7, .load 3 (.tmp 6), none, true⟩] e σ Q := propext ⟨fun h => h, fun h => h⟩
def k61_r4 : List COp := [
  ⟨some 14, .binOp .eql 3 (.tmp 7) (.const (.int .i64 1)) 3, none, true⟩,
  ⟨some 13, .assign (.tmp 14), none, true⟩]
theorem k61_r4_e : Eo P pr N k61_r4 e σ Q = Eo P pr N [
  ⟨some 14, .binOp .eql 3 (.tmp 7) (.const (.int .i64 1)) 3, none, true⟩,
  ⟨some 13, .assign (.tmp 14), none, true⟩] e σ Q := propext ⟨fun h => h, fun h => h⟩
def k61_r5 : List COp := [
  ⟨some 15, .fieldAddr 24 (.tmp 1) 1, none, true⟩,
  ⟨some 16, .load 3 (.tmp 15), none, true⟩,
  ⟨some 17, .binOp .lss 3 (.tmp 16) (.const (.int .i64 0)) 3, none, true⟩]
theorem k61_r5_e : Eo P pr N k61_r5 e σ Q = Eo P pr N [
  ⟨some 15, .fieldAddr 24 (.tmp 1) 1, none, true⟩,
  ⟨some 16, .load 3 (.tmp 15), none, true⟩,
  ⟨some 17, .binOp .lss 3 (.tmp 16) (.const (.int .i64 0)) 3, none, true⟩] e σ Q := propext ⟨fun h => h, fun h => h⟩
def k61_r6 : List COp := [
  ⟨some 18, .buildSlice 44 1 #[(0, .const (.int .u8 1))], none, true⟩,
  ⟨some 19, .fieldAddr 24 (.tmp 1) 1, none, true⟩,
  ⟨some 20, .load 3 (.tmp 19), none, true⟩,
  ⟨some 21, .binOp .add 3 (.tmp 20) (.const (.int .i64 1)) 3, none, true⟩,
  ⟨some 22, .unOp .neg 3 (.tmp 21), none, true⟩,
  ⟨some 23, .call { callee := .value (.func 82), args := #[.tmp 18, .tmp 22], argTypes := #[44, 3] }, none, true⟩,
  ⟨some 2, .assign (.tmp 23), none, true⟩]
theorem k61_r6_e : Eo P pr N k61_r6 e σ Q = Eo P pr N [
  ⟨some 18, .buildSlice 44 1 #[(0, .const (.int .u8 1))], none, true⟩,
  ⟨some 19, .fieldAddr 24 (.tmp 1) 1, none, true⟩,
  ⟨some 20, .load 3 (.tmp 19), none, true⟩,
  ⟨some 21, .binOp .add 3 (.tmp 20) (.const (.int .i64 1)) 3, none, true⟩,
  ⟨some 22, .unOp .neg 3 (.tmp 21), none, true⟩,
  ⟨some 23, .call { callee := .value (.func 82), args := #[.tmp 18, .tmp 22], argTypes := #[44, 3] }, none, true⟩,
  ⟨some 2, .assign (.tmp 23), none, true⟩] e σ Q := propext ⟨fun h => h, fun h => h⟩
def k61_r7 : List COp := [
  ⟨some 24, .buildSlice 44 1 #[(0, .const (.int .u8 0))], none, true⟩,
  ⟨some 25, .fieldAddr 24 (.tmp 1) 1, none, true⟩,
  ⟨some 26, .load 3 (.tmp 25), none, true⟩,
  ⟨some 27, .call { callee := .value (.func 82), args := #[.tmp 24, .tmp 26], argTypes := #[44, 3] }, none, true⟩,
  ⟨some 2, .assign (.tmp 27), none, true⟩]
theorem k61_r7_e : Eo P pr N k61_r7 e σ Q = Eo P pr N [
  ⟨some 24, .buildSlice 44 1 #[(0, .const (.int .u8 0))], none, true⟩,
  ⟨some 25, .fieldAddr 24 (.tmp 1) 1, none, true⟩,
  ⟨some 26, .load 3 (.tmp 25), none, true⟩,
  ⟨some 27, .call { callee := .value (.func 82), args := #[.tmp 24, .tmp 26], argTypes := #[44, 3] }, none, true⟩,
  ⟨some 2, .assign (.tmp 27), none, true⟩] e σ Q := propext ⟨fun h => h, fun h => h⟩
def k61_r8 : List COp := [
  ⟨some 29, .binOp .eql 3 (.tmp 7) (.const (.int .i64 2)) 3, none, true⟩,
  ⟨some 28, .assign (.tmp 29), none, true⟩]
theorem k61_r8_e : Eo P pr N k61_r8 e σ Q = Eo P pr N [
  ⟨some 29, .binOp .eql 3 (.tmp 7) (.const (.int .i64 2)) 3, none, true⟩,
  ⟨some 28, .assign (.tmp 29), none, true⟩] e σ Q := propext ⟨fun h => h, fun h => h⟩
def k61_r9 : List COp := [
  ⟨some 30, .fieldAddr 24 (.tmp 1) 1, none, true⟩,
  ⟨some 31, .load 3 (.tmp 30), none, true⟩,
  ⟨some 32, .call { callee := .value (.func 82), args := #[.const (.slice .none 0 0), .tmp 31], argTypes := #[44, 3] }, none, true⟩,
  ⟨some 2, .assign (.tmp 32), none, true⟩]
theorem k61_r9_e : Eo P pr N k61_r9 e σ Q = Eo P pr N [
  ⟨some 30, .fieldAddr 24 (.tmp 1) 1, none, true⟩,
  ⟨some 31, .load 3 (.tmp 30), none, true⟩,
  ⟨some 32, .call { callee := .value (.func 82), args := #[.const (.slice .none 0 0), .tmp 31], argTypes := #[44, 3] }, none, true⟩,
  ⟨some 2, .assign (.tmp 32), none, true⟩] e σ Q := propext ⟨fun h => h, fun h => h⟩
def k61_r10 : List COp := [
  ⟨some 34, .binOp .eql 3 (.tmp 7) (.const (.int .i64 3)) 3, none, true⟩,
  ⟨some 33, .assign (.tmp 34), none, true⟩]
theorem k61_r10_e : Eo P pr N k61_r10 e σ Q = Eo P pr N [
  ⟨some 34, .binOp .eql 3 (.tmp 7) (.const (.int .i64 3)) 3, none, true⟩,
  ⟨some 33, .assign (.tmp 34), none, true⟩] e σ Q := propext ⟨fun h => h, fun h => h⟩
def k61_r11 : CC := (.wregion [
  (true, ⟨some 35, .fieldAddr 24 (.tmp 1) 2, none, false⟩),
  (false, ⟨some 36, .load 9 (.tmp 35), none, false⟩),
  (false, ⟨some 37, .call { callee := .builtin .len, args := #[.tmp 36], argTypes := #[9] }, none, false⟩),
  (false, ⟨some 38, .call { callee := .value (.func 82), args := #[.const (.slice .none 0 0), .tmp 37], argTypes := #[44, 3] }, none, false⟩),
  (true, ⟨some 39, .fieldAddr 24 (.tmp 1) 2, none, true⟩),
  (true, ⟨some 40, .load 9 (.tmp 39), none, true⟩),
  (false, ⟨some 41, .call { callee := .builtin .append, args := #[.tmp 38, .tmp 40], argTypes := #[44, 9] }, none, true⟩),
  (false, ⟨some 2, .assign (.tmp 41), none, true⟩)] false [(5, ⟨some 40, .load 9 (.tmp 39), none, true⟩, [0, 4])])
theorem k61_r11_e : Ev P pr N k61_r11 e σ Q = Ev P pr N (.wregion [
  (true, ⟨some 35, .fieldAddr 24 (.tmp 1) 2, none, false⟩),
  (false, ⟨some 36, .load 9 (.tmp 35), none, false⟩),
  (false, ⟨some 37, .call { callee := .builtin .len, args := #[.tmp 36], argTypes := #[9] }, none, false⟩),
  (false, ⟨some 38, .call { callee := .value (.func 82), args := #[.const (.slice .none 0 0), .tmp 37], argTypes := #[44, 3] }, none, false⟩),
  (true, ⟨some 39, .fieldAddr 24 (.tmp 1) 2, none, true⟩),
  (true, ⟨some 40, .load 9 (.tmp 39), none, true⟩),
  (false, ⟨some 41, .call { callee := .builtin .append, args := #[.tmp 38, .tmp 40], argTypes := #[44, 9] }, none, true⟩),
  (false, ⟨some 2, .assign (.tmp 41), none, true⟩)] false [(5, ⟨some 40, .load 9 (.tmp 39), none, true⟩, [0, 4])]) e σ Q := propext ⟨fun h => h, fun h => h⟩
def k61_r12 : List COp := [
  ⟨some 43, .binOp .eql 3 (.tmp 7) (.const (.int .i64 4)) 3, none, true⟩,
  ⟨some 42, .assign (.tmp 43), none, true⟩]
theorem k61_r12_e : Eo P pr N k61_r12 e σ Q = Eo P pr N [
  ⟨some 43, .binOp .eql 3 (.tmp 7) (.const (.int .i64 4)) 3, none, true⟩,
  ⟨some 42, .assign (.tmp 43), none, true⟩] e σ Q := propext ⟨fun h => h, fun h => h⟩
def k61_r13 : List COp := [
  ⟨some 44, .fieldAddr 24 (.tmp 1) 3, none, true⟩,
  ⟨some 45, .load 22 (.tmp 44), none, true⟩,
  ⟨some 46, .call { callee := .builtin .len, args := #[.tmp 45], argTypes := #[22] }, none, true⟩,
  ⟨some 47, .call { callee := .value (.func 82), args := #[.const (.slice .none 0 0), .tmp 46], argTypes := #[44, 3] }, none, true⟩,
  ⟨some 3, .assign (.tmp 47), none, true⟩]
theorem k61_r13_e : Eo P pr N k61_r13 e σ Q = Eo P pr N [
  ⟨some 44, .fieldAddr 24 (.tmp 1) 3, none, true⟩,
  ⟨some 45, .load 22 (.tmp 44), none, true⟩,
  ⟨some 46, .call { callee := .builtin .len, args := #[.tmp 45], argTypes := #[22] }, none, true⟩,
  ⟨some 47, .call { callee := .value (.func 82), args := #[.const (.slice .none 0 0), .tmp 46], argTypes := #[44, 3] }, none, true⟩,
  ⟨some 3, .assign (.tmp 47), none, true⟩] e σ Q := propext ⟨fun h => h, fun h => h⟩
def k61_r3 : List COp := [
  ⟨some 8, .fieldAddr 24 (.tmp 1) 3, none, true⟩,
  ⟨some 9, .load 22 (.tmp 8), none, true⟩,
  ⟨some 10, .call { callee := .builtin .len, args := #[.tmp 9], argTypes := #[22] }, none, true⟩,
  ⟨some 11, .binOp .quo 3 (.tmp 10) (.const (.int .i64 2)) 3, none, true⟩,
  ⟨some 12, .call { callee := .value (.func 82), args := #[.const (.slice .none 0 0), .tmp 11], argTypes := #[44, 3] }, none, true⟩,
  ⟨some 3, .assign (.tmp 12), none, true⟩]
theorem k61_r3_e : Eo P pr N k61_r3 e σ Q = Eo P pr N [
  ⟨some 8, .fieldAddr 24 (.tmp 1) 3, none, true⟩,
  ⟨some 9, .load 22 (.tmp 8), none, true⟩,
  ⟨some 10, .call { callee := .builtin .len, args := #[.tmp 9], argTypes := #[22] }, none, true⟩,
  ⟨some 11, .binOp .quo 3 (.tmp 10) (.const (.int .i64 2)) 3, none, true⟩,
  ⟨some 12, .call { callee := .value (.func 82), args := #[.const (.slice .none 0 0), .tmp 11], argTypes := #[44, 3] }, none, true⟩,
  ⟨some 3, .assign (.tmp 12), none, true⟩] e σ Q := propext ⟨fun h => h, fun h => h⟩
def k61_r14 : List COp := [
  ⟨some 48, .fieldAddr 24 (.tmp 1) 3, none, true⟩,
  ⟨some 49, .load 22 (.tmp 48), none, true⟩,
  ⟨some 50, .call { callee := .builtin .len, args := #[.tmp 49], argTypes := #[22] }, none, true⟩,
  ⟨some 51, .move (.const (.int .i64 0)), none, true⟩]
theorem k61_r14_e : Eo P pr N k61_r14 e σ Q = Eo P pr N [
  ⟨some 48, .fieldAddr 24 (.tmp 1) 3, none, true⟩,
  ⟨some 49, .load 22 (.tmp 48), none, true⟩,
  ⟨some 50, .call { callee := .builtin .len, args := #[.tmp 49], argTypes := #[22] }, none, true⟩,
  ⟨some 51, .move (.const (.int .i64 0)), none, true⟩] e σ Q := propext ⟨fun h => h, fun h => h⟩
def k61_r15 : List COp := [
  ⟨some 52, .binOp .lss 3 (.tmp 51) (.tmp 50) 3, none, true⟩]
theorem k61_r15_e : Eo P pr N k61_r15 e σ Q = Eo P pr N [
  ⟨some 52, .binOp .lss 3 (.tmp 51) (.tmp 50) 3, none, true⟩] e σ Q := propext ⟨fun h => h, fun h => h⟩
def k61_r16 : List COp := [
  ⟨some 53, .indexAddr 22 (.tmp 49) (.tmp 51), none, true⟩,
  ⟨some 54, .load 24 (.tmp 53), none, true⟩,
  ⟨some 5, .alloc 24, none, true⟩,
  ⟨none, .store 24 (.tmp 5) (.tmp 54), none, true⟩]
theorem k61_r16_e : Eo P pr N k61_r16 e σ Q = Eo P pr N [
  ⟨some 53, .indexAddr 22 (.tmp 49) (.tmp 51), none, true⟩,
  ⟨some 54, .load 24 (.tmp 53), none, true⟩,
  ⟨some 5, .alloc 24, none, true⟩,
  ⟨none, .store 24 (.tmp 5) (.tmp 54), none, true⟩] e σ Q := propext ⟨fun h => h, fun h => h⟩
def k61_r17 : List COp := [
  ⟨some 55, .move (.tmp 3), none, true⟩,
  ⟨some 56, .load 24 (.tmp 5), none, true⟩,
  ⟨some 57, .call { callee := .value (.func 61), args := #[.tmp 56], argTypes := #[24] }, none, true⟩,
  ⟨some 58, .call { callee := .builtin .append, args := #[.tmp 55, .tmp 57], argTypes := #[44, 44] }, none, true⟩,
  ⟨some 3, .assign (.tmp 58), none, true⟩]
theorem k61_r17_e : Eo P pr N k61_r17 e σ Q = Eo P pr N [
  ⟨some 55, .move (.tmp 3), none, true⟩,
  ⟨some 56, .load 24 (.tmp 5), none, true⟩,
  ⟨some 57, .call { callee := .value (.func 61), args := #[.tmp 56], argTypes := #[24] }, none, true⟩,
  ⟨some 58, .call { callee := .builtin .append, args := #[.tmp 55, .tmp 57], argTypes := #[44, 44] }, none, true⟩,
  ⟨some 3, .assign (.tmp 58), none, true⟩] e σ Q := propext ⟨fun h => h, fun h => h⟩
def k61_r18 : List COp := [
  ⟨some 59, .binOp .add 3 (.tmp 51) (.const (.int .i64 1)) 3, none, true⟩,
  ⟨some 51, .move (.tmp 59), none, true⟩]
theorem k61_r18_e : Eo P pr N k61_r18 e σ Q = Eo P pr N [
  ⟨some 59, .binOp .add 3 (.tmp 51) (.const (.int .i64 1)) 3, none, true⟩,
  ⟨some 51, .move (.tmp 59), none, true⟩] e σ Q := propext ⟨fun h => h, fun h => h⟩
def k61_l0 : CC := (.seq (.region k61_r15) (.seq (.cond (.tmp 52) .skip (.exit 1)) (.seq (.block 2 (.seq (.region k61_r16) (.region k61_r17))) (.region k61_r18))))
theorem k61_l0_e : Ev P pr N k61_l0 e σ Q = Ev P pr N (.seq (.region k61_r15) (.seq (.cond (.tmp 52) .skip (.exit 1)) (.seq (.block 2 (.seq (.region k61_r16) (.region k61_r17))) (.region k61_r18)))) e σ Q := propext ⟨fun h => h, fun h => h⟩
def k61_r19 : List COp := [
  ⟨some 60, .move (.tmp 3), none, true⟩,
  ⟨some 2, .assign (.tmp 60), none, true⟩]
theorem k61_r19_e : Eo P pr N k61_r19 e σ Q = Eo P pr N [
  ⟨some 60, .move (.tmp 3), none, true⟩,
  ⟨some 2, .assign (.tmp 60), none, true⟩] e σ Q := propext ⟨fun h => h, fun h => h⟩
def k61 : CC := (.seq (.region k61_r0) (.seq (.region k61_r1) (.seq (.seq (.region k61_r2) (.block 0 (.seq (.region k61_r4) (.cond (.tmp 13) (.seq (.seq (.region k61_r5) (.cond (.tmp 17) (.seq (.region k61_r6) .ret) .skip)) (.seq (.region k61_r7) .ret)) (.seq (.region k61_r8) (.cond (.tmp 28) (.seq (.region k61_r9) .ret) (.seq (.region k61_r10) (.cond (.tmp 33) (.seq k61_r11 .ret) (.seq (.region k61_r12) (.cond (.tmp 42) (.region k61_r13) (.region k61_r3))))))))))) (.seq (.seq (.region k61_r14) (.block 1 (.loop k61_l0))) (.seq (.region k61_r19) .ret)))))
theorem k61_e : Ev P pr N k61 e σ Q = Ev P pr N (.seq (.region k61_r0) (.seq (.region k61_r1) (.seq (.seq (.region k61_r2) (.block 0 (.seq (.region k61_r4) (.cond (.tmp 13) (.seq (.seq (.region k61_r5) (.cond (.tmp 17) (.seq (.region k61_r6) .ret) .skip)) (.seq (.region k61_r7) .ret)) (.seq (.region k61_r8) (.cond (.tmp 28) (.seq (.region k61_r9) .ret) (.seq (.region k61_r10) (.cond (.tmp 33) (.seq k61_r11 .ret) (.seq (.region k61_r12) (.cond (.tmp 42) (.region k61_r13) (.region k61_r3))))))))))) (.seq (.seq (.region k61_r14) (.block 1 (.loop k61_l0))) (.seq (.region k61_r19) .ret))))) e σ Q := propext ⟨fun h => h, fun h => h⟩
/-- quern/quernref09.Bytes -/
theorem k61_is : FnIs Try.prog prims 61 61 [ResultVar.tmp 2] k61 := FnIs.of_fn Try.func61 (by kernel_rfl) rfl
def k62_r0 : List COp := [
  ⟨some 2, .assign (.const (.pointer .none)), none, true⟩]
theorem k62_r0_e : Eo P pr N k62_r0 e σ Q = Eo P pr N [
  ⟨some 2, .assign (.const (.pointer .none)), none, true⟩] e σ Q := propext ⟨fun h => h, fun h => h⟩
def k62_r1 : List COp := [
  ⟨some 3, .buildSlice 44 0 #[], none, true⟩,
  ⟨some 4, .move (.tmp 0), none, true⟩,
  ⟨some 5, .call { callee := .builtin .append, args := #[.tmp 3, .tmp 4], argTypes := #[44, 44] }, none, true⟩,
  ⟨some 6, .build 92 #[(0, .tmp 5)], none, true⟩,
  ⟨some 7, .box 92 (.tmp 6), none, true⟩,
  ⟨some 2, .assign (.tmp 7), none, true⟩]
theorem k62_r1_e : Eo P pr N k62_r1 e σ Q = Eo P pr N [
  ⟨some 3, .buildSlice 44 0 #[], none, true⟩,
  ⟨some 4, .move (.tmp 0), none, true⟩,
  ⟨some 5, .call { callee := .builtin .append, args := #[.tmp 3, .tmp 4], argTypes := #[44, 44] }, none, true⟩,
  ⟨some 6, .build 92 #[(0, .tmp 5)], none, true⟩,
  ⟨some 7, .box 92 (.tmp 6), none, true⟩,
  ⟨some 2, .assign (.tmp 7), none, true⟩] e σ Q := propext ⟨fun h => h, fun h => h⟩
def k62 : CC := (.seq (.region k62_r0) (.seq (.region k62_r1) .ret))
theorem k62_e : Ev P pr N k62 e σ Q = Ev P pr N (.seq (.region k62_r0) (.seq (.region k62_r1) .ret)) e σ Q := propext ⟨fun h => h, fun h => h⟩
/-- quern/pack.New -/
theorem k62_is : FnIs Try.prog prims 62 8 [ResultVar.tmp 2] k62 := FnIs.of_fn Try.func62 (by kernel_rfl) rfl
def k63_r0 : List COp := [
  ⟨some 4, .alloc 24, none, true⟩]
theorem k63_r0_e : Eo P pr N k63_r0 e σ Q = Eo P pr N [
  ⟨some 4, .alloc 24, none, true⟩] e σ Q := propext ⟨fun h => h, fun h => h⟩
def k63_r1 : List COp := [
  ⟨some 15, .move (.tmp 1), none, true⟩]
theorem k63_r1_e : Eo P pr N k63_r1 e σ Q = Eo P pr N [
  ⟨some 15, .move (.tmp 1), none, true⟩] e σ Q := propext ⟨fun h => h, fun h => h⟩
def k63_r2 : List COp := [
  ⟨some 17, .binOp .eql 9 (.tmp 15) (.const (.string { data := #[105, 110, 116] })) 9, none, true⟩,
  ⟨some 16, .assign (.tmp 17), none, true⟩]
theorem k63_r2_e : Eo P pr N k63_r2 e σ Q = Eo P pr N [
  ⟨some 17, .binOp .eql 9 (.tmp 15) (.const (.string { data := #[105, 110, 116] })) 9, none, true⟩,
  ⟨some 16, .assign (.tmp 17), none, true⟩] e σ Q := propext ⟨fun h => h, fun h => h⟩
def k63_r3 : List COp := [
  ⟨some 18, .move (.tmp 0), none, true⟩,
  ⟨some 19, .call { callee := .value (.func 83), args := #[.tmp 18], argTypes := #[70] }, none, true⟩,
  ⟨some 20, .move (.tmp 0), none, true⟩,
  ⟨some 21, .call { callee := .value (.func 83), args := #[.tmp 20], argTypes := #[70] }, none, true⟩,
  ⟨some 5, .assign (.tmp 19), none, true⟩,
  ⟨some 6, .assign (.tmp 21), none, true⟩]
theorem k63_r3_e : Eo P pr N k63_r3 e σ Q = Eo P pr N [
  ⟨some 18, .move (.tmp 0), none, true⟩,
  ⟨some 19, .call { callee := .value (.func 83), args := #[.tmp 18], argTypes := #[70] }, none, true⟩,
  ⟨some 20, .move (.tmp 0), none, true⟩,
  ⟨some 21, .call { callee := .value (.func 83), args := #[.tmp 20], argTypes := #[70] }, none, true⟩,
  ⟨some 5, .assign (.tmp 19), none, true⟩,
  ⟨some 6, .assign (.tmp 21), none, true⟩] e σ Q := propext ⟨fun h => h, fun h => h⟩
def k63_r4 : List COp := [
  ⟨some 22, .move (.tmp 5), none, true⟩,
  ⟨some 23, .binOp .eql 3 (.tmp 22) (.const (.int .i64 1)) 3, none, true⟩]
theorem k63_r4_e : Eo P pr N k63_r4 e σ Q = Eo P pr N [
  ⟨some 22, .move (.tmp 5), none, true⟩,
  ⟨some 23, .binOp .eql 3 (.tmp 22) (.const (.int .i64 1)) 3, none, true⟩] e σ Q := propext ⟨fun h => h, fun h => h⟩
def k63_r5 : List COp := [
  ⟨some 24, .move (.tmp 6), none, true⟩,
  ⟨some 25, .unOp .neg 3 (.tmp 24), none, true⟩,
  ⟨some 26, .binOp .sub 3 (.tmp 25) (.const (.int .i64 1)) 3, none, true⟩,
  ⟨some 27, .call { callee := .value (.func 16), args := #[.tmp 26], argTypes := #[3] }, none, true⟩,
  ⟨none, .store 24 (.tmp 4) (.tmp 27), none, true⟩]
theorem k63_r5_e : Eo P pr N k63_r5 e σ Q = Eo P pr N [
  ⟨some 24, .move (.tmp 6), none, true⟩,
  ⟨some 25, .unOp .neg 3 (.tmp 24), none, true⟩,
  ⟨some 26, .binOp .sub 3 (.tmp 25) (.const (.int .i64 1)) 3, none, true⟩,
  ⟨some 27, .call { callee := .value (.func 16), args := #[.tmp 26], argTypes := #[3] }, none, true⟩,
  ⟨none, .store 24 (.tmp 4) (.tmp 27), none, true⟩] e σ Q := propext ⟨fun h => h, fun h => h⟩
def k63_r6 : List COp := [
  ⟨some 28, .move (.tmp 6), none, true⟩,
  ⟨some 29, .call { callee := .value (.func 16), args := #[.tmp 28], argTypes := #[3] }, none, true⟩,
  ⟨none, .store 24 (.tmp 4) (.tmp 29), none, true⟩]
theorem k63_r6_e : Eo P pr N k63_r6 e σ Q = Eo P pr N [
  ⟨some 28, .move (.tmp 6), none, true⟩,
  ⟨some 29, .call { callee := .value (.func 16), args := #[.tmp 28], argTypes := #[3] }, none, true⟩,
  ⟨none, .store 24 (.tmp 4) (.tmp 29), none, true⟩] e σ Q := propext ⟨fun h => h, fun h => h⟩
def k63_r7 : List COp := [
  ⟨some 31, .binOp .eql 9 (.tmp 15) (.const (.string { data := #[98, 111, 111, 108] })) 9, none, true⟩,
  ⟨some 30, .assign (.tmp 31), none, true⟩]
theorem k63_r7_e : Eo P pr N k63_r7 e σ Q = Eo P pr N [
  ⟨some 31, .binOp .eql 9 (.tmp 15) (.const (.string { data := #[98, 111, 111, 108] })) 9, none, true⟩,
  ⟨some 30, .assign (.tmp 31), none, true⟩] e σ Q := propext ⟨fun h => h, fun h => h⟩
def k63_r8 : List COp := [
  ⟨some 32, .move (.tmp 0), none, true⟩,
  ⟨some 33, .call { callee := .value (.func 83), args := #[.tmp 32], argTypes := #[70] }, none, true⟩,
  ⟨some 34, .build 24 #[(0, .const (.int .i64 2)), (1, .tmp 33)], none, true⟩,
  ⟨none, .store 24 (.tmp 4) (.tmp 34), none, true⟩]
theorem k63_r8_e : Eo P pr N k63_r8 e σ Q = Eo P pr N [
  ⟨some 32, .move (.tmp 0), none, true⟩,
  ⟨some 33, .call { callee := .value (.func 83), args := #[.tmp 32], argTypes := #[70] }, none, true⟩,
  ⟨some 34, .build 24 #[(0, .const (.int .i64 2)), (1, .tmp 33)], none, true⟩,
  ⟨none, .store 24 (.tmp 4) (.tmp 34), none, true⟩] e σ Q := propext ⟨fun h => h, fun h => h⟩
def k63_r9 : List COp := [
  ⟨some 36, .binOp .eql 9 (.tmp 15) (.const (.string { data := #[116, 101, 120, 116] })) 9, none, true⟩,
  ⟨some 35, .assign (.tmp 36), none, true⟩]
theorem k63_r9_e : Eo P pr N k63_r9 e σ Q = Eo P pr N [
  ⟨some 36, .binOp .eql 9 (.tmp 15) (.const (.string { data := #[116, 101, 120, 116] })) 9, none, true⟩,
  ⟨some 35, .assign (.tmp 36), none, true⟩] e σ Q := propext ⟨fun h => h, fun h => h⟩
def k63_r10 : List COp := [
  ⟨some 37, .move (.tmp 0), none, true⟩,
  ⟨some 38, .move (.tmp 0), none, true⟩,
  ⟨some 39, .call { callee := .value (.func 83), args := #[.tmp 38], argTypes := #[70] }, none, true⟩,
  ⟨some 40, .call { callee := .value (.func 84), args := #[.tmp 37, .tmp 39], argTypes := #[70, 3] }, none, true⟩,
  ⟨some 41, .convert 44 9 (.tmp 40), none, true⟩,
  ⟨some 42, .call { callee := .value (.func 17), args := #[.tmp 41], argTypes := #[9] }, none, true⟩,
  ⟨none, .store 24 (.tmp 4) (.tmp 42), none, true⟩]
theorem k63_r10_e : Eo P pr N k63_r10 e σ Q = Eo P pr N [
  ⟨some 37, .move (.tmp 0), none, true⟩,
  ⟨some 38, .move (.tmp 0), none, true⟩,
  ⟨some 39, .call { callee := .value (.func 83), args := #[.tmp 38], argTypes := #[70] }, none, true⟩,
  ⟨some 40, .call { callee := .value (.func 84), args := #[.tmp 37, .tmp 39], argTypes := #[70, 3] }, none, true⟩,
  ⟨some 41, .convert 44 9 (.tmp 40), none, true⟩,
  ⟨some 42, .call { callee := .value (.func 17), args := #[.tmp 41], argTypes := #[9] }, none, true⟩,
  ⟨none, .store 24 (.tmp 4) (.tmp 42), none, true⟩] e σ Q := propext ⟨fun h => h, fun h => h⟩
def k63_r11 : List COp := [
  ⟨some 43, .move (.tmp 1), none, true⟩,
  ⟨some 44, .call { callee := .value (.func 22), args := #[.tmp 43], argTypes := #[9] }, none, true⟩,
  ⟨some 7, .alloc 24, none, true⟩,
  ⟨none, .store 24 (.tmp 7) (.tmp 44), none, true⟩]
theorem k63_r11_e : Eo P pr N k63_r11 e σ Q = Eo P pr N [
  ⟨some 43, .move (.tmp 1), none, true⟩,
  ⟨some 44, .call { callee := .value (.func 22), args := #[.tmp 43], argTypes := #[9] }, none, true⟩,
  ⟨some 7, .alloc 24, none, true⟩,
  ⟨none, .store 24 (.tmp 7) (.tmp 44), none, true⟩] e σ Q := propext ⟨fun h => h, fun h => h⟩
def k63_r12 : List COp := [
  ⟨some 46, .move (.tmp 1), none, true⟩,
  ⟨some 47, .call { callee := .value (.func 18), args := #[.tmp 46], argTypes := #[9] }, none, true⟩,
  ⟨some 45, .move (.tmp 47), none, true⟩,
  ⟨some 48, .extract (.tmp 45) 0, none, true⟩,
  ⟨some 49, .extract (.tmp 45) 1, none, true⟩,
  ⟨some 8, .assign (.tmp 48), none, true⟩,
  ⟨some 9, .assign (.tmp 49), none, true⟩]
theorem k63_r12_e : Eo P pr N k63_r12 e σ Q = Eo P pr N [
  ⟨some 46, .move (.tmp 1), none, true⟩,
  ⟨some 47, .call { callee := .value (.func 18), args := #[.tmp 46], argTypes := #[9] }, none, true⟩,
  ⟨some 45, .move (.tmp 47), none, true⟩,
  ⟨some 48, .extract (.tmp 45) 0, none, true⟩,
  ⟨some 49, .extract (.tmp 45) 1, none, true⟩,
  ⟨some 8, .assign (.tmp 48), none, true⟩,
  ⟨some 9, .assign (.tmp 49), none, true⟩] e σ Q := propext ⟨fun h => h, fun h => h⟩
def k63_r13 : List COp := [
  ⟨some 51, .move (.tmp 1), none, true⟩,
  ⟨some 52, .call { callee := .value (.func 19), args := #[.tmp 51], argTypes := #[9] }, none, true⟩,
  ⟨some 50, .move (.tmp 52), none, true⟩,
  ⟨some 53, .extract (.tmp 50) 0, none, true⟩,
  ⟨some 54, .extract (.tmp 50) 1, none, true⟩,
  ⟨some 55, .extract (.tmp 50) 2, none, true⟩,
  ⟨some 10, .assign (.tmp 53), none, true⟩,
  ⟨some 11, .assign (.tmp 54), none, true⟩,
  ⟨some 12, .assign (.tmp 55), none, true⟩]
theorem k63_r13_e : Eo P pr N k63_r13 e σ Q = Eo P pr N [
  ⟨some 51, .move (.tmp 1), none, true⟩,
  ⟨some 52, .call { callee := .value (.func 19), args := #[.tmp 51], argTypes := #[9] }, none, true⟩,
  ⟨some 50, .move (.tmp 52), none, true⟩,
  ⟨some 53, .extract (.tmp 50) 0, none, true⟩,
  ⟨some 54, .extract (.tmp 50) 1, none, true⟩,
  ⟨some 55, .extract (.tmp 50) 2, none, true⟩,
  ⟨some 10, .assign (.tmp 53), none, true⟩,
  ⟨some 11, .assign (.tmp 54), none, true⟩,
  ⟨some 12, .assign (.tmp 55), none, true⟩] e σ Q := propext ⟨fun h => h, fun h => h⟩
def k63_r14 : List COp := [
  ⟨some 56, .move (.tmp 0), none, true⟩,
  ⟨some 57, .call { callee := .value (.func 83), args := #[.tmp 56], argTypes := #[70] }, none, true⟩,
  ⟨some 13, .assign (.tmp 57), none, true⟩]
theorem k63_r14_e : Eo P pr N k63_r14 e σ Q = Eo P pr N [
  ⟨some 56, .move (.tmp 0), none, true⟩,
  ⟨some 57, .call { callee := .value (.func 83), args := #[.tmp 56], argTypes := #[70] }, none, true⟩,
  ⟨some 13, .assign (.tmp 57), none, true⟩] e σ Q := propext ⟨fun h => h, fun h => h⟩
def k63_r15 : List COp := [
  ⟨some 14, .assign (.const (.int .i64 0)), none, true⟩]
theorem k63_r15_e : Eo P pr N k63_r15 e σ Q = Eo P pr N [
  ⟨some 14, .assign (.const (.int .i64 0)), none, true⟩] e σ Q := propext ⟨fun h => h, fun h => h⟩
def k63_r16 : List COp := [
  ⟨some 58, .move (.tmp 14), none, true⟩,
  ⟨some 59, .move (.tmp 13), none, true⟩,
  ⟨some 60, .binOp .lss 3 (.tmp 58) (.tmp 59) 3, none, true⟩,
  ⟨some 61, .move (.tmp 60), none, true⟩,
  ⟨some 62, .move (.tmp 0), some (61, true), true⟩,
  ⟨some 63, .call { callee := .value (.func 85), args := #[.tmp 62], argTypes := #[70] }, some (61, true), true⟩,
  ⟨some 64, .unOp .not 4 (.tmp 63), some (61, true), true⟩,
  ⟨some 65, .pick (.tmp 61) (.tmp 64) (.const (.bool false)), none, true⟩,
  ⟨some 66, .move (.tmp 65), none, true⟩,
  ⟨some 67, .move (.tmp 14), some (66, true), true⟩,
  ⟨some 68, .binOp .leq 3 (.tmp 67) (.const (.int .i64 64)) 3, some (66, true), true⟩,
  ⟨some 69, .pick (.tmp 66) (.tmp 68) (.const (.bool false)), none, true⟩]
theorem k63_r16_e : Eo P pr N k63_r16 e σ Q = Eo P pr N [
  ⟨some 58, .move (.tmp 14), none, true⟩,
  ⟨some 59, .move (.tmp 13), none, true⟩,
  ⟨some 60, .binOp .lss 3 (.tmp 58) (.tmp 59) 3, none, true⟩,
  ⟨some 61, .move (.tmp 60), none, true⟩,
  ⟨some 62, .move (.tmp 0), some (61, true), true⟩,
  ⟨some 63, .call { callee := .value (.func 85), args := #[.tmp 62], argTypes := #[70] }, some (61, true), true⟩,
  ⟨some 64, .unOp .not 4 (.tmp 63), some (61, true), true⟩,
  ⟨some 65, .pick (.tmp 61) (.tmp 64) (.const (.bool false)), none, true⟩,
  ⟨some 66, .move (.tmp 65), none, true⟩,
  ⟨some 67, .move (.tmp 14), some (66, true), true⟩,
  ⟨some 68, .binOp .leq 3 (.tmp 67) (.const (.int .i64 64)) 3, some (66, true), true⟩,
  ⟨some 69, .pick (.tmp 66) (.tmp 68) (.const (.bool false)), none, true⟩] e σ Q := propext ⟨fun h => h, fun h => h⟩
def k63_r18 : List COp := [
  ⟨some 72, .move (.tmp 9), none, true⟩]
theorem k63_r18_e : Eo P pr N k63_r18 e σ Q = Eo P pr N [
  ⟨some 72, .move (.tmp 9), none, true⟩] e σ Q := propext ⟨fun h => h, fun h => h⟩
def k63_r19 : CC := (.wregion [
  (true, ⟨some 73, .fieldAddr 24 (.tmp 7) 3, none, false⟩),
  (true, ⟨some 74, .load 22 (.tmp 73), none, false⟩),
  (false, ⟨some 75, .move (.tmp 0), none, false⟩),
  (false, ⟨some 76, .move (.tmp 8), none, true⟩),
  (false, ⟨some 77, .call { callee := .value (.func 63), args := #[.tmp 75, .tmp 76], argTypes := #[70, 9] }, none, true⟩),
  (true, ⟨some 78, .buildSlice 22 1 #[(0, .tmp 77)], none, true⟩),
  (false, ⟨some 79, .call { callee := .builtin .append, args := #[.tmp 74, .tmp 78], argTypes := #[22, 22] }, none, true⟩),
  (false, ⟨some 80, .fieldAddr 24 (.tmp 7) 3, none, true⟩),
  (false, ⟨none, .store 22 (.tmp 80) (.tmp 79), none, true⟩)] false [(1, ⟨some 74, .load 22 (.tmp 73), none, false⟩, [0, 5])])
theorem k63_r19_e : Ev P pr N k63_r19 e σ Q = Ev P pr N (.wregion [
  (true, ⟨some 73, .fieldAddr 24 (.tmp 7) 3, none, false⟩),
  (true, ⟨some 74, .load 22 (.tmp 73), none, false⟩),
  (false, ⟨some 75, .move (.tmp 0), none, false⟩),
  (false, ⟨some 76, .move (.tmp 8), none, true⟩),
  (false, ⟨some 77, .call { callee := .value (.func 63), args := #[.tmp 75, .tmp 76], argTypes := #[70, 9] }, none, true⟩),
  (true, ⟨some 78, .buildSlice 22 1 #[(0, .tmp 77)], none, true⟩),
  (false, ⟨some 79, .call { callee := .builtin .append, args := #[.tmp 74, .tmp 78], argTypes := #[22, 22] }, none, true⟩),
  (false, ⟨some 80, .fieldAddr 24 (.tmp 7) 3, none, true⟩),
  (false, ⟨none, .store 22 (.tmp 80) (.tmp 79), none, true⟩)] false [(1, ⟨some 74, .load 22 (.tmp 73), none, false⟩, [0, 5])]) e σ Q := propext ⟨fun h => h, fun h => h⟩
def k63_r20 : CC := (.wregion [
  (true, ⟨some 81, .fieldAddr 24 (.tmp 7) 3, none, false⟩),
  (true, ⟨some 82, .load 22 (.tmp 81), none, false⟩),
  (false, ⟨some 83, .move (.tmp 0), none, false⟩),
  (false, ⟨some 84, .move (.tmp 10), none, false⟩),
  (false, ⟨some 85, .call { callee := .value (.func 63), args := #[.tmp 83, .tmp 84], argTypes := #[70, 9] }, none, false⟩),
  (true, ⟨some 86, .move (.tmp 0), none, false⟩),
  (false, ⟨some 87, .move (.tmp 11), none, true⟩),
  (false, ⟨some 88, .call { callee := .value (.func 63), args := #[.tmp 86, .tmp 87], argTypes := #[70, 9] }, none, true⟩),
  (true, ⟨some 89, .buildSlice 22 2 #[(0, .tmp 85), (1, .tmp 88)], none, true⟩),
  (false, ⟨some 90, .call { callee := .builtin .append, args := #[.tmp 82, .tmp 89], argTypes := #[22, 22] }, none, true⟩),
  (false, ⟨some 91, .fieldAddr 24 (.tmp 7) 3, none, true⟩),
  (false, ⟨none, .store 22 (.tmp 91) (.tmp 90), none, true⟩)] false [(1, ⟨some 82, .load 22 (.tmp 81), none, false⟩, [0, 5, 8])])
theorem k63_r20_e : Ev P pr N k63_r20 e σ Q = Ev P pr N (.wregion [
  (true, ⟨some 81, .fieldAddr 24 (.tmp 7) 3, none, false⟩),
  (true, ⟨some 82, .load 22 (.tmp 81), none, false⟩),
  (false, ⟨some 83, .move (.tmp 0), none, false⟩),
  (false, ⟨some 84, .move (.tmp 10), none, false⟩),
  (false, ⟨some 85, .call { callee := .value (.func 63), args := #[.tmp 83, .tmp 84], argTypes := #[70, 9] }, none, false⟩),
  (true, ⟨some 86, .move (.tmp 0), none, false⟩),
  (false, ⟨some 87, .move (.tmp 11), none, true⟩),
  (false, ⟨some 88, .call { callee := .value (.func 63), args := #[.tmp 86, .tmp 87], argTypes := #[70, 9] }, none, true⟩),
  (true, ⟨some 89, .buildSlice 22 2 #[(0, .tmp 85), (1, .tmp 88)], none, true⟩),
  (false, ⟨some 90, .call { callee := .builtin .append, args := #[.tmp 82, .tmp 89], argTypes := #[22, 22] }, none, true⟩),
  (false, ⟨some 91, .fieldAddr 24 (.tmp 7) 3, none, true⟩),
  (false, ⟨none, .store 22 (.tmp 91) (.tmp 90), none, true⟩)] false [(1, ⟨some 82, .load 22 (.tmp 81), none, false⟩, [0, 5, 8])]) e σ Q := propext ⟨fun h => h, fun h => h⟩
def k63_r17 : List COp := [
  ⟨some 70, .move (.tmp 14), none, true⟩,
  ⟨some 71, .binOp .add 3 (.tmp 70) (.const (.int .i64 1)) 3, none, true⟩,
  ⟨some 14, .assign (.tmp 71), none, true⟩]
theorem k63_r17_e : Eo P pr N k63_r17 e σ Q = Eo P pr N [
  ⟨some 70, .move (.tmp 14), none, true⟩,
  ⟨some 71, .binOp .add 3 (.tmp 70) (.const (.int .i64 1)) 3, none, true⟩,
  ⟨some 14, .assign (.tmp 71), none, true⟩] e σ Q := propext ⟨fun h => h, fun h => h⟩
def k63_l0 : CC := (.seq (.seq (.region k63_r16) (.cond (.tmp 69) .skip (.exit 1))) (.seq (.block 2 (.seq (.seq (.region k63_r18) (.cond (.tmp 72) (.seq k63_r19 (.exit 2)) .skip)) k63_r20)) (.region k63_r17)))
theorem k63_l0_e : Ev P pr N k63_l0 e σ Q = Ev P pr N (.seq (.seq (.region k63_r16) (.cond (.tmp 69) .skip (.exit 1))) (.seq (.block 2 (.seq (.seq (.region k63_r18) (.cond (.tmp 72) (.seq k63_r19 (.exit 2)) .skip)) k63_r20)) (.region k63_r17))) e σ Q := propext ⟨fun h => h, fun h => h⟩
def k63_r21 : List COp := [
  ⟨some 92, .load 24 (.tmp 7), none, true⟩,
  ⟨none, .store 24 (.tmp 4) (.tmp 92), none, true⟩]
theorem k63_r21_e : Eo P pr N k63_r21 e σ Q = Eo P pr N [
  ⟨some 92, .load 24 (.tmp 7), none, true⟩,
  ⟨none, .store 24 (.tmp 4) (.tmp 92), none, true⟩] e σ Q := propext ⟨fun h => h, fun h => h⟩
def k63 : CC := (.seq (.region k63_r0) (.seq (.seq (.region k63_r1) (.block 0 (.seq (.region k63_r2) (.cond (.tmp 16) (.seq (.region k63_r3) (.seq (.seq (.region k63_r4) (.cond (.tmp 23) (.seq (.region k63_r5) .ret) .skip)) (.seq (.region k63_r6) .ret))) (.seq (.region k63_r7) (.cond (.tmp 30) (.seq (.region k63_r8) .ret) (.seq (.region k63_r9) (.cond (.tmp 35) (.seq (.region k63_r10) .ret) .skip)))))))) (.seq (.region k63_r11) (.seq (.region k63_r12) (.seq (.region k63_r13) (.seq (.region k63_r14) (.seq (.seq (.region k63_r15) (.block 1 (.loop k63_l0))) (.seq (.region k63_r21) .ret))))))))
theorem k63_e : Ev P pr N k63 e σ Q = Ev P pr N (.seq (.region k63_r0) (.seq (.seq (.region k63_r1) (.block 0 (.seq (.region k63_r2) (.cond (.tmp 16) (.seq (.region k63_r3) (.seq (.seq (.region k63_r4) (.cond (.tmp 23) (.seq (.region k63_r5) .ret) .skip)) (.seq (.region k63_r6) .ret))) (.seq (.region k63_r7) (.cond (.tmp 30) (.seq (.region k63_r8) .ret) (.seq (.region k63_r9) (.cond (.tmp 35) (.seq (.region k63_r10) .ret) .skip)))))))) (.seq (.region k63_r11) (.seq (.region k63_r12) (.seq (.region k63_r13) (.seq (.region k63_r14) (.seq (.seq (.region k63_r15) (.block 1 (.loop k63_l0))) (.seq (.region k63_r21) .ret)))))))) e σ Q := propext ⟨fun h => h, fun h => h⟩
/-- quern/value.take -/
theorem k63_is : FnIs Try.prog prims 63 93 [ResultVar.cell 4 24] k63 := FnIs.of_fn Try.func63 (by kernel_rfl) rfl
def k64_r0 : List COp := [
  ⟨some 2, .assign (.const (.bool false)), none, true⟩]
theorem k64_r0_e : Eo P pr N k64_r0 e σ Q = Eo P pr N [
  ⟨some 2, .assign (.const (.bool false)), none, true⟩] e σ Q := propext ⟨fun h => h, fun h => h⟩
def k64_r1 : List COp := [
  ⟨some 3, .move (.tmp 0), none, true⟩,
  ⟨some 4, .binOp .neq 70 (.tmp 3) (.const (.pointer .none)) 70, none, true⟩,
  ⟨some 5, .move (.tmp 4), none, true⟩,
  ⟨some 6, .move (.tmp 0), some (5, true), true⟩,
  ⟨some 7, .nilCheck (.tmp 6), some (5, true), true⟩,
  ⟨some 8, .fieldAddr 92 (.tmp 7) 1, some (5, true), true⟩,
  ⟨some 9, .load 4 (.tmp 8), some (5, true), true⟩,
  ⟨some 10, .unOp .not 4 (.tmp 9), some (5, true), true⟩,
  ⟨some 11, .pick (.tmp 5) (.tmp 10) (.const (.bool false)), none, true⟩,
  ⟨some 12, .move (.tmp 11), none, true⟩,
  ⟨some 13, .move (.tmp 0), some (12, true), true⟩,
  ⟨some 14, .nilCheck (.tmp 13), some (12, true), true⟩,
  ⟨some 15, .fieldAddr 92 (.tmp 14) 0, some (12, true), true⟩,
  ⟨some 16, .load 44 (.tmp 15), some (12, true), true⟩,
  ⟨some 17, .call { callee := .builtin .len, args := #[.tmp 16], argTypes := #[44] }, some (12, true), true⟩,
  ⟨some 18, .binOp .eql 3 (.tmp 17) (.const (.int .i64 0)) 3, some (12, true), true⟩,
  ⟨some 19, .pick (.tmp 12) (.tmp 18) (.const (.bool false)), none, true⟩,
  ⟨some 2, .assign (.tmp 19), none, true⟩]
theorem k64_r1_e : Eo P pr N k64_r1 e σ Q = Eo P pr N [
  ⟨some 3, .move (.tmp 0), none, true⟩,
  ⟨some 4, .binOp .neq 70 (.tmp 3) (.const (.pointer .none)) 70, none, true⟩,
  ⟨some 5, .move (.tmp 4), none, true⟩,
  ⟨some 6, .move (.tmp 0), some (5, true), true⟩,
  ⟨some 7, .nilCheck (.tmp 6), some (5, true), true⟩,
  ⟨some 8, .fieldAddr 92 (.tmp 7) 1, some (5, true), true⟩,
  ⟨some 9, .load 4 (.tmp 8), some (5, true), true⟩,
  ⟨some 10, .unOp .not 4 (.tmp 9), some (5, true), true⟩,
  ⟨some 11, .pick (.tmp 5) (.tmp 10) (.const (.bool false)), none, true⟩,
  ⟨some 12, .move (.tmp 11), none, true⟩,
  ⟨some 13, .move (.tmp 0), some (12, true), true⟩,
  ⟨some 14, .nilCheck (.tmp 13), some (12, true), true⟩,
  ⟨some 15, .fieldAddr 92 (.tmp 14) 0, some (12, true), true⟩,
  ⟨some 16, .load 44 (.tmp 15), some (12, true), true⟩,
  ⟨some 17, .call { callee := .builtin .len, args := #[.tmp 16], argTypes := #[44] }, some (12, true), true⟩,
  ⟨some 18, .binOp .eql 3 (.tmp 17) (.const (.int .i64 0)) 3, some (12, true), true⟩,
  ⟨some 19, .pick (.tmp 12) (.tmp 18) (.const (.bool false)), none, true⟩,
  ⟨some 2, .assign (.tmp 19), none, true⟩] e σ Q := propext ⟨fun h => h, fun h => h⟩
def k64 : CC := (.seq (.region k64_r0) (.seq (.region k64_r1) .ret))
theorem k64_e : Ev P pr N k64 e σ Q = Ev P pr N (.seq (.region k64_r0) (.seq (.region k64_r1) .ret)) e σ Q := propext ⟨fun h => h, fun h => h⟩
/-- (*quern/pack.Reader).End -/
theorem k64_is : FnIs Try.prog prims 64 20 [ResultVar.tmp 2] k64 := FnIs.of_fn Try.func64 (by kernel_rfl) rfl
def k65_r0 : List COp := [
  ⟨some 4, .alloc 24, none, true⟩]
theorem k65_r0_e : Eo P pr N k65_r0 e σ Q = Eo P pr N [
  ⟨some 4, .alloc 24, none, true⟩] e σ Q := propext ⟨fun h => h, fun h => h⟩
def k65_r1 : List COp := [
  ⟨some 15, .move (.tmp 1), none, true⟩,
  ⟨some 16, .call { callee := .value (.func 23), args := #[.tmp 15], argTypes := #[9] }, none, true⟩,
  ⟨some 5, .alloc 24, none, true⟩,
  ⟨none, .store 24 (.tmp 5) (.tmp 16), none, true⟩]
theorem k65_r1_e : Eo P pr N k65_r1 e σ Q = Eo P pr N [
  ⟨some 15, .move (.tmp 1), none, true⟩,
  ⟨some 16, .call { callee := .value (.func 23), args := #[.tmp 15], argTypes := #[9] }, none, true⟩,
  ⟨some 5, .alloc 24, none, true⟩,
  ⟨none, .store 24 (.tmp 5) (.tmp 16), none, true⟩] e σ Q := propext ⟨fun h => h, fun h => h⟩
def k65_r2 : List COp := [
  ⟨some 17, .fieldAddr 24 (.tmp 5) 0, none, true⟩,
  ⟨some 18, .load 3 (.tmp 17), none, true⟩]
theorem k65_r2_e : Eo P pr N k65_r2 e σ Q = Eo P pr N [
  ⟨some 17, .fieldAddr 24 (.tmp 5) 0, none, true⟩,
  ⟨some 18, .load 3 (.tmp 17), none, true⟩] e σ Q := propext ⟨fun h => h, fun h => h⟩
def k65_r3 : List COp := [
  ⟨some 20, .binOp .eql 3 (.tmp 18) (.const (.int .i64 1)) 3, none, true⟩,
  ⟨some 19, .assign (.tmp 20), none, true⟩]
theorem k65_r3_e : Eo P pr N k65_r3 e σ Q = Eo P pr N [
  ⟨some 20, .binOp .eql 3 (.tmp 18) (.const (.int .i64 1)) 3, none, true⟩,
  ⟨some 19, .assign (.tmp 20), none, true⟩] e σ Q := propext ⟨fun h => h, fun h => h⟩
def k65_r4 : List COp := [
  ⟨some 21, .move (.tmp 0), none, true⟩,
  ⟨some 22, .call { callee := .value (.func 86), args := #[.tmp 21], argTypes := #[73] }, none, true⟩,
  ⟨some 6, .assign (.tmp 22), none, true⟩]
theorem k65_r4_e : Eo P pr N k65_r4 e σ Q = Eo P pr N [
  ⟨some 21, .move (.tmp 0), none, true⟩,
  ⟨some 22, .call { callee := .value (.func 86), args := #[.tmp 21], argTypes := #[73] }, none, true⟩,
  ⟨some 6, .assign (.tmp 22), none, true⟩] e σ Q := propext ⟨fun h => h, fun h => h⟩
def k65_r5 : List COp := [
  ⟨some 23, .move (.tmp 0), none, true⟩,
  ⟨some 24, .call { callee := .value (.func 86), args := #[.tmp 23], argTypes := #[73] }, none, true⟩,
  ⟨some 7, .assign (.tmp 24), none, true⟩]
theorem k65_r5_e : Eo P pr N k65_r5 e σ Q = Eo P pr N [
  ⟨some 23, .move (.tmp 0), none, true⟩,
  ⟨some 24, .call { callee := .value (.func 86), args := #[.tmp 23], argTypes := #[73] }, none, true⟩,
  ⟨some 7, .assign (.tmp 24), none, true⟩] e σ Q := propext ⟨fun h => h, fun h => h⟩
def k65_r6 : List COp := [
  ⟨some 25, .move (.tmp 6), none, true⟩,
  ⟨some 26, .binOp .gtr 3 (.tmp 25) (.const (.int .i64 1)) 3, none, true⟩]
theorem k65_r6_e : Eo P pr N k65_r6 e σ Q = Eo P pr N [
  ⟨some 25, .move (.tmp 6), none, true⟩,
  ⟨some 26, .binOp .gtr 3 (.tmp 25) (.const (.int .i64 1)) 3, none, true⟩] e σ Q := propext ⟨fun h => h, fun h => h⟩
def k65_r7 : List COp := [
  ⟨some 27, .move (.tmp 0), none, true⟩,
  ⟨some 28, .nilCheck (.tmp 27), none, true⟩,
  ⟨some 29, .fieldAddr 75 (.tmp 28) 1, none, true⟩,
  ⟨none, .store 4 (.tmp 29) (.const (.bool true)), none, true⟩]
theorem k65_r7_e : Eo P pr N k65_r7 e σ Q = Eo P pr N [
  ⟨some 27, .move (.tmp 0), none, true⟩,
  ⟨some 28, .nilCheck (.tmp 27), none, true⟩,
  ⟨some 29, .fieldAddr 75 (.tmp 28) 1, none, true⟩,
  ⟨none, .store 4 (.tmp 29) (.const (.bool true)), none, true⟩] e σ Q := propext ⟨fun h => h, fun h => h⟩
def k65_r8 : List COp := [
  ⟨some 30, .move (.tmp 6), none, true⟩,
  ⟨some 31, .binOp .eql 3 (.tmp 30) (.const (.int .i64 1)) 3, none, true⟩]
theorem k65_r8_e : Eo P pr N k65_r8 e σ Q = Eo P pr N [
  ⟨some 30, .move (.tmp 6), none, true⟩,
  ⟨some 31, .binOp .eql 3 (.tmp 30) (.const (.int .i64 1)) 3, none, true⟩] e σ Q := propext ⟨fun h => h, fun h => h⟩
def k65_r9 : List COp := [
  ⟨some 32, .move (.tmp 7), none, true⟩,
  ⟨some 33, .unOp .neg 3 (.tmp 32), none, true⟩,
  ⟨some 34, .binOp .sub 3 (.tmp 33) (.const (.int .i64 1)) 3, none, true⟩,
  ⟨some 7, .assign (.tmp 34), none, true⟩]
theorem k65_r9_e : Eo P pr N k65_r9 e σ Q = Eo P pr N [
  ⟨some 32, .move (.tmp 7), none, true⟩,
  ⟨some 33, .unOp .neg 3 (.tmp 32), none, true⟩,
  ⟨some 34, .binOp .sub 3 (.tmp 33) (.const (.int .i64 1)) 3, none, true⟩,
  ⟨some 7, .assign (.tmp 34), none, true⟩] e σ Q := propext ⟨fun h => h, fun h => h⟩
def k65_r10 : List COp := [
  ⟨some 35, .move (.tmp 7), none, true⟩,
  ⟨some 36, .fieldAddr 24 (.tmp 5) 1, none, true⟩,
  ⟨none, .store 3 (.tmp 36) (.tmp 35), none, true⟩]
theorem k65_r10_e : Eo P pr N k65_r10 e σ Q = Eo P pr N [
  ⟨some 35, .move (.tmp 7), none, true⟩,
  ⟨some 36, .fieldAddr 24 (.tmp 5) 1, none, true⟩,
  ⟨none, .store 3 (.tmp 36) (.tmp 35), none, true⟩] e σ Q := propext ⟨fun h => h, fun h => h⟩
def k65_r11 : List COp := [
  ⟨some 38, .binOp .eql 3 (.tmp 18) (.const (.int .i64 2)) 3, none, true⟩,
  ⟨some 37, .assign (.tmp 38), none, true⟩]
theorem k65_r11_e : Eo P pr N k65_r11 e σ Q = Eo P pr N [
  ⟨some 38, .binOp .eql 3 (.tmp 18) (.const (.int .i64 2)) 3, none, true⟩,
  ⟨some 37, .assign (.tmp 38), none, true⟩] e σ Q := propext ⟨fun h => h, fun h => h⟩
def k65_r12 : List COp := [
  ⟨some 39, .move (.tmp 0), none, true⟩,
  ⟨some 40, .call { callee := .value (.func 86), args := #[.tmp 39], argTypes := #[73] }, none, true⟩,
  ⟨some 41, .fieldAddr 24 (.tmp 5) 1, none, true⟩,
  ⟨none, .store 3 (.tmp 41) (.tmp 40), none, true⟩]
theorem k65_r12_e : Eo P pr N k65_r12 e σ Q = Eo P pr N [
  ⟨some 39, .move (.tmp 0), none, true⟩,
  ⟨some 40, .call { callee := .value (.func 86), args := #[.tmp 39], argTypes := #[73] }, none, true⟩,
  ⟨some 41, .fieldAddr 24 (.tmp 5) 1, none, true⟩,
  ⟨none, .store 3 (.tmp 41) (.tmp 40), none, true⟩] e σ Q := propext ⟨fun h => h, fun h => h⟩
def k65_r13 : List COp := [
  ⟨some 42, .fieldAddr 24 (.tmp 5) 1, none, true⟩,
  ⟨some 43, .load 3 (.tmp 42), none, true⟩,
  ⟨some 44, .binOp .gtr 3 (.tmp 43) (.const (.int .i64 1)) 3, none, true⟩]
theorem k65_r13_e : Eo P pr N k65_r13 e σ Q = Eo P pr N [
  ⟨some 42, .fieldAddr 24 (.tmp 5) 1, none, true⟩,
  ⟨some 43, .load 3 (.tmp 42), none, true⟩,
  ⟨some 44, .binOp .gtr 3 (.tmp 43) (.const (.int .i64 1)) 3, none, true⟩] e σ Q := propext ⟨fun h => h, fun h => h⟩
def k65_r14 : List COp := [
  ⟨some 45, .move (.tmp 0), none, true⟩,
  ⟨some 46, .nilCheck (.tmp 45), none, true⟩,
  ⟨some 47, .fieldAddr 75 (.tmp 46) 1, none, true⟩,
  ⟨none, .store 4 (.tmp 47) (.const (.bool true)), none, true⟩]
theorem k65_r14_e : Eo P pr N k65_r14 e σ Q = Eo P pr N [
  ⟨some 45, .move (.tmp 0), none, true⟩,
  ⟨some 46, .nilCheck (.tmp 45), none, true⟩,
  ⟨some 47, .fieldAddr 75 (.tmp 46) 1, none, true⟩,
  ⟨none, .store 4 (.tmp 47) (.const (.bool true)), none, true⟩] e σ Q := propext ⟨fun h => h, fun h => h⟩
def k65_r15 : List COp := [
  ⟨some 49, .binOp .eql 3 (.tmp 18) (.const (.int .i64 3)) 3, none, true⟩,
  ⟨some 48, .assign (.tmp 49), none, true⟩]
theorem k65_r15_e : Eo P pr N k65_r15 e σ Q = Eo P pr N [
  ⟨some 49, .binOp .eql 3 (.tmp 18) (.const (.int .i64 3)) 3, none, true⟩,
  ⟨some 48, .assign (.tmp 49), none, true⟩] e σ Q := propext ⟨fun h => h, fun h => h⟩
def k65_r16 : List COp := [
  ⟨some 50, .move (.tmp 0), none, true⟩,
  ⟨some 51, .call { callee := .value (.func 86), args := #[.tmp 50], argTypes := #[73] }, none, true⟩,
  ⟨some 8, .assign (.tmp 51), none, true⟩]
theorem k65_r16_e : Eo P pr N k65_r16 e σ Q = Eo P pr N [
  ⟨some 50, .move (.tmp 0), none, true⟩,
  ⟨some 51, .call { callee := .value (.func 86), args := #[.tmp 50], argTypes := #[73] }, none, true⟩,
  ⟨some 8, .assign (.tmp 51), none, true⟩] e σ Q := propext ⟨fun h => h, fun h => h⟩
def k65_r17 : List COp := [
  ⟨some 52, .move (.tmp 8), none, true⟩,
  ⟨some 53, .binOp .gtr 3 (.tmp 52) (.const (.int .i64 256)) 3, none, true⟩]
theorem k65_r17_e : Eo P pr N k65_r17 e σ Q = Eo P pr N [
  ⟨some 52, .move (.tmp 8), none, true⟩,
  ⟨some 53, .binOp .gtr 3 (.tmp 52) (.const (.int .i64 256)) 3, none, true⟩] e σ Q := propext ⟨fun h => h, fun h => h⟩
def k65_r18 : List COp := [
  ⟨some 54, .move (.tmp 0), none, true⟩,
  ⟨some 55, .nilCheck (.tmp 54), none, true⟩,
  ⟨some 56, .fieldAddr 75 (.tmp 55) 1, none, true⟩,
  ⟨none, .store 4 (.tmp 56) (.const (.bool true)), none, true⟩]
theorem k65_r18_e : Eo P pr N k65_r18 e σ Q = Eo P pr N [
  ⟨some 54, .move (.tmp 0), none, true⟩,
  ⟨some 55, .nilCheck (.tmp 54), none, true⟩,
  ⟨some 56, .fieldAddr 75 (.tmp 55) 1, none, true⟩,
  ⟨none, .store 4 (.tmp 56) (.const (.bool true)), none, true⟩] e σ Q := propext ⟨fun h => h, fun h => h⟩
def k65_r19 : List COp := [
  ⟨some 57, .move (.tmp 0), none, true⟩,
  ⟨some 58, .move (.tmp 8), none, true⟩,
  ⟨some 59, .call { callee := .value (.func 87), args := #[.tmp 57, .tmp 58], argTypes := #[73, 3] }, none, true⟩,
  ⟨some 60, .convert 44 9 (.tmp 59), none, true⟩,
  ⟨some 61, .fieldAddr 24 (.tmp 5) 2, none, true⟩,
  ⟨none, .store 9 (.tmp 61) (.tmp 60), none, true⟩]
theorem k65_r19_e : Eo P pr N k65_r19 e σ Q = Eo P pr N [
  ⟨some 57, .move (.tmp 0), none, true⟩,
  ⟨some 58, .move (.tmp 8), none, true⟩,
  ⟨some 59, .call { callee := .value (.func 87), args := #[.tmp 57, .tmp 58], argTypes := #[73, 3] }, none, true⟩,
  ⟨some 60, .convert 44 9 (.tmp 59), none, true⟩,
  ⟨some 61, .fieldAddr 24 (.tmp 5) 2, none, true⟩,
  ⟨none, .store 9 (.tmp 61) (.tmp 60), none, true⟩] e σ Q := propext ⟨fun h => h, fun h => h⟩
def k65_r20 : List COp := [
  ⟨some 63, .binOp .eql 3 (.tmp 18) (.const (.int .i64 4)) 3, none, true⟩,
  ⟨some 62, .assign (.tmp 63), none, true⟩]
theorem k65_r20_e : Eo P pr N k65_r20 e σ Q = Eo P pr N [
  ⟨some 63, .binOp .eql 3 (.tmp 18) (.const (.int .i64 4)) 3, none, true⟩,
  ⟨some 62, .assign (.tmp 63), none, true⟩] e σ Q := propext ⟨fun h => h, fun h => h⟩
def k65_r21 : List COp := [
  ⟨some 64, .move (.tmp 0), none, true⟩,
  ⟨some 65, .call { callee := .value (.func 86), args := #[.tmp 64], argTypes := #[73] }, none, true⟩,
  ⟨some 9, .assign (.tmp 65), none, true⟩]
theorem k65_r21_e : Eo P pr N k65_r21 e σ Q = Eo P pr N [
  ⟨some 64, .move (.tmp 0), none, true⟩,
  ⟨some 65, .call { callee := .value (.func 86), args := #[.tmp 64], argTypes := #[73] }, none, true⟩,
  ⟨some 9, .assign (.tmp 65), none, true⟩] e σ Q := propext ⟨fun h => h, fun h => h⟩
def k65_r22 : List COp := [
  ⟨some 66, .move (.tmp 9), none, true⟩,
  ⟨some 67, .binOp .gtr 3 (.tmp 66) (.const (.int .i64 64)) 3, none, true⟩]
theorem k65_r22_e : Eo P pr N k65_r22 e σ Q = Eo P pr N [
  ⟨some 66, .move (.tmp 9), none, true⟩,
  ⟨some 67, .binOp .gtr 3 (.tmp 66) (.const (.int .i64 64)) 3, none, true⟩] e σ Q := propext ⟨fun h => h, fun h => h⟩
def k65_r23 : List COp := [
  ⟨some 68, .move (.tmp 0), none, true⟩,
  ⟨some 69, .nilCheck (.tmp 68), none, true⟩,
  ⟨some 70, .fieldAddr 75 (.tmp 69) 1, none, true⟩,
  ⟨none, .store 4 (.tmp 70) (.const (.bool true)), none, true⟩]
theorem k65_r23_e : Eo P pr N k65_r23 e σ Q = Eo P pr N [
  ⟨some 68, .move (.tmp 0), none, true⟩,
  ⟨some 69, .nilCheck (.tmp 68), none, true⟩,
  ⟨some 70, .fieldAddr 75 (.tmp 69) 1, none, true⟩,
  ⟨none, .store 4 (.tmp 70) (.const (.bool true)), none, true⟩] e σ Q := propext ⟨fun h => h, fun h => h⟩
def k65_r24 : List COp := [
  ⟨some 10, .assign (.const (.int .i64 0)), none, true⟩]
theorem k65_r24_e : Eo P pr N k65_r24 e σ Q = Eo P pr N [
  ⟨some 10, .assign (.const (.int .i64 0)), none, true⟩] e σ Q := propext ⟨fun h => h, fun h => h⟩
def k65_r25 : List COp := [
  ⟨some 71, .move (.tmp 10), none, true⟩,
  ⟨some 72, .move (.tmp 9), none, true⟩,
  ⟨some 73, .binOp .lss 3 (.tmp 71) (.tmp 72) 3, none, true⟩,
  ⟨some 74, .move (.tmp 73), none, true⟩,
  ⟨some 75, .move (.tmp 0), some (74, true), true⟩,
  ⟨some 76, .nilCheck (.tmp 75), some (74, true), true⟩,
  ⟨some 77, .fieldAddr 75 (.tmp 76) 1, some (74, true), true⟩,
  ⟨some 78, .load 4 (.tmp 77), some (74, true), true⟩,
  ⟨some 79, .unOp .not 4 (.tmp 78), some (74, true), true⟩,
  ⟨some 80, .pick (.tmp 74) (.tmp 79) (.const (.bool false)), none, true⟩]
theorem k65_r25_e : Eo P pr N k65_r25 e σ Q = Eo P pr N [
  ⟨some 71, .move (.tmp 10), none, true⟩,
  ⟨some 72, .move (.tmp 9), none, true⟩,
  ⟨some 73, .binOp .lss 3 (.tmp 71) (.tmp 72) 3, none, true⟩,
  ⟨some 74, .move (.tmp 73), none, true⟩,
  ⟨some 75, .move (.tmp 0), some (74, true), true⟩,
  ⟨some 76, .nilCheck (.tmp 75), some (74, true), true⟩,
  ⟨some 77, .fieldAddr 75 (.tmp 76) 1, some (74, true), true⟩,
  ⟨some 78, .load 4 (.tmp 77), some (74, true), true⟩,
  ⟨some 79, .unOp .not 4 (.tmp 78), some (74, true), true⟩,
  ⟨some 80, .pick (.tmp 74) (.tmp 79) (.const (.bool false)), none, true⟩] e σ Q := propext ⟨fun h => h, fun h => h⟩
def k65_r27 : CC := (.wregion [
  (true, ⟨some 83, .fieldAddr 24 (.tmp 5) 3, none, false⟩),
  (true, ⟨some 84, .load 22 (.tmp 83), none, false⟩),
  (false, ⟨some 85, .move (.tmp 0), none, false⟩),
  (false, ⟨some 86, .move (.tmp 1), none, true⟩),
  (false, ⟨some 87, .call { callee := .value (.func 21), args := #[.tmp 86], argTypes := #[9] }, none, true⟩),
  (true, ⟨some 88, .call { callee := .value (.func 65), args := #[.tmp 85, .tmp 87], argTypes := #[73, 9] }, none, true⟩),
  (true, ⟨some 89, .buildSlice 22 1 #[(0, .tmp 88)], none, true⟩),
  (false, ⟨some 90, .call { callee := .builtin .append, args := #[.tmp 84, .tmp 89], argTypes := #[22, 22] }, none, true⟩),
  (false, ⟨some 91, .fieldAddr 24 (.tmp 5) 3, none, true⟩),
  (false, ⟨none, .store 22 (.tmp 91) (.tmp 90), none, true⟩)] false [(1, ⟨some 84, .load 22 (.tmp 83), none, false⟩, [0, 5, 6])])
theorem k65_r27_e : Ev P pr N k65_r27 e σ Q = Ev P pr N (.wregion [
  (true, ⟨some 83, .fieldAddr 24 (.tmp 5) 3, none, false⟩),
  (true, ⟨some 84, .load 22 (.tmp 83), none, false⟩),
  (false, ⟨some 85, .move (.tmp 0), none, false⟩),
  (false, ⟨some 86, .move (.tmp 1), none, true⟩),
  (false, ⟨some 87, .call { callee := .value (.func 21), args := #[.tmp 86], argTypes := #[9] }, none, true⟩),
  (true, ⟨some 88, .call { callee := .value (.func 65), args := #[.tmp 85, .tmp 87], argTypes := #[73, 9] }, none, true⟩),
  (true, ⟨some 89, .buildSlice 22 1 #[(0, .tmp 88)], none, true⟩),
  (false, ⟨some 90, .call { callee := .builtin .append, args := #[.tmp 84, .tmp 89], argTypes := #[22, 22] }, none, true⟩),
  (false, ⟨some 91, .fieldAddr 24 (.tmp 5) 3, none, true⟩),
  (false, ⟨none, .store 22 (.tmp 91) (.tmp 90), none, true⟩)] false [(1, ⟨some 84, .load 22 (.tmp 83), none, false⟩, [0, 5, 6])]) e σ Q := propext ⟨fun h => h, fun h => h⟩
def k65_r26 : List COp := [
  ⟨some 81, .move (.tmp 10), none, true⟩,
  ⟨some 82, .binOp .add 3 (.tmp 81) (.const (.int .i64 1)) 3, none, true⟩,
  ⟨some 10, .assign (.tmp 82), none, true⟩]
theorem k65_r26_e : Eo P pr N k65_r26 e σ Q = Eo P pr N [
  ⟨some 81, .move (.tmp 10), none, true⟩,
  ⟨some 82, .binOp .add 3 (.tmp 81) (.const (.int .i64 1)) 3, none, true⟩,
  ⟨some 10, .assign (.tmp 82), none, true⟩] e σ Q := propext ⟨fun h => h, fun h => h⟩
def k65_l0 : CC := (.seq (.seq (.region k65_r25) (.cond (.tmp 80) .skip (.exit 1))) (.seq (.block 2 k65_r27) (.region k65_r26)))
theorem k65_l0_e : Ev P pr N k65_l0 e σ Q = Ev P pr N (.seq (.seq (.region k65_r25) (.cond (.tmp 80) .skip (.exit 1))) (.seq (.block 2 k65_r27) (.region k65_r26))) e σ Q := propext ⟨fun h => h, fun h => h⟩
def k65_r28 : List COp := [
  ⟨some 93, .binOp .eql 3 (.tmp 18) (.const (.int .i64 5)) 3, none, true⟩,
  ⟨some 92, .assign (.tmp 93), none, true⟩]
theorem k65_r28_e : Eo P pr N k65_r28 e σ Q = Eo P pr N [
  ⟨some 93, .binOp .eql 3 (.tmp 18) (.const (.int .i64 5)) 3, none, true⟩,
  ⟨some 92, .assign (.tmp 93), none, true⟩] e σ Q := propext ⟨fun h => h, fun h => h⟩
def k65_r29 : List COp := [
  ⟨some 95, .move (.tmp 1), none, true⟩,
  ⟨some 96, .call { callee := .value (.func 20), args := #[.tmp 95], argTypes := #[9] }, none, true⟩,
  ⟨some 94, .move (.tmp 96), none, true⟩,
  ⟨some 97, .extract (.tmp 94) 0, none, true⟩,
  ⟨some 98, .extract (.tmp 94) 1, none, true⟩,
  ⟨some 11, .assign (.tmp 97), none, true⟩,
  ⟨some 12, .assign (.tmp 98), none, true⟩]
theorem k65_r29_e : Eo P pr N k65_r29 e σ Q = Eo P pr N [
  ⟨some 95, .move (.tmp 1), none, true⟩,
  ⟨some 96, .call { callee := .value (.func 20), args := #[.tmp 95], argTypes := #[9] }, none, true⟩,
  ⟨some 94, .move (.tmp 96), none, true⟩,
  ⟨some 97, .extract (.tmp 94) 0, none, true⟩,
  ⟨some 98, .extract (.tmp 94) 1, none, true⟩,
  ⟨some 11, .assign (.tmp 97), none, true⟩,
  ⟨some 12, .assign (.tmp 98), none, true⟩] e σ Q := propext ⟨fun h => h, fun h => h⟩
def k65_r30 : List COp := [
  ⟨some 99, .move (.tmp 0), none, true⟩,
  ⟨some 100, .call { callee := .value (.func 86), args := #[.tmp 99], argTypes := #[73] }, none, true⟩,
  ⟨some 13, .assign (.tmp 100), none, true⟩]
theorem k65_r30_e : Eo P pr N k65_r30 e σ Q = Eo P pr N [
  ⟨some 99, .move (.tmp 0), none, true⟩,
  ⟨some 100, .call { callee := .value (.func 86), args := #[.tmp 99], argTypes := #[73] }, none, true⟩,
  ⟨some 13, .assign (.tmp 100), none, true⟩] e σ Q := propext ⟨fun h => h, fun h => h⟩
def k65_r31 : List COp := [
  ⟨some 101, .move (.tmp 13), none, true⟩,
  ⟨some 102, .binOp .gtr 3 (.tmp 101) (.const (.int .i64 64)) 3, none, true⟩]
theorem k65_r31_e : Eo P pr N k65_r31 e σ Q = Eo P pr N [
  ⟨some 101, .move (.tmp 13), none, true⟩,
  ⟨some 102, .binOp .gtr 3 (.tmp 101) (.const (.int .i64 64)) 3, none, true⟩] e σ Q := propext ⟨fun h => h, fun h => h⟩
def k65_r32 : List COp := [
  ⟨some 103, .move (.tmp 0), none, true⟩,
  ⟨some 104, .nilCheck (.tmp 103), none, true⟩,
  ⟨some 105, .fieldAddr 75 (.tmp 104) 1, none, true⟩,
  ⟨none, .store 4 (.tmp 105) (.const (.bool true)), none, true⟩]
theorem k65_r32_e : Eo P pr N k65_r32 e σ Q = Eo P pr N [
  ⟨some 103, .move (.tmp 0), none, true⟩,
  ⟨some 104, .nilCheck (.tmp 103), none, true⟩,
  ⟨some 105, .fieldAddr 75 (.tmp 104) 1, none, true⟩,
  ⟨none, .store 4 (.tmp 105) (.const (.bool true)), none, true⟩] e σ Q := propext ⟨fun h => h, fun h => h⟩
def k65_r33 : List COp := [
  ⟨some 14, .assign (.const (.int .i64 0)), none, true⟩]
theorem k65_r33_e : Eo P pr N k65_r33 e σ Q = Eo P pr N [
  ⟨some 14, .assign (.const (.int .i64 0)), none, true⟩] e σ Q := propext ⟨fun h => h, fun h => h⟩
def k65_r34 : List COp := [
  ⟨some 106, .move (.tmp 14), none, true⟩,
  ⟨some 107, .move (.tmp 13), none, true⟩,
  ⟨some 108, .binOp .lss 3 (.tmp 106) (.tmp 107) 3, none, true⟩,
  ⟨some 109, .move (.tmp 108), none, true⟩,
  ⟨some 110, .move (.tmp 0), some (109, true), true⟩,
  ⟨some 111, .nilCheck (.tmp 110), some (109, true), true⟩,
  ⟨some 112, .fieldAddr 75 (.tmp 111) 1, some (109, true), true⟩,
  ⟨some 113, .load 4 (.tmp 112), some (109, true), true⟩,
  ⟨some 114, .unOp .not 4 (.tmp 113), some (109, true), true⟩,
  ⟨some 115, .pick (.tmp 109) (.tmp 114) (.const (.bool false)), none, true⟩]
theorem k65_r34_e : Eo P pr N k65_r34 e σ Q = Eo P pr N [
  ⟨some 106, .move (.tmp 14), none, true⟩,
  ⟨some 107, .move (.tmp 13), none, true⟩,
  ⟨some 108, .binOp .lss 3 (.tmp 106) (.tmp 107) 3, none, true⟩,
  ⟨some 109, .move (.tmp 108), none, true⟩,
  ⟨some 110, .move (.tmp 0), some (109, true), true⟩,
  ⟨some 111, .nilCheck (.tmp 110), some (109, true), true⟩,
  ⟨some 112, .fieldAddr 75 (.tmp 111) 1, some (109, true), true⟩,
  ⟨some 113, .load 4 (.tmp 112), some (109, true), true⟩,
  ⟨some 114, .unOp .not 4 (.tmp 113), some (109, true), true⟩,
  ⟨some 115, .pick (.tmp 109) (.tmp 114) (.const (.bool false)), none, true⟩] e σ Q := propext ⟨fun h => h, fun h => h⟩
def k65_r36 : CC := (.wregion [
  (true, ⟨some 118, .fieldAddr 24 (.tmp 5) 3, none, false⟩),
  (true, ⟨some 119, .load 22 (.tmp 118), none, false⟩),
  (false, ⟨some 120, .move (.tmp 0), none, false⟩),
  (false, ⟨some 121, .move (.tmp 11), none, true⟩),
  (false, ⟨some 122, .call { callee := .value (.func 65), args := #[.tmp 120, .tmp 121], argTypes := #[73, 9] }, none, true⟩),
  (true, ⟨some 123, .buildSlice 22 1 #[(0, .tmp 122)], none, true⟩),
  (false, ⟨some 124, .call { callee := .builtin .append, args := #[.tmp 119, .tmp 123], argTypes := #[22, 22] }, none, true⟩),
  (false, ⟨some 125, .fieldAddr 24 (.tmp 5) 3, none, true⟩),
  (false, ⟨none, .store 22 (.tmp 125) (.tmp 124), none, true⟩)] false [(1, ⟨some 119, .load 22 (.tmp 118), none, false⟩, [0, 5])])
theorem k65_r36_e : Ev P pr N k65_r36 e σ Q = Ev P pr N (.wregion [
  (true, ⟨some 118, .fieldAddr 24 (.tmp 5) 3, none, false⟩),
  (true, ⟨some 119, .load 22 (.tmp 118), none, false⟩),
  (false, ⟨some 120, .move (.tmp 0), none, false⟩),
  (false, ⟨some 121, .move (.tmp 11), none, true⟩),
  (false, ⟨some 122, .call { callee := .value (.func 65), args := #[.tmp 120, .tmp 121], argTypes := #[73, 9] }, none, true⟩),
  (true, ⟨some 123, .buildSlice 22 1 #[(0, .tmp 122)], none, true⟩),
  (false, ⟨some 124, .call { callee := .builtin .append, args := #[.tmp 119, .tmp 123], argTypes := #[22, 22] }, none, true⟩),
  (false, ⟨some 125, .fieldAddr 24 (.tmp 5) 3, none, true⟩),
  (false, ⟨none, .store 22 (.tmp 125) (.tmp 124), none, true⟩)] false [(1, ⟨some 119, .load 22 (.tmp 118), none, false⟩, [0, 5])]) e σ Q := propext ⟨fun h => h, fun h => h⟩
def k65_r37 : CC := (.wregion [
  (true, ⟨some 126, .fieldAddr 24 (.tmp 5) 3, none, false⟩),
  (true, ⟨some 127, .load 22 (.tmp 126), none, false⟩),
  (false, ⟨some 128, .move (.tmp 0), none, false⟩),
  (false, ⟨some 129, .move (.tmp 12), none, true⟩),
  (false, ⟨some 130, .call { callee := .value (.func 65), args := #[.tmp 128, .tmp 129], argTypes := #[73, 9] }, none, true⟩),
  (true, ⟨some 131, .buildSlice 22 1 #[(0, .tmp 130)], none, true⟩),
  (false, ⟨some 132, .call { callee := .builtin .append, args := #[.tmp 127, .tmp 131], argTypes := #[22, 22] }, none, true⟩),
  (false, ⟨some 133, .fieldAddr 24 (.tmp 5) 3, none, true⟩),
  (false, ⟨none, .store 22 (.tmp 133) (.tmp 132), none, true⟩)] false [(1, ⟨some 127, .load 22 (.tmp 126), none, false⟩, [0, 5])])
theorem k65_r37_e : Ev P pr N k65_r37 e σ Q = Ev P pr N (.wregion [
  (true, ⟨some 126, .fieldAddr 24 (.tmp 5) 3, none, false⟩),
  (true, ⟨some 127, .load 22 (.tmp 126), none, false⟩),
  (false, ⟨some 128, .move (.tmp 0), none, false⟩),
  (false, ⟨some 129, .move (.tmp 12), none, true⟩),
  (false, ⟨some 130, .call { callee := .value (.func 65), args := #[.tmp 128, .tmp 129], argTypes := #[73, 9] }, none, true⟩),
  (true, ⟨some 131, .buildSlice 22 1 #[(0, .tmp 130)], none, true⟩),
  (false, ⟨some 132, .call { callee := .builtin .append, args := #[.tmp 127, .tmp 131], argTypes := #[22, 22] }, none, true⟩),
  (false, ⟨some 133, .fieldAddr 24 (.tmp 5) 3, none, true⟩),
  (false, ⟨none, .store 22 (.tmp 133) (.tmp 132), none, true⟩)] false [(1, ⟨some 127, .load 22 (.tmp 126), none, false⟩, [0, 5])]) e σ Q := propext ⟨fun h => h, fun h => h⟩
def k65_r35 : List COp := [
  ⟨some 116, .move (.tmp 14), none, true⟩,
  ⟨some 117, .binOp .add 3 (.tmp 116) (.const (.int .i64 1)) 3, none, true⟩,
  ⟨some 14, .assign (.tmp 117), none, true⟩]
theorem k65_r35_e : Eo P pr N k65_r35 e σ Q = Eo P pr N [
  ⟨some 116, .move (.tmp 14), none, true⟩,
  ⟨some 117, .binOp .add 3 (.tmp 116) (.const (.int .i64 1)) 3, none, true⟩,
  ⟨some 14, .assign (.tmp 117), none, true⟩] e σ Q := propext ⟨fun h => h, fun h => h⟩
def k65_l1 : CC := (.seq (.seq (.region k65_r34) (.cond (.tmp 115) .skip (.exit 3))) (.seq (.block 4 (.seq k65_r36 k65_r37)) (.region k65_r35)))
theorem k65_l1_e : Ev P pr N k65_l1 e σ Q = Ev P pr N (.seq (.seq (.region k65_r34) (.cond (.tmp 115) .skip (.exit 3))) (.seq (.block 4 (.seq k65_r36 k65_r37)) (.region k65_r35))) e σ Q := propext ⟨fun h => h, fun h => h⟩
def k65_r38 : List COp := [
  ⟨some 134, .load 24 (.tmp 5), none, true⟩,
  ⟨none, .store 24 (.tmp 4) (.tmp 134), none, true⟩]
theorem k65_r38_e : Eo P pr N k65_r38 e σ Q = Eo P pr N [
  ⟨some 134, .load 24 (.tmp 5), none, true⟩,
  ⟨none, .store 24 (.tmp 4) (.tmp 134), none, true⟩] e σ Q := propext ⟨fun h => h, fun h => h⟩
def k65 : CC := (.seq (.region k65_r0) (.seq (.region k65_r1) (.seq (.seq (.region k65_r2) (.block 0 (.seq (.region k65_r3) (.cond (.tmp 19) (.seq (.region k65_r4) (.seq (.region k65_r5) (.seq (.seq (.region k65_r6) (.cond (.tmp 26) (.region k65_r7) .skip)) (.seq (.seq (.region k65_r8) (.cond (.tmp 31) (.region k65_r9) .skip)) (.region k65_r10))))) (.seq (.region k65_r11) (.cond (.tmp 37) (.seq (.region k65_r12) (.seq (.region k65_r13) (.cond (.tmp 44) (.region k65_r14) .skip))) (.seq (.region k65_r15) (.cond (.tmp 48) (.seq (.region k65_r16) (.seq (.seq (.region k65_r17) (.cond (.tmp 53) (.region k65_r18) .skip)) (.region k65_r19))) (.seq (.region k65_r20) (.cond (.tmp 62) (.seq (.region k65_r21) (.seq (.seq (.region k65_r22) (.cond (.tmp 67) (.region k65_r23) .skip)) (.seq (.region k65_r24) (.block 1 (.loop k65_l0))))) (.seq (.region k65_r28) (.cond (.tmp 92) (.seq (.region k65_r29) (.seq (.region k65_r30) (.seq (.seq (.region k65_r31) (.cond (.tmp 102) (.region k65_r32) .skip)) (.seq (.region k65_r33) (.block 3 (.loop k65_l1)))))) .skip)))))))))))) (.seq (.region k65_r38) .ret))))
theorem k65_e : Ev P pr N k65 e σ Q = Ev P pr N (.seq (.region k65_r0) (.seq (.region k65_r1) (.seq (.seq (.region k65_r2) (.block 0 (.seq (.region k65_r3) (.cond (.tmp 19) (.seq (.region k65_r4) (.seq (.region k65_r5) (.seq (.seq (.region k65_r6) (.cond (.tmp 26) (.region k65_r7) .skip)) (.seq (.seq (.region k65_r8) (.cond (.tmp 31) (.region k65_r9) .skip)) (.region k65_r10))))) (.seq (.region k65_r11) (.cond (.tmp 37) (.seq (.region k65_r12) (.seq (.region k65_r13) (.cond (.tmp 44) (.region k65_r14) .skip))) (.seq (.region k65_r15) (.cond (.tmp 48) (.seq (.region k65_r16) (.seq (.seq (.region k65_r17) (.cond (.tmp 53) (.region k65_r18) .skip)) (.region k65_r19))) (.seq (.region k65_r20) (.cond (.tmp 62) (.seq (.region k65_r21) (.seq (.seq (.region k65_r22) (.cond (.tmp 67) (.region k65_r23) .skip)) (.seq (.region k65_r24) (.block 1 (.loop k65_l0))))) (.seq (.region k65_r28) (.cond (.tmp 92) (.seq (.region k65_r29) (.seq (.region k65_r30) (.seq (.seq (.region k65_r31) (.cond (.tmp 102) (.region k65_r32) .skip)) (.seq (.region k65_r33) (.block 3 (.loop k65_l1)))))) .skip)))))))))))) (.seq (.region k65_r38) .ret)))) e σ Q := propext ⟨fun h => h, fun h => h⟩
/-- quern/quernref09.Read -/
theorem k65_is : FnIs Try.prog prims 65 135 [ResultVar.cell 4 24] k65 := FnIs.of_fn Try.func65 (by kernel_rfl) rfl
def k66_r0 : List COp := [
  ⟨some 2, .assign (.const (.int .i64 0)), none, true⟩]
theorem k66_r0_e : Eo P pr N k66_r0 e σ Q = Eo P pr N [
  ⟨some 2, .assign (.const (.int .i64 0)), none, true⟩] e σ Q := propext ⟨fun h => h, fun h => h⟩
def k66_r1 : List COp := [
  ⟨some 5, .move (.tmp 0), none, true⟩,
  ⟨some 6, .binOp .eql 9 (.tmp 5) (.const (.string { data := #[105, 110, 116] })) 9, none, true⟩,
  ⟨some 7, .move (.tmp 6), none, true⟩,
  ⟨some 8, .move (.tmp 0), some (7, false), true⟩,
  ⟨some 9, .binOp .eql 9 (.tmp 8) (.const (.string { data := #[98, 111, 111, 108] })) 9, some (7, false), true⟩,
  ⟨some 10, .pick (.tmp 7) (.const (.bool true)) (.tmp 9), none, true⟩,
  ⟨some 11, .move (.tmp 10), none, true⟩,
  ⟨some 12, .move (.tmp 0), some (11, false), true⟩,
  ⟨some 13, .binOp .eql 9 (.tmp 12) (.const (.string { data := #[116, 101, 120, 116] })) 9, some (11, false), true⟩,
  ⟨some 14, .pick (.tmp 11) (.const (.bool true)) (.tmp 13), none, true⟩]
theorem k66_r1_e : Eo P pr N k66_r1 e σ Q = Eo P pr N [
  ⟨some 5, .move (.tmp 0), none, true⟩,
  ⟨some 6, .binOp .eql 9 (.tmp 5) (.const (.string { data := #[105, 110, 116] })) 9, none, true⟩,
  ⟨some 7, .move (.tmp 6), none, true⟩,
  ⟨some 8, .move (.tmp 0), some (7, false), true⟩,
  ⟨some 9, .binOp .eql 9 (.tmp 8) (.const (.string { data := #[98, 111, 111, 108] })) 9, some (7, false), true⟩,
  ⟨some 10, .pick (.tmp 7) (.const (.bool true)) (.tmp 9), none, true⟩,
  ⟨some 11, .move (.tmp 10), none, true⟩,
  ⟨some 12, .move (.tmp 0), some (11, false), true⟩,
  ⟨some 13, .binOp .eql 9 (.tmp 12) (.const (.string { data := #[116, 101, 120, 116] })) 9, some (11, false), true⟩,
  ⟨some 14, .pick (.tmp 11) (.const (.bool true)) (.tmp 13), none, true⟩] e σ Q := propext ⟨fun h => h, fun h => h⟩
def k66_r2 : List COp := [
  ⟨some 2, .assign (.const (.int .i64 1)), none, true⟩]
theorem k66_r2_e : Eo P pr N k66_r2 e σ Q = Eo P pr N [
  ⟨some 2, .assign (.const (.int .i64 1)), none, true⟩] e σ Q := propext ⟨fun h => h, fun h => h⟩
def k66_r3 : List COp := [
  ⟨some 3, .assign (.const (.string { data := #[] })), none, true⟩]
theorem k66_r3_e : Eo P pr N k66_r3 e σ Q = Eo P pr N [
  ⟨some 3, .assign (.const (.string { data := #[] })), none, true⟩] e σ Q := propext ⟨fun h => h, fun h => h⟩
def k66_r4 : List COp := [
  ⟨some 15, .move (.tmp 0), none, true⟩,
  ⟨some 16, .call { callee := .builtin .len, args := #[.tmp 15], argTypes := #[9] }, none, true⟩,
  ⟨some 17, .binOp .gtr 3 (.tmp 16) (.const (.int .i64 2)) 3, none, true⟩,
  ⟨some 18, .move (.tmp 17), none, true⟩,
  ⟨some 19, .move (.tmp 0), some (18, true), true⟩,
  ⟨some 20, .index 9 (.tmp 19) (.const (.int .i64 0)), some (18, true), true⟩,
  ⟨some 21, .binOp .eql 5 (.tmp 20) (.const (.int .u8 91)) 5, some (18, true), true⟩,
  ⟨some 22, .pick (.tmp 18) (.tmp 21) (.const (.bool false)), none, true⟩,
  ⟨some 23, .move (.tmp 22), none, true⟩,
  ⟨some 24, .move (.tmp 0), some (23, true), true⟩,
  ⟨some 25, .move (.tmp 0), some (23, true), true⟩,
  ⟨some 26, .call { callee := .builtin .len, args := #[.tmp 25], argTypes := #[9] }, some (23, true), true⟩,
  ⟨some 27, .binOp .sub 3 (.tmp 26) (.const (.int .i64 1)) 3, some (23, true), true⟩,
  ⟨some 28, .index 9 (.tmp 24) (.tmp 27), some (23, true), true⟩,
  ⟨some 29, .binOp .eql 5 (.tmp 28) (.const (.int .u8 93)) 5, some (23, true), true⟩,
  ⟨some 30, .pick (.tmp 23) (.tmp 29) (.const (.bool false)), none, true⟩]
theorem k66_r4_e : Eo P pr N k66_r4 e σ Q = Eo P pr N [
  ⟨some 15, .move (.tmp 0), none, true⟩,
  ⟨some 16, .call { callee := .builtin .len, args := #[.tmp 15], argTypes := #[9] }, none, true⟩,
  ⟨some 17, .binOp .gtr 3 (.tmp 16) (.const (.int .i64 2)) 3, none, true⟩,
  ⟨some 18, .move (.tmp 17), none, true⟩,
  ⟨some 19, .move (.tmp 0), some (18, true), true⟩,
  ⟨some 20, .index 9 (.tmp 19) (.const (.int .i64 0)), some (18, true), true⟩,
  ⟨some 21, .binOp .eql 5 (.tmp 20) (.const (.int .u8 91)) 5, some (18, true), true⟩,
  ⟨some 22, .pick (.tmp 18) (.tmp 21) (.const (.bool false)), none, true⟩,
  ⟨some 23, .move (.tmp 22), none, true⟩,
  ⟨some 24, .move (.tmp 0), some (23, true), true⟩,
  ⟨some 25, .move (.tmp 0), some (23, true), true⟩,
  ⟨some 26, .call { callee := .builtin .len, args := #[.tmp 25], argTypes := #[9] }, some (23, true), true⟩,
  ⟨some 27, .binOp .sub 3 (.tmp 26) (.const (.int .i64 1)) 3, some (23, true), true⟩,
  ⟨some 28, .index 9 (.tmp 24) (.tmp 27), some (23, true), true⟩,
  ⟨some 29, .binOp .eql 5 (.tmp 28) (.const (.int .u8 93)) 5, some (23, true), true⟩,
  ⟨some 30, .pick (.tmp 23) (.tmp 29) (.const (.bool false)), none, true⟩] e σ Q := propext ⟨fun h => h, fun h => h⟩
def k66_r5 : List COp := [
  ⟨some 31, .move (.tmp 0), none, true⟩,
  ⟨some 32, .move (.tmp 0), none, true⟩,
  ⟨some 33, .call { callee := .builtin .len, args := #[.tmp 32], argTypes := #[9] }, none, true⟩,
  ⟨some 34, .binOp .sub 3 (.tmp 33) (.const (.int .i64 1)) 3, none, true⟩,
  ⟨some 35, .slice 9 (.tmp 31) (some (.const (.int .i64 1))) (some (.tmp 34)) .none, none, true⟩,
  ⟨some 3, .assign (.tmp 35), none, true⟩]
theorem k66_r5_e : Eo P pr N k66_r5 e σ Q = Eo P pr N [
  ⟨some 31, .move (.tmp 0), none, true⟩,
  ⟨some 32, .move (.tmp 0), none, true⟩,
  ⟨some 33, .call { callee := .builtin .len, args := #[.tmp 32], argTypes := #[9] }, none, true⟩,
  ⟨some 34, .binOp .sub 3 (.tmp 33) (.const (.int .i64 1)) 3, none, true⟩,
  ⟨some 35, .slice 9 (.tmp 31) (some (.const (.int .i64 1))) (some (.tmp 34)) .none, none, true⟩,
  ⟨some 3, .assign (.tmp 35), none, true⟩] e σ Q := propext ⟨fun h => h, fun h => h⟩
def k66_r6 : List COp := [
  ⟨some 36, .move (.tmp 0), none, true⟩,
  ⟨some 37, .call { callee := .builtin .len, args := #[.tmp 36], argTypes := #[9] }, none, true⟩,
  ⟨some 38, .binOp .gtr 3 (.tmp 37) (.const (.int .i64 6)) 3, none, true⟩,
  ⟨some 39, .move (.tmp 38), none, true⟩,
  ⟨some 40, .move (.tmp 0), some (39, true), true⟩,
  ⟨some 41, .slice 9 (.tmp 40) .none (some (.const (.int .i64 5))) .none, some (39, true), true⟩,
  ⟨some 42, .binOp .eql 9 (.tmp 41) (.const (.string { data := #[123, 105, 110, 116, 58] })) 9, some (39, true), true⟩,
  ⟨some 43, .pick (.tmp 39) (.tmp 42) (.const (.bool false)), none, true⟩,
  ⟨some 44, .move (.tmp 43), none, true⟩,
  ⟨some 45, .move (.tmp 0), some (44, true), true⟩,
  ⟨some 46, .move (.tmp 0), some (44, true), true⟩,
  ⟨some 47, .call { callee := .builtin .len, args := #[.tmp 46], argTypes := #[9] }, some (44, true), true⟩,
  ⟨some 48, .binOp .sub 3 (.tmp 47) (.const (.int .i64 1)) 3, some (44, true), true⟩,
  ⟨some 49, .index 9 (.tmp 45) (.tmp 48), some (44, true), true⟩,
  ⟨some 50, .binOp .eql 5 (.tmp 49) (.const (.int .u8 125)) 5, some (44, true), true⟩,
  ⟨some 51, .pick (.tmp 44) (.tmp 50) (.const (.bool false)), none, true⟩]
theorem k66_r6_e : Eo P pr N k66_r6 e σ Q = Eo P pr N [
  ⟨some 36, .move (.tmp 0), none, true⟩,
  ⟨some 37, .call { callee := .builtin .len, args := #[.tmp 36], argTypes := #[9] }, none, true⟩,
  ⟨some 38, .binOp .gtr 3 (.tmp 37) (.const (.int .i64 6)) 3, none, true⟩,
  ⟨some 39, .move (.tmp 38), none, true⟩,
  ⟨some 40, .move (.tmp 0), some (39, true), true⟩,
  ⟨some 41, .slice 9 (.tmp 40) .none (some (.const (.int .i64 5))) .none, some (39, true), true⟩,
  ⟨some 42, .binOp .eql 9 (.tmp 41) (.const (.string { data := #[123, 105, 110, 116, 58] })) 9, some (39, true), true⟩,
  ⟨some 43, .pick (.tmp 39) (.tmp 42) (.const (.bool false)), none, true⟩,
  ⟨some 44, .move (.tmp 43), none, true⟩,
  ⟨some 45, .move (.tmp 0), some (44, true), true⟩,
  ⟨some 46, .move (.tmp 0), some (44, true), true⟩,
  ⟨some 47, .call { callee := .builtin .len, args := #[.tmp 46], argTypes := #[9] }, some (44, true), true⟩,
  ⟨some 48, .binOp .sub 3 (.tmp 47) (.const (.int .i64 1)) 3, some (44, true), true⟩,
  ⟨some 49, .index 9 (.tmp 45) (.tmp 48), some (44, true), true⟩,
  ⟨some 50, .binOp .eql 5 (.tmp 49) (.const (.int .u8 125)) 5, some (44, true), true⟩,
  ⟨some 51, .pick (.tmp 44) (.tmp 50) (.const (.bool false)), none, true⟩] e σ Q := propext ⟨fun h => h, fun h => h⟩
def k66_r7 : List COp := [
  ⟨some 52, .move (.tmp 0), none, true⟩,
  ⟨some 53, .move (.tmp 0), none, true⟩,
  ⟨some 54, .call { callee := .builtin .len, args := #[.tmp 53], argTypes := #[9] }, none, true⟩,
  ⟨some 55, .binOp .sub 3 (.tmp 54) (.const (.int .i64 1)) 3, none, true⟩,
  ⟨some 56, .slice 9 (.tmp 52) (some (.const (.int .i64 5))) (some (.tmp 55)) .none, none, true⟩,
  ⟨some 3, .assign (.tmp 56), none, true⟩]
theorem k66_r7_e : Eo P pr N k66_r7 e σ Q = Eo P pr N [
  ⟨some 52, .move (.tmp 0), none, true⟩,
  ⟨some 53, .move (.tmp 0), none, true⟩,
  ⟨some 54, .call { callee := .builtin .len, args := #[.tmp 53], argTypes := #[9] }, none, true⟩,
  ⟨some 55, .binOp .sub 3 (.tmp 54) (.const (.int .i64 1)) 3, none, true⟩,
  ⟨some 56, .slice 9 (.tmp 52) (some (.const (.int .i64 5))) (some (.tmp 55)) .none, none, true⟩,
  ⟨some 3, .assign (.tmp 56), none, true⟩] e σ Q := propext ⟨fun h => h, fun h => h⟩
def k66_r8 : List COp := [
  ⟨some 57, .move (.tmp 0), none, true⟩,
  ⟨some 58, .call { callee := .builtin .len, args := #[.tmp 57], argTypes := #[9] }, none, true⟩,
  ⟨some 59, .binOp .gtr 3 (.tmp 58) (.const (.int .i64 7)) 3, none, true⟩,
  ⟨some 60, .move (.tmp 59), none, true⟩,
  ⟨some 61, .move (.tmp 0), some (60, true), true⟩,
  ⟨some 62, .slice 9 (.tmp 61) .none (some (.const (.int .i64 6))) .none, some (60, true), true⟩,
  ⟨some 63, .binOp .eql 9 (.tmp 62) (.const (.string { data := #[123, 116, 101, 120, 116, 58] })) 9, some (60, true), true⟩,
  ⟨some 64, .pick (.tmp 60) (.tmp 63) (.const (.bool false)), none, true⟩,
  ⟨some 65, .move (.tmp 64), none, true⟩,
  ⟨some 66, .move (.tmp 0), some (65, true), true⟩,
  ⟨some 67, .move (.tmp 0), some (65, true), true⟩,
  ⟨some 68, .call { callee := .builtin .len, args := #[.tmp 67], argTypes := #[9] }, some (65, true), true⟩,
  ⟨some 69, .binOp .sub 3 (.tmp 68) (.const (.int .i64 1)) 3, some (65, true), true⟩,
  ⟨some 70, .index 9 (.tmp 66) (.tmp 69), some (65, true), true⟩,
  ⟨some 71, .binOp .eql 5 (.tmp 70) (.const (.int .u8 125)) 5, some (65, true), true⟩,
  ⟨some 72, .pick (.tmp 65) (.tmp 71) (.const (.bool false)), none, true⟩]
theorem k66_r8_e : Eo P pr N k66_r8 e σ Q = Eo P pr N [
  ⟨some 57, .move (.tmp 0), none, true⟩,
  ⟨some 58, .call { callee := .builtin .len, args := #[.tmp 57], argTypes := #[9] }, none, true⟩,
  ⟨some 59, .binOp .gtr 3 (.tmp 58) (.const (.int .i64 7)) 3, none, true⟩,
  ⟨some 60, .move (.tmp 59), none, true⟩,
  ⟨some 61, .move (.tmp 0), some (60, true), true⟩,
  ⟨some 62, .slice 9 (.tmp 61) .none (some (.const (.int .i64 6))) .none, some (60, true), true⟩,
  ⟨some 63, .binOp .eql 9 (.tmp 62) (.const (.string { data := #[123, 116, 101, 120, 116, 58] })) 9, some (60, true), true⟩,
  ⟨some 64, .pick (.tmp 60) (.tmp 63) (.const (.bool false)), none, true⟩,
  ⟨some 65, .move (.tmp 64), none, true⟩,
  ⟨some 66, .move (.tmp 0), some (65, true), true⟩,
  ⟨some 67, .move (.tmp 0), some (65, true), true⟩,
  ⟨some 68, .call { callee := .builtin .len, args := #[.tmp 67], argTypes := #[9] }, some (65, true), true⟩,
  ⟨some 69, .binOp .sub 3 (.tmp 68) (.const (.int .i64 1)) 3, some (65, true), true⟩,
  ⟨some 70, .index 9 (.tmp 66) (.tmp 69), some (65, true), true⟩,
  ⟨some 71, .binOp .eql 5 (.tmp 70) (.const (.int .u8 125)) 5, some (65, true), true⟩,
  ⟨some 72, .pick (.tmp 65) (.tmp 71) (.const (.bool false)), none, true⟩] e σ Q := propext ⟨fun h => h, fun h => h⟩
def k66_r9 : List COp := [
  ⟨some 73, .move (.tmp 0), none, true⟩,
  ⟨some 74, .move (.tmp 0), none, true⟩,
  ⟨some 75, .call { callee := .builtin .len, args := #[.tmp 74], argTypes := #[9] }, none, true⟩,
  ⟨some 76, .binOp .sub 3 (.tmp 75) (.const (.int .i64 1)) 3, none, true⟩,
  ⟨some 77, .slice 9 (.tmp 73) (some (.const (.int .i64 6))) (some (.tmp 76)) .none, none, true⟩,
  ⟨some 3, .assign (.tmp 77), none, true⟩]
theorem k66_r9_e : Eo P pr N k66_r9 e σ Q = Eo P pr N [
  ⟨some 73, .move (.tmp 0), none, true⟩,
  ⟨some 74, .move (.tmp 0), none, true⟩,
  ⟨some 75, .call { callee := .builtin .len, args := #[.tmp 74], argTypes := #[9] }, none, true⟩,
  ⟨some 76, .binOp .sub 3 (.tmp 75) (.const (.int .i64 1)) 3, none, true⟩,
  ⟨some 77, .slice 9 (.tmp 73) (some (.const (.int .i64 6))) (some (.tmp 76)) .none, none, true⟩,
  ⟨some 3, .assign (.tmp 77), none, true⟩] e σ Q := propext ⟨fun h => h, fun h => h⟩
def k66_r10 : List COp := [
  ⟨some 2, .assign (.const (.int .i64 0)), none, true⟩]
theorem k66_r10_e : Eo P pr N k66_r10 e σ Q = Eo P pr N [
  ⟨some 2, .assign (.const (.int .i64 0)), none, true⟩] e σ Q := propext ⟨fun h => h, fun h => h⟩
def k66_r11 : List COp := [
  ⟨some 78, .move (.tmp 0), none, true⟩,
  ⟨some 79, .call { callee := .builtin .len, args := #[.tmp 78], argTypes := #[9] }, none, true⟩,
  ⟨some 80, .binOp .gtr 3 (.tmp 79) (.const (.int .i64 200)) 3, none, true⟩]
theorem k66_r11_e : Eo P pr N k66_r11 e σ Q = Eo P pr N [
  ⟨some 78, .move (.tmp 0), none, true⟩,
  ⟨some 79, .call { callee := .builtin .len, args := #[.tmp 78], argTypes := #[9] }, none, true⟩,
  ⟨some 80, .binOp .gtr 3 (.tmp 79) (.const (.int .i64 200)) 3, none, true⟩] e σ Q := propext ⟨fun h => h, fun h => h⟩
def k66_r12 : List COp := [
  ⟨some 2, .assign (.const (.int .i64 0)), none, true⟩]
theorem k66_r12_e : Eo P pr N k66_r12 e σ Q = Eo P pr N [
  ⟨some 2, .assign (.const (.int .i64 0)), none, true⟩] e σ Q := propext ⟨fun h => h, fun h => h⟩
def k66_r13 : List COp := [
  ⟨some 81, .move (.tmp 3), none, true⟩,
  ⟨some 82, .call { callee := .value (.func 66), args := #[.tmp 81], argTypes := #[9] }, none, true⟩,
  ⟨some 4, .assign (.tmp 82), none, true⟩]
theorem k66_r13_e : Eo P pr N k66_r13 e σ Q = Eo P pr N [
  ⟨some 81, .move (.tmp 3), none, true⟩,
  ⟨some 82, .call { callee := .value (.func 66), args := #[.tmp 81], argTypes := #[9] }, none, true⟩,
  ⟨some 4, .assign (.tmp 82), none, true⟩] e σ Q := propext ⟨fun h => h, fun h => h⟩
def k66_r14 : List COp := [
  ⟨some 83, .move (.tmp 4), none, true⟩,
  ⟨some 84, .binOp .eql 3 (.tmp 83) (.const (.int .i64 0)) 3, none, true⟩]
theorem k66_r14_e : Eo P pr N k66_r14 e σ Q = Eo P pr N [
  ⟨some 83, .move (.tmp 4), none, true⟩,
  ⟨some 84, .binOp .eql 3 (.tmp 83) (.const (.int .i64 0)) 3, none, true⟩] e σ Q := propext ⟨fun h => h, fun h => h⟩
def k66_r15 : List COp := [
  ⟨some 2, .assign (.const (.int .i64 0)), none, true⟩]
theorem k66_r15_e : Eo P pr N k66_r15 e σ Q = Eo P pr N [
  ⟨some 2, .assign (.const (.int .i64 0)), none, true⟩] e σ Q := propext ⟨fun h => h, fun h => h⟩
def k66_r16 : List COp := [
  ⟨some 85, .move (.tmp 4), none, true⟩,
  ⟨some 86, .binOp .add 3 (.tmp 85) (.const (.int .i64 1)) 3, none, true⟩,
  ⟨some 2, .assign (.tmp 86), none, true⟩]
theorem k66_r16_e : Eo P pr N k66_r16 e σ Q = Eo P pr N [
  ⟨some 85, .move (.tmp 4), none, true⟩,
  ⟨some 86, .binOp .add 3 (.tmp 85) (.const (.int .i64 1)) 3, none, true⟩,
  ⟨some 2, .assign (.tmp 86), none, true⟩] e σ Q := propext ⟨fun h => h, fun h => h⟩
def k66 : CC := (.seq (.region k66_r0) (.seq (.seq (.region k66_r1) (.cond (.tmp 14) (.seq (.region k66_r2) .ret) .skip)) (.seq (.region k66_r3) (.seq (.seq (.region k66_r4) (.cond (.tmp 30) (.region k66_r5) (.seq (.region k66_r6) (.cond (.tmp 51) (.region k66_r7) (.seq (.region k66_r8) (.cond (.tmp 72) (.region k66_r9) (.seq (.region k66_r10) .ret))))))) (.seq (.seq (.region k66_r11) (.cond (.tmp 80) (.seq (.region k66_r12) .ret) .skip)) (.seq (.region k66_r13) (.seq (.seq (.region k66_r14) (.cond (.tmp 84) (.seq (.region k66_r15) .ret) .skip)) (.seq (.region k66_r16) .ret))))))))
theorem k66_e : Ev P pr N k66 e σ Q = Ev P pr N (.seq (.region k66_r0) (.seq (.seq (.region k66_r1) (.cond (.tmp 14) (.seq (.region k66_r2) .ret) .skip)) (.seq (.region k66_r3) (.seq (.seq (.region k66_r4) (.cond (.tmp 30) (.region k66_r5) (.seq (.region k66_r6) (.cond (.tmp 51) (.region k66_r7) (.seq (.region k66_r8) (.cond (.tmp 72) (.region k66_r9) (.seq (.region k66_r10) .ret))))))) (.seq (.seq (.region k66_r11) (.cond (.tmp 80) (.seq (.region k66_r12) .ret) .skip)) (.seq (.region k66_r13) (.seq (.seq (.region k66_r14) (.cond (.tmp 84) (.seq (.region k66_r15) .ret) .skip)) (.seq (.region k66_r16) .ret)))))))) e σ Q := propext ⟨fun h => h, fun h => h⟩
/-- quern/quernref08.Depth -/
theorem k66_is : FnIs Try.prog prims 66 87 [ResultVar.tmp 2] k66 := FnIs.of_fn Try.func66 (by kernel_rfl) rfl
def k74_r0 : List COp := [
  ⟨some 4, .assign (.const (.bool false)), none, true⟩]
theorem k74_r0_e : Eo P pr N k74_r0 e σ Q = Eo P pr N [
  ⟨some 4, .assign (.const (.bool false)), none, true⟩] e σ Q := propext ⟨fun h => h, fun h => h⟩
def k74_r1 : List COp := [
  ⟨some 11, .move (.tmp 0), none, true⟩]
theorem k74_r1_e : Eo P pr N k74_r1 e σ Q = Eo P pr N [
  ⟨some 11, .move (.tmp 0), none, true⟩] e σ Q := propext ⟨fun h => h, fun h => h⟩
def k74_r2 : List COp := [
  ⟨some 13, .binOp .eql 9 (.tmp 11) (.const (.string { data := #[105, 110, 116] })) 9, none, true⟩,
  ⟨some 12, .assign (.tmp 13), none, true⟩]
theorem k74_r2_e : Eo P pr N k74_r2 e σ Q = Eo P pr N [
  ⟨some 13, .binOp .eql 9 (.tmp 11) (.const (.string { data := #[105, 110, 116] })) 9, none, true⟩,
  ⟨some 12, .assign (.tmp 13), none, true⟩] e σ Q := propext ⟨fun h => h, fun h => h⟩
def k74_r3 : List COp := [
  ⟨some 14, .binOp .eql 9 (.tmp 11) (.const (.string { data := #[98, 111, 111, 108] })) 9, none, true⟩,
  ⟨some 12, .assign (.tmp 14), none, true⟩]
theorem k74_r3_e : Eo P pr N k74_r3 e σ Q = Eo P pr N [
  ⟨some 14, .binOp .eql 9 (.tmp 11) (.const (.string { data := #[98, 111, 111, 108] })) 9, none, true⟩,
  ⟨some 12, .assign (.tmp 14), none, true⟩] e σ Q := propext ⟨fun h => h, fun h => h⟩
def k74_r4 : List COp := [
  ⟨some 15, .binOp .eql 9 (.tmp 11) (.const (.string { data := #[116, 101, 120, 116] })) 9, none, true⟩,
  ⟨some 12, .assign (.tmp 15), none, true⟩]
theorem k74_r4_e : Eo P pr N k74_r4 e σ Q = Eo P pr N [
  ⟨some 15, .binOp .eql 9 (.tmp 11) (.const (.string { data := #[116, 101, 120, 116] })) 9, none, true⟩,
  ⟨some 12, .assign (.tmp 15), none, true⟩] e σ Q := propext ⟨fun h => h, fun h => h⟩
def k74_r5 : List COp := [
  ⟨some 16, .move (.tmp 1), none, true⟩,
  ⟨some 17, .binOp .leq 3 (.tmp 16) (.const (.int .i64 4)) 3, none, true⟩,
  ⟨some 4, .assign (.tmp 17), none, true⟩]
theorem k74_r5_e : Eo P pr N k74_r5 e σ Q = Eo P pr N [
  ⟨some 16, .move (.tmp 1), none, true⟩,
  ⟨some 17, .binOp .leq 3 (.tmp 16) (.const (.int .i64 4)) 3, none, true⟩,
  ⟨some 4, .assign (.tmp 17), none, true⟩] e σ Q := propext ⟨fun h => h, fun h => h⟩
def k74_r6 : List COp := [
  ⟨some 18, .move (.tmp 0), none, true⟩,
  ⟨some 19, .call { callee := .builtin .len, args := #[.tmp 18], argTypes := #[9] }, none, true⟩,
  ⟨some 20, .binOp .lss 3 (.tmp 19) (.const (.int .i64 2)) 3, none, true⟩,
  ⟨some 21, .move (.tmp 20), none, true⟩,
  ⟨some 22, .move (.tmp 1), some (21, false), true⟩,
  ⟨some 23, .binOp .geq 3 (.tmp 22) (.const (.int .i64 4)) 3, some (21, false), true⟩,
  ⟨some 24, .pick (.tmp 21) (.const (.bool true)) (.tmp 23), none, true⟩]
theorem k74_r6_e : Eo P pr N k74_r6 e σ Q = Eo P pr N [
  ⟨some 18, .move (.tmp 0), none, true⟩,
  ⟨some 19, .call { callee := .builtin .len, args := #[.tmp 18], argTypes := #[9] }, none, true⟩,
  ⟨some 20, .binOp .lss 3 (.tmp 19) (.const (.int .i64 2)) 3, none, true⟩,
  ⟨some 21, .move (.tmp 20), none, true⟩,
  ⟨some 22, .move (.tmp 1), some (21, false), true⟩,
  ⟨some 23, .binOp .geq 3 (.tmp 22) (.const (.int .i64 4)) 3, some (21, false), true⟩,
  ⟨some 24, .pick (.tmp 21) (.const (.bool true)) (.tmp 23), none, true⟩] e σ Q := propext ⟨fun h => h, fun h => h⟩
def k74_r7 : List COp := [
  ⟨some 4, .assign (.const (.bool false)), none, true⟩]
theorem k74_r7_e : Eo P pr N k74_r7 e σ Q = Eo P pr N [
  ⟨some 4, .assign (.const (.bool false)), none, true⟩] e σ Q := propext ⟨fun h => h, fun h => h⟩
def k74_r8 : List COp := [
  ⟨some 26, .move (.tmp 0), none, true⟩,
  ⟨some 27, .move (.tmp 0), none, true⟩,
  ⟨some 28, .call { callee := .builtin .len, args := #[.tmp 27], argTypes := #[9] }, none, true⟩,
  ⟨some 29, .binOp .sub 3 (.tmp 28) (.const (.int .i64 1)) 3, none, true⟩,
  ⟨some 30, .slice 9 (.tmp 26) .none (some (.tmp 29)) .none, none, true⟩,
  ⟨some 31, .call { callee := .value (.func 90), args := #[.tmp 30, .const (.string { data := #[91] })], argTypes := #[9, 9] }, none, true⟩,
  ⟨some 25, .move (.tmp 31), none, true⟩,
  ⟨some 32, .extract (.tmp 25) 0, none, true⟩,
  ⟨some 33, .extract (.tmp 25) 1, none, true⟩,
  ⟨some 5, .assign (.tmp 32), none, true⟩,
  ⟨some 6, .assign (.tmp 33), none, true⟩]
theorem k74_r8_e : Eo P pr N k74_r8 e σ Q = Eo P pr N [
  ⟨some 26, .move (.tmp 0), none, true⟩,
  ⟨some 27, .move (.tmp 0), none, true⟩,
  ⟨some 28, .call { callee := .builtin .len, args := #[.tmp 27], argTypes := #[9] }, none, true⟩,
  ⟨some 29, .binOp .sub 3 (.tmp 28) (.const (.int .i64 1)) 3, none, true⟩,
  ⟨some 30, .slice 9 (.tmp 26) .none (some (.tmp 29)) .none, none, true⟩,
  ⟨some 31, .call { callee := .value (.func 90), args := #[.tmp 30, .const (.string { data := #[91] })], argTypes := #[9, 9] }, none, true⟩,
  ⟨some 25, .move (.tmp 31), none, true⟩,
  ⟨some 32, .extract (.tmp 25) 0, none, true⟩,
  ⟨some 33, .extract (.tmp 25) 1, none, true⟩,
  ⟨some 5, .assign (.tmp 32), none, true⟩,
  ⟨some 6, .assign (.tmp 33), none, true⟩] e σ Q := propext ⟨fun h => h, fun h => h⟩
def k74_r9 : List COp := [
  ⟨some 34, .move (.tmp 6), none, true⟩]
theorem k74_r9_e : Eo P pr N k74_r9 e σ Q = Eo P pr N [
  ⟨some 34, .move (.tmp 6), none, true⟩] e σ Q := propext ⟨fun h => h, fun h => h⟩
def k74_r10 : List COp := [
  ⟨some 35, .move (.tmp 0), none, true⟩,
  ⟨some 36, .move (.tmp 0), none, true⟩,
  ⟨some 37, .call { callee := .builtin .len, args := #[.tmp 36], argTypes := #[9] }, none, true⟩,
  ⟨some 38, .binOp .sub 3 (.tmp 37) (.const (.int .i64 1)) 3, none, true⟩,
  ⟨some 39, .index 9 (.tmp 35) (.tmp 38), none, true⟩,
  ⟨some 40, .binOp .eql 5 (.tmp 39) (.const (.int .u8 93)) 5, none, true⟩,
  ⟨some 41, .move (.tmp 40), none, true⟩,
  ⟨some 42, .move (.tmp 5), some (41, true), true⟩,
  ⟨some 43, .move (.tmp 1), some (41, true), true⟩,
  ⟨some 44, .binOp .add 3 (.tmp 43) (.const (.int .i64 1)) 3, some (41, true), true⟩,
  ⟨some 45, .call { callee := .value (.func 74), args := #[.tmp 42, .tmp 44], argTypes := #[9, 3] }, some (41, true), true⟩,
  ⟨some 46, .pick (.tmp 41) (.tmp 45) (.const (.bool false)), none, true⟩,
  ⟨some 4, .assign (.tmp 46), none, true⟩]
theorem k74_r10_e : Eo P pr N k74_r10 e σ Q = Eo P pr N [
  ⟨some 35, .move (.tmp 0), none, true⟩,
  ⟨some 36, .move (.tmp 0), none, true⟩,
  ⟨some 37, .call { callee := .builtin .len, args := #[.tmp 36], argTypes := #[9] }, none, true⟩,
  ⟨some 38, .binOp .sub 3 (.tmp 37) (.const (.int .i64 1)) 3, none, true⟩,
  ⟨some 39, .index 9 (.tmp 35) (.tmp 38), none, true⟩,
  ⟨some 40, .binOp .eql 5 (.tmp 39) (.const (.int .u8 93)) 5, none, true⟩,
  ⟨some 41, .move (.tmp 40), none, true⟩,
  ⟨some 42, .move (.tmp 5), some (41, true), true⟩,
  ⟨some 43, .move (.tmp 1), some (41, true), true⟩,
  ⟨some 44, .binOp .add 3 (.tmp 43) (.const (.int .i64 1)) 3, some (41, true), true⟩,
  ⟨some 45, .call { callee := .value (.func 74), args := #[.tmp 42, .tmp 44], argTypes := #[9, 3] }, some (41, true), true⟩,
  ⟨some 46, .pick (.tmp 41) (.tmp 45) (.const (.bool false)), none, true⟩,
  ⟨some 4, .assign (.tmp 46), none, true⟩] e σ Q := propext ⟨fun h => h, fun h => h⟩
def k74_r11 : List COp := [
  ⟨some 47, .buildSlice 98 2 #[(0, .const (.string { data := #[123, 105, 110, 116, 58] })), (1, .const (.string { data := #[123, 116, 101, 120, 116, 58] }))], none, true⟩,
  ⟨some 48, .call { callee := .builtin .len, args := #[.tmp 47], argTypes := #[98] }, none, true⟩,
  ⟨some 49, .move (.const (.int .i64 0)), none, true⟩]
theorem k74_r11_e : Eo P pr N k74_r11 e σ Q = Eo P pr N [
  ⟨some 47, .buildSlice 98 2 #[(0, .const (.string { data := #[123, 105, 110, 116, 58] })), (1, .const (.string { data := #[123, 116, 101, 120, 116, 58] }))], none, true⟩,
  ⟨some 48, .call { callee := .builtin .len, args := #[.tmp 47], argTypes := #[98] }, none, true⟩,
  ⟨some 49, .move (.const (.int .i64 0)), none, true⟩] e σ Q := propext ⟨fun h => h, fun h => h⟩
def k74_r12 : List COp := [
  ⟨some 50, .binOp .lss 3 (.tmp 49) (.tmp 48) 3, none, true⟩]
theorem k74_r12_e : Eo P pr N k74_r12 e σ Q = Eo P pr N [
  ⟨some 50, .binOp .lss 3 (.tmp 49) (.tmp 48) 3, none, true⟩] e σ Q := propext ⟨fun h => h, fun h => h⟩
def k74_r13 : List COp := [
  ⟨some 51, .indexAddr 98 (.tmp 47) (.tmp 49), none, true⟩,
  ⟨some 52, .load 9 (.tmp 51), none, true⟩,
  ⟨some 8, .assign (.tmp 52), none, true⟩]
theorem k74_r13_e : Eo P pr N k74_r13 e σ Q = Eo P pr N [
  ⟨some 51, .indexAddr 98 (.tmp 47) (.tmp 49), none, true⟩,
  ⟨some 52, .load 9 (.tmp 51), none, true⟩,
  ⟨some 8, .assign (.tmp 52), none, true⟩] e σ Q := propext ⟨fun h => h, fun h => h⟩
def k74_r14 : List COp := [
  ⟨some 54, .move (.tmp 0), none, true⟩,
  ⟨some 55, .move (.tmp 0), none, true⟩,
  ⟨some 56, .call { callee := .builtin .len, args := #[.tmp 55], argTypes := #[9] }, none, true⟩,
  ⟨some 57, .binOp .sub 3 (.tmp 56) (.const (.int .i64 1)) 3, none, true⟩,
  ⟨some 58, .slice 9 (.tmp 54) .none (some (.tmp 57)) .none, none, true⟩,
  ⟨some 59, .move (.tmp 8), none, true⟩,
  ⟨some 60, .call { callee := .value (.func 90), args := #[.tmp 58, .tmp 59], argTypes := #[9, 9] }, none, true⟩,
  ⟨some 53, .move (.tmp 60), none, true⟩,
  ⟨some 61, .extract (.tmp 53) 0, none, true⟩,
  ⟨some 62, .extract (.tmp 53) 1, none, true⟩,
  ⟨some 9, .assign (.tmp 61), none, true⟩,
  ⟨some 10, .assign (.tmp 62), none, true⟩]
theorem k74_r14_e : Eo P pr N k74_r14 e σ Q = Eo P pr N [
  ⟨some 54, .move (.tmp 0), none, true⟩,
  ⟨some 55, .move (.tmp 0), none, true⟩,
  ⟨some 56, .call { callee := .builtin .len, args := #[.tmp 55], argTypes := #[9] }, none, true⟩,
  ⟨some 57, .binOp .sub 3 (.tmp 56) (.const (.int .i64 1)) 3, none, true⟩,
  ⟨some 58, .slice 9 (.tmp 54) .none (some (.tmp 57)) .none, none, true⟩,
  ⟨some 59, .move (.tmp 8), none, true⟩,
  ⟨some 60, .call { callee := .value (.func 90), args := #[.tmp 58, .tmp 59], argTypes := #[9, 9] }, none, true⟩,
  ⟨some 53, .move (.tmp 60), none, true⟩,
  ⟨some 61, .extract (.tmp 53) 0, none, true⟩,
  ⟨some 62, .extract (.tmp 53) 1, none, true⟩,
  ⟨some 9, .assign (.tmp 61), none, true⟩,
  ⟨some 10, .assign (.tmp 62), none, true⟩] e σ Q := propext ⟨fun h => h, fun h => h⟩
def k74_r15 : List COp := [
  ⟨some 63, .move (.tmp 10), none, true⟩]
theorem k74_r15_e : Eo P pr N k74_r15 e σ Q = Eo P pr N [
  ⟨some 63, .move (.tmp 10), none, true⟩] e σ Q := propext ⟨fun h => h, fun h => h⟩
def k74_r16 : List COp := [
  ⟨some 64, .move (.tmp 0), none, true⟩,
  ⟨some 65, .move (.tmp 0), none, true⟩,
  ⟨some 66, .call { callee := .builtin .len, args := #[.tmp 65], argTypes := #[9] }, none, true⟩,
  ⟨some 67, .binOp .sub 3 (.tmp 66) (.const (.int .i64 1)) 3, none, true⟩,
  ⟨some 68, .index 9 (.tmp 64) (.tmp 67), none, true⟩,
  ⟨some 69, .binOp .eql 5 (.tmp 68) (.const (.int .u8 125)) 5, none, true⟩,
  ⟨some 70, .move (.tmp 69), none, true⟩,
  ⟨some 71, .move (.tmp 9), some (70, true), true⟩,
  ⟨some 72, .move (.tmp 1), some (70, true), true⟩,
  ⟨some 73, .binOp .add 3 (.tmp 72) (.const (.int .i64 1)) 3, some (70, true), true⟩,
  ⟨some 74, .call { callee := .value (.func 74), args := #[.tmp 71, .tmp 73], argTypes := #[9, 3] }, some (70, true), true⟩,
  ⟨some 75, .pick (.tmp 70) (.tmp 74) (.const (.bool false)), none, true⟩,
  ⟨some 4, .assign (.tmp 75), none, true⟩]
theorem k74_r16_e : Eo P pr N k74_r16 e σ Q = Eo P pr N [
  ⟨some 64, .move (.tmp 0), none, true⟩,
  ⟨some 65, .move (.tmp 0), none, true⟩,
  ⟨some 66, .call { callee := .builtin .len, args := #[.tmp 65], argTypes := #[9] }, none, true⟩,
  ⟨some 67, .binOp .sub 3 (.tmp 66) (.const (.int .i64 1)) 3, none, true⟩,
  ⟨some 68, .index 9 (.tmp 64) (.tmp 67), none, true⟩,
  ⟨some 69, .binOp .eql 5 (.tmp 68) (.const (.int .u8 125)) 5, none, true⟩,
  ⟨some 70, .move (.tmp 69), none, true⟩,
  ⟨some 71, .move (.tmp 9), some (70, true), true⟩,
  ⟨some 72, .move (.tmp 1), some (70, true), true⟩,
  ⟨some 73, .binOp .add 3 (.tmp 72) (.const (.int .i64 1)) 3, some (70, true), true⟩,
  ⟨some 74, .call { callee := .value (.func 74), args := #[.tmp 71, .tmp 73], argTypes := #[9, 3] }, some (70, true), true⟩,
  ⟨some 75, .pick (.tmp 70) (.tmp 74) (.const (.bool false)), none, true⟩,
  ⟨some 4, .assign (.tmp 75), none, true⟩] e σ Q := propext ⟨fun h => h, fun h => h⟩
def k74_r17 : List COp := [
  ⟨some 76, .binOp .add 3 (.tmp 49) (.const (.int .i64 1)) 3, none, true⟩,
  ⟨some 49, .move (.tmp 76), none, true⟩]
theorem k74_r17_e : Eo P pr N k74_r17 e σ Q = Eo P pr N [
  ⟨some 76, .binOp .add 3 (.tmp 49) (.const (.int .i64 1)) 3, none, true⟩,
  ⟨some 49, .move (.tmp 76), none, true⟩] e σ Q := propext ⟨fun h => h, fun h => h⟩
def k74_l0 : CC := (.seq (.region k74_r12) (.seq (.cond (.tmp 50) .skip (.exit 1)) (.seq (.block 2 (.seq (.region k74_r13) (.seq (.region k74_r14) (.seq (.region k74_r15) (.cond (.tmp 63) (.seq (.region k74_r16) .ret) .skip))))) (.region k74_r17))))
theorem k74_l0_e : Ev P pr N k74_l0 e σ Q = Ev P pr N (.seq (.region k74_r12) (.seq (.cond (.tmp 50) .skip (.exit 1)) (.seq (.block 2 (.seq (.region k74_r13) (.seq (.region k74_r14) (.seq (.region k74_r15) (.cond (.tmp 63) (.seq (.region k74_r16) .ret) .skip))))) (.region k74_r17)))) e σ Q := propext ⟨fun h => h, fun h => h⟩
def k74_r18 : List COp := [
  ⟨some 4, .assign (.const (.bool false)), none, true⟩]
theorem k74_r18_e : Eo P pr N k74_r18 e σ Q = Eo P pr N [
  ⟨some 4, .assign (.const (.bool false)), none, true⟩] e σ Q := propext ⟨fun h => h, fun h => h⟩
def k74 : CC := (.seq (.region k74_r0) (.seq (.seq (.region k74_r1) (.block 0 (.seq (.seq (.region k74_r2) (.cond (.tmp 12) .skip (.seq (.region k74_r3) (.cond (.tmp 12) .skip (.region k74_r4))))) (.cond (.tmp 12) (.seq (.region k74_r5) .ret) .skip)))) (.seq (.seq (.region k74_r6) (.cond (.tmp 24) (.seq (.region k74_r7) .ret) .skip)) (.seq (.seq (.region k74_r8) (.seq (.region k74_r9) (.cond (.tmp 34) (.seq (.region k74_r10) .ret) .skip))) (.seq (.seq (.region k74_r11) (.block 1 (.loop k74_l0))) (.seq (.region k74_r18) .ret))))))
theorem k74_e : Ev P pr N k74 e σ Q = Ev P pr N (.seq (.region k74_r0) (.seq (.seq (.region k74_r1) (.block 0 (.seq (.seq (.region k74_r2) (.cond (.tmp 12) .skip (.seq (.region k74_r3) (.cond (.tmp 12) .skip (.region k74_r4))))) (.cond (.tmp 12) (.seq (.region k74_r5) .ret) .skip)))) (.seq (.seq (.region k74_r6) (.cond (.tmp 24) (.seq (.region k74_r7) .ret) .skip)) (.seq (.seq (.region k74_r8) (.seq (.region k74_r9) (.cond (.tmp 34) (.seq (.region k74_r10) .ret) .skip))) (.seq (.seq (.region k74_r11) (.block 1 (.loop k74_l0))) (.seq (.region k74_r18) .ret)))))) e σ Q := propext ⟨fun h => h, fun h => h⟩
/-- quern/show.kind -/
theorem k74_is : FnIs Try.prog prims 74 77 [ResultVar.tmp 4] k74 := FnIs.of_fn Try.func74 (by kernel_rfl) rfl
def k75_r0 : List COp := [
  ⟨some 4, .assign (.const (.string { data := #[] })), none, true⟩,
  ⟨some 5, .assign (.const (.string { data := #[] })), none, true⟩,
  ⟨some 6, .assign (.const (.bool false)), none, true⟩]
theorem k75_r0_e : Eo P pr N k75_r0 e σ Q = Eo P pr N [
  ⟨some 4, .assign (.const (.string { data := #[] })), none, true⟩,
  ⟨some 5, .assign (.const (.string { data := #[] })), none, true⟩,
  ⟨some 6, .assign (.const (.bool false)), none, true⟩] e σ Q := propext ⟨fun h => h, fun h => h⟩
def k75_r1 : List COp := [
  ⟨some 8, .move (.tmp 0), none, true⟩,
  ⟨some 9, .move (.tmp 1), none, true⟩,
  ⟨some 10, .call { callee := .value (.func 91), args := #[.tmp 8, .tmp 9], argTypes := #[9, 9] }, none, true⟩,
  ⟨some 7, .assign (.tmp 10), none, true⟩]
theorem k75_r1_e : Eo P pr N k75_r1 e σ Q = Eo P pr N [
  ⟨some 8, .move (.tmp 0), none, true⟩,
  ⟨some 9, .move (.tmp 1), none, true⟩,
  ⟨some 10, .call { callee := .value (.func 91), args := #[.tmp 8, .tmp 9], argTypes := #[9, 9] }, none, true⟩,
  ⟨some 7, .assign (.tmp 10), none, true⟩] e σ Q := propext ⟨fun h => h, fun h => h⟩
def k75_r2 : List COp := [
  ⟨some 11, .move (.tmp 7), none, true⟩,
  ⟨some 12, .binOp .geq 3 (.tmp 11) (.const (.int .i64 0)) 3, none, true⟩]
theorem k75_r2_e : Eo P pr N k75_r2 e σ Q = Eo P pr N [
  ⟨some 11, .move (.tmp 7), none, true⟩,
  ⟨some 12, .binOp .geq 3 (.tmp 11) (.const (.int .i64 0)) 3, none, true⟩] e σ Q := propext ⟨fun h => h, fun h => h⟩
def k75_r3 : List COp := [
  ⟨some 13, .move (.tmp 0), none, false⟩,
  ⟨some 14, .move (.tmp 7), none, false⟩,
  ⟨some 15, .slice 9 (.tmp 13) .none (some (.tmp 14)) .none, none, false⟩,
  ⟨some 16, .move (.tmp 0), none, false⟩,
  ⟨some 17, .move (.tmp 7), none, false⟩,
  ⟨some 18, .move (.tmp 1), none, false⟩,
  ⟨some 19, .call { callee := .builtin .len, args := #[.tmp 18], argTypes := #[9] }, none, false⟩,
  ⟨some 20, .binOp .add 3 (.tmp 17) (.tmp 19) 3, none, false⟩,
  ⟨some 21, .slice 9 (.tmp 16) (some (.tmp 20)) .none .none, none, false⟩,
  ⟨some 4, .assign (.tmp 15), none, true⟩,
  ⟨some 5, .assign (.tmp 21), none, true⟩,
  ⟨some 6, .assign (.const (.bool true)), none, true⟩]
theorem k75_r3_e : Eo P pr N k75_r3 e σ Q = Eo P pr N [
  ⟨some 13, .move (.tmp 0), none, false⟩,
  ⟨some 14, .move (.tmp 7), none, false⟩,
  ⟨some 15, .slice 9 (.tmp 13) .none (some (.tmp 14)) .none, none, false⟩,
  ⟨some 16, .move (.tmp 0), none, false⟩,
  ⟨some 17, .move (.tmp 7), none, false⟩,
  ⟨some 18, .move (.tmp 1), none, false⟩,
  ⟨some 19, .call { callee := .builtin .len, args := #[.tmp 18], argTypes := #[9] }, none, false⟩,
  ⟨some 20, .binOp .add 3 (.tmp 17) (.tmp 19) 3, none, false⟩,
  ⟨some 21, .slice 9 (.tmp 16) (some (.tmp 20)) .none .none, none, false⟩,
  ⟨some 4, .assign (.tmp 15), none, true⟩,
  ⟨some 5, .assign (.tmp 21), none, true⟩,
  ⟨some 6, .assign (.const (.bool true)), none, true⟩] e σ Q := propext ⟨fun h => h, fun h => h⟩
def k75_r4 : List COp := [
  ⟨some 22, .move (.tmp 0), none, true⟩,
  ⟨some 4, .assign (.tmp 22), none, true⟩,
  ⟨some 5, .assign (.const (.string { data := #[] })), none, true⟩,
  ⟨some 6, .assign (.const (.bool false)), none, true⟩]
theorem k75_r4_e : Eo P pr N k75_r4 e σ Q = Eo P pr N [
  ⟨some 22, .move (.tmp 0), none, true⟩,
  ⟨some 4, .assign (.tmp 22), none, true⟩,
  ⟨some 5, .assign (.const (.string { data := #[] })), none, true⟩,
  ⟨some 6, .assign (.const (.bool false)), none, true⟩] e σ Q := propext ⟨fun h => h, fun h => h⟩
def k75 : CC := (.seq (.region k75_r0) (.seq (.seq (.region k75_r1) (.seq (.region k75_r2) (.cond (.tmp 12) (.seq (.region k75_r3) .ret) .skip))) (.seq (.region k75_r4) .ret)))
theorem k75_e : Ev P pr N k75 e σ Q = Ev P pr N (.seq (.region k75_r0) (.seq (.seq (.region k75_r1) (.seq (.region k75_r2) (.cond (.tmp 12) (.seq (.region k75_r3) .ret) .skip))) (.seq (.region k75_r4) .ret))) e σ Q := propext ⟨fun h => h, fun h => h⟩
/-- internal/stringslite.Cut -/
theorem k75_is : FnIs Try.prog prims 75 23 [ResultVar.tmp 4, ResultVar.tmp 5, ResultVar.tmp 6] k75 := FnIs.of_fn Try.func75 (by kernel_rfl) rfl
def k76_r0 : List COp := [
  ⟨some 4, .assign (.const (.bool false)), none, true⟩]
theorem k76_r0_e : Eo P pr N k76_r0 e σ Q = Eo P pr N [
  ⟨some 4, .assign (.const (.bool false)), none, true⟩] e σ Q := propext ⟨fun h => h, fun h => h⟩
def k76_r1 : List COp := [
  ⟨some 5, .move (.tmp 0), none, true⟩,
  ⟨some 6, .move (.tmp 1), none, true⟩,
  ⟨some 7, .call { callee := .value (.func 92), args := #[.tmp 5, .tmp 6], argTypes := #[22, 26] }, none, true⟩,
  ⟨some 8, .binOp .geq 3 (.tmp 7) (.const (.int .i64 0)) 3, none, true⟩,
  ⟨some 4, .assign (.tmp 8), none, true⟩]
theorem k76_r1_e : Eo P pr N k76_r1 e σ Q = Eo P pr N [
  ⟨some 5, .move (.tmp 0), none, true⟩,
  ⟨some 6, .move (.tmp 1), none, true⟩,
  ⟨some 7, .call { callee := .value (.func 92), args := #[.tmp 5, .tmp 6], argTypes := #[22, 26] }, none, true⟩,
  ⟨some 8, .binOp .geq 3 (.tmp 7) (.const (.int .i64 0)) 3, none, true⟩,
  ⟨some 4, .assign (.tmp 8), none, true⟩] e σ Q := propext ⟨fun h => h, fun h => h⟩
def k76 : CC := (.seq (.region k76_r0) (.seq (.region k76_r1) .ret))
theorem k76_e : Ev P pr N k76 e σ Q = Ev P pr N (.seq (.region k76_r0) (.seq (.region k76_r1) .ret)) e σ Q := propext ⟨fun h => h, fun h => h⟩
/-- slices.ContainsFunc[[]quern/api.Value,quern/api.Value] -/
theorem k76_is : FnIs Try.prog prims 76 9 [ResultVar.tmp 4] k76 := FnIs.of_fn Try.func76 (by kernel_rfl) rfl
def k77_r0 : List COp := [
  ⟨some 2, .box 24 (.tmp 0), none, true⟩,
  ⟨some 3, .assign (.const (.bool false)), none, true⟩]
theorem k77_r0_e : Eo P pr N k77_r0 e σ Q = Eo P pr N [
  ⟨some 2, .box 24 (.tmp 0), none, true⟩,
  ⟨some 3, .assign (.const (.bool false)), none, true⟩] e σ Q := propext ⟨fun h => h, fun h => h⟩
def k77_r1 : List COp := [
  ⟨some 4, .load 24 (.tmp 2), none, true⟩,
  ⟨some 5, .load 9 (.tmp 1), none, true⟩,
  ⟨some 6, .call { callee := .value (.func 54), args := #[.tmp 4, .tmp 5], argTypes := #[24, 9] }, none, true⟩,
  ⟨some 7, .unOp .not 4 (.tmp 6), none, true⟩,
  ⟨some 3, .assign (.tmp 7), none, true⟩]
theorem k77_r1_e : Eo P pr N k77_r1 e σ Q = Eo P pr N [
  ⟨some 4, .load 24 (.tmp 2), none, true⟩,
  ⟨some 5, .load 9 (.tmp 1), none, true⟩,
  ⟨some 6, .call { callee := .value (.func 54), args := #[.tmp 4, .tmp 5], argTypes := #[24, 9] }, none, true⟩,
  ⟨some 7, .unOp .not 4 (.tmp 6), none, true⟩,
  ⟨some 3, .assign (.tmp 7), none, true⟩] e σ Q := propext ⟨fun h => h, fun h => h⟩
def k77 : CC := (.seq (.region k77_r0) (.seq (.region k77_r1) .ret))
theorem k77_e : Ev P pr N k77 e σ Q = Ev P pr N (.seq (.region k77_r0) (.seq (.region k77_r1) .ret)) e σ Q := propext ⟨fun h => h, fun h => h⟩
/-- quern/value.fits$1 -/
theorem k77_is : FnIs Try.prog prims 77 8 [ResultVar.tmp 3] k77 := FnIs.of_fn Try.func77 (by kernel_rfl) rfl
def k78_r0 : List COp := [
  ⟨some 2, .assign (.const (.bool false)), none, true⟩]
theorem k78_r0_e : Eo P pr N k78_r0 e σ Q = Eo P pr N [
  ⟨some 2, .assign (.const (.bool false)), none, true⟩] e σ Q := propext ⟨fun h => h, fun h => h⟩
def k78_r1 : List COp := [
  ⟨some 3, .move (.tmp 0), none, true⟩,
  ⟨some 4, .move (.tmp 0), none, true⟩,
  ⟨some 5, .binOp .neq 3 (.tmp 3) (.tmp 4) 3, none, true⟩,
  ⟨some 2, .assign (.tmp 5), none, true⟩]
theorem k78_r1_e : Eo P pr N k78_r1 e σ Q = Eo P pr N [
  ⟨some 3, .move (.tmp 0), none, true⟩,
  ⟨some 4, .move (.tmp 0), none, true⟩,
  ⟨some 5, .binOp .neq 3 (.tmp 3) (.tmp 4) 3, none, true⟩,
  ⟨some 2, .assign (.tmp 5), none, true⟩] e σ Q := propext ⟨fun h => h, fun h => h⟩
def k78 : CC := (.seq (.region k78_r0) (.seq (.region k78_r1) .ret))
theorem k78_e : Ev P pr N k78 e σ Q = Ev P pr N (.seq (.region k78_r0) (.seq (.region k78_r1) .ret)) e σ Q := propext ⟨fun h => h, fun h => h⟩
/-- cmp.isNaN[int] -/
theorem k78_is : FnIs Try.prog prims 78 6 [ResultVar.tmp 2] k78 := FnIs.of_fn Try.func78 (by kernel_rfl) rfl
def k80_r0 : List COp := [
  ⟨some 4, .assign (.const (.slice .none 0 0)), none, true⟩]
theorem k80_r0_e : Eo P pr N k80_r0 e σ Q = Eo P pr N [
  ⟨some 4, .assign (.const (.slice .none 0 0)), none, true⟩] e σ Q := propext ⟨fun h => h, fun h => h⟩
def k80_r1 : List COp := [
  ⟨some 8, .move (.tmp 0), none, true⟩,
  ⟨some 9, .call { callee := .builtin .len, args := #[.tmp 8], argTypes := #[44] }, none, true⟩,
  ⟨some 10, .move (.tmp 1), none, true⟩,
  ⟨some 11, .call { callee := .builtin .len, args := #[.tmp 10], argTypes := #[86] }, none, true⟩,
  ⟨some 12, .binOp .mul 3 (.const (.int .i64 2)) (.tmp 11) 3, none, true⟩,
  ⟨some 13, .binOp .add 3 (.tmp 9) (.tmp 12) 3, none, true⟩,
  ⟨some 14, .makeSlice 44 (.const (.int .i64 0)) (.tmp 13), none, true⟩,
  ⟨some 15, .move (.tmp 0), none, true⟩,
  ⟨some 16, .call { callee := .builtin .append, args := #[.tmp 14, .tmp 15], argTypes := #[44, 44] }, none, true⟩,
  ⟨some 5, .assign (.tmp 16), none, true⟩]
theorem k80_r1_e : Eo P pr N k80_r1 e σ Q = Eo P pr N [
  ⟨some 8, .move (.tmp 0), none, true⟩,
  ⟨some 9, .call { callee := .builtin .len, args := #[.tmp 8], argTypes := #[44] }, none, true⟩,
  ⟨some 10, .move (.tmp 1), none, true⟩,
  ⟨some 11, .call { callee := .builtin .len, args := #[.tmp 10], argTypes := #[86] }, none, true⟩,
  ⟨some 12, .binOp .mul 3 (.const (.int .i64 2)) (.tmp 11) 3, none, true⟩,
  ⟨some 13, .binOp .add 3 (.tmp 9) (.tmp 12) 3, none, true⟩,
  ⟨some 14, .makeSlice 44 (.const (.int .i64 0)) (.tmp 13), none, true⟩,
  ⟨some 15, .move (.tmp 0), none, true⟩,
  ⟨some 16, .call { callee := .builtin .append, args := #[.tmp 14, .tmp 15], argTypes := #[44, 44] }, none, true⟩,
  ⟨some 5, .assign (.tmp 16), none, true⟩] e σ Q := propext ⟨fun h => h, fun h => h⟩
def k80_r2 : List COp := [
  ⟨some 17, .move (.tmp 1), none, true⟩,
  ⟨some 18, .call { callee := .builtin .len, args := #[.tmp 17], argTypes := #[86] }, none, true⟩,
  ⟨some 19, .move (.const (.int .i64 0)), none, true⟩]
theorem k80_r2_e : Eo P pr N k80_r2 e σ Q = Eo P pr N [
  ⟨some 17, .move (.tmp 1), none, true⟩,
  ⟨some 18, .call { callee := .builtin .len, args := #[.tmp 17], argTypes := #[86] }, none, true⟩,
  ⟨some 19, .move (.const (.int .i64 0)), none, true⟩] e σ Q := propext ⟨fun h => h, fun h => h⟩
def k80_r3 : List COp := [
  ⟨some 20, .binOp .lss 3 (.tmp 19) (.tmp 18) 3, none, true⟩]
theorem k80_r3_e : Eo P pr N k80_r3 e σ Q = Eo P pr N [
  ⟨some 20, .binOp .lss 3 (.tmp 19) (.tmp 18) 3, none, true⟩] e σ Q := propext ⟨fun h => h, fun h => h⟩
def k80_r4 : List COp := [
  ⟨some 21, .indexAddr 86 (.tmp 17) (.tmp 19), none, true⟩,
  ⟨some 22, .load 3 (.tmp 21), none, true⟩,
  ⟨some 7, .assign (.tmp 22), none, true⟩]
theorem k80_r4_e : Eo P pr N k80_r4 e σ Q = Eo P pr N [
  ⟨some 21, .indexAddr 86 (.tmp 17) (.tmp 19), none, true⟩,
  ⟨some 22, .load 3 (.tmp 21), none, true⟩,
  ⟨some 7, .assign (.tmp 22), none, true⟩] e σ Q := propext ⟨fun h => h, fun h => h⟩
def k80_r5 : List COp := [
  ⟨some 23, .move (.tmp 7), none, true⟩,
  ⟨some 24, .call { callee := .builtin .max, args := #[.tmp 23, .const (.int .i64 0)], argTypes := #[3, 3] }, none, true⟩,
  ⟨some 7, .assign (.tmp 24), none, true⟩]
theorem k80_r5_e : Eo P pr N k80_r5 e σ Q = Eo P pr N [
  ⟨some 23, .move (.tmp 7), none, true⟩,
  ⟨some 24, .call { callee := .builtin .max, args := #[.tmp 23, .const (.int .i64 0)], argTypes := #[3, 3] }, none, true⟩,
  ⟨some 7, .assign (.tmp 24), none, true⟩] e σ Q := propext ⟨fun h => h, fun h => h⟩
def k80_r6 : List COp := [
  ⟨some 25, .move (.tmp 7), none, true⟩,
  ⟨some 26, .binOp .gtr 3 (.tmp 25) (.const (.int .i64 127)) 3, none, true⟩]
theorem k80_r6_e : Eo P pr N k80_r6 e σ Q = Eo P pr N [
  ⟨some 25, .move (.tmp 7), none, true⟩,
  ⟨some 26, .binOp .gtr 3 (.tmp 25) (.const (.int .i64 127)) 3, none, true⟩] e σ Q := propext ⟨fun h => h, fun h => h⟩
def k80_r8 : List COp := [
  ⟨some 29, .move (.tmp 5), none, true⟩,
  ⟨some 30, .move (.tmp 7), none, true⟩,
  ⟨some 31, .binOp .and 3 (.tmp 30) (.const (.int .i64 127)) 3, none, true⟩,
  ⟨some 32, .binOp .or 3 (.tmp 31) (.const (.int .i64 128)) 3, none, true⟩,
  ⟨some 33, .convert 3 5 (.tmp 32), none, true⟩,
  ⟨some 34, .buildSlice 44 1 #[(0, .tmp 33)], none, true⟩,
  ⟨some 35, .call { callee := .builtin .append, args := #[.tmp 29, .tmp 34], argTypes := #[44, 44] }, none, true⟩,
  ⟨some 5, .assign (.tmp 35), none, true⟩]
theorem k80_r8_e : Eo P pr N k80_r8 e σ Q = Eo P pr N [
  ⟨some 29, .move (.tmp 5), none, true⟩,
  ⟨some 30, .move (.tmp 7), none, true⟩,
  ⟨some 31, .binOp .and 3 (.tmp 30) (.const (.int .i64 127)) 3, none, true⟩,
  ⟨some 32, .binOp .or 3 (.tmp 31) (.const (.int .i64 128)) 3, none, true⟩,
  ⟨some 33, .convert 3 5 (.tmp 32), none, true⟩,
  ⟨some 34, .buildSlice 44 1 #[(0, .tmp 33)], none, true⟩,
  ⟨some 35, .call { callee := .builtin .append, args := #[.tmp 29, .tmp 34], argTypes := #[44, 44] }, none, true⟩,
  ⟨some 5, .assign (.tmp 35), none, true⟩] e σ Q := propext ⟨fun h => h, fun h => h⟩
def k80_r7 : List COp := [
  ⟨some 27, .move (.tmp 7), none, true⟩,
  ⟨some 28, .binOp .shr 3 (.tmp 27) (.const (.int .u64 7)) 100, none, true⟩,
  ⟨some 7, .assign (.tmp 28), none, true⟩]
theorem k80_r7_e : Eo P pr N k80_r7 e σ Q = Eo P pr N [
  ⟨some 27, .move (.tmp 7), none, true⟩,
  ⟨some 28, .binOp .shr 3 (.tmp 27) (.const (.int .u64 7)) 100, none, true⟩,
  ⟨some 7, .assign (.tmp 28), none, true⟩] e σ Q := propext ⟨fun h => h, fun h => h⟩
def k80_l1 : CC := (.seq (.seq (.region k80_r6) (.cond (.tmp 26) .skip (.exit 2))) (.seq (.block 3 (.region k80_r8)) (.region k80_r7)))
theorem k80_l1_e : Ev P pr N k80_l1 e σ Q = Ev P pr N (.seq (.seq (.region k80_r6) (.cond (.tmp 26) .skip (.exit 2))) (.seq (.block 3 (.region k80_r8)) (.region k80_r7))) e σ Q := propext ⟨fun h => h, fun h => h⟩
def k80_r9 : List COp := [
  ⟨some 36, .move (.tmp 5), none, true⟩,
  ⟨some 37, .move (.tmp 7), none, true⟩,
  ⟨some 38, .convert 3 5 (.tmp 37), none, true⟩,
  ⟨some 39, .buildSlice 44 1 #[(0, .tmp 38)], none, true⟩,
  ⟨some 40, .call { callee := .builtin .append, args := #[.tmp 36, .tmp 39], argTypes := #[44, 44] }, none, true⟩,
  ⟨some 5, .assign (.tmp 40), none, true⟩]
theorem k80_r9_e : Eo P pr N k80_r9 e σ Q = Eo P pr N [
  ⟨some 36, .move (.tmp 5), none, true⟩,
  ⟨some 37, .move (.tmp 7), none, true⟩,
  ⟨some 38, .convert 3 5 (.tmp 37), none, true⟩,
  ⟨some 39, .buildSlice 44 1 #[(0, .tmp 38)], none, true⟩,
  ⟨some 40, .call { callee := .builtin .append, args := #[.tmp 36, .tmp 39], argTypes := #[44, 44] }, none, true⟩,
  ⟨some 5, .assign (.tmp 40), none, true⟩] e σ Q := propext ⟨fun h => h, fun h => h⟩
def k80_r10 : List COp := [
  ⟨some 41, .binOp .add 3 (.tmp 19) (.const (.int .i64 1)) 3, none, true⟩,
  ⟨some 19, .move (.tmp 41), none, true⟩]
theorem k80_r10_e : Eo P pr N k80_r10 e σ Q = Eo P pr N [
  ⟨some 41, .binOp .add 3 (.tmp 19) (.const (.int .i64 1)) 3, none, true⟩,
  ⟨some 19, .move (.tmp 41), none, true⟩] e σ Q := propext ⟨fun h => h, fun h => h⟩
def k80_l0 : CC := (.seq (.region k80_r3) (.seq (.cond (.tmp 20) .skip (.exit 0)) (.seq (.block 1 (.seq (.region k80_r4) (.seq (.region k80_r5) (.seq (.block 2 (.loop k80_l1)) (.region k80_r9))))) (.region k80_r10))))
theorem k80_l0_e : Ev P pr N k80_l0 e σ Q = Ev P pr N (.seq (.region k80_r3) (.seq (.cond (.tmp 20) .skip (.exit 0)) (.seq (.block 1 (.seq (.region k80_r4) (.seq (.region k80_r5) (.seq (.block 2 (.loop k80_l1)) (.region k80_r9))))) (.region k80_r10)))) e σ Q := propext ⟨fun h => h, fun h => h⟩
def k80_r11 : List COp := [
  ⟨some 42, .move (.tmp 5), none, true⟩,
  ⟨some 4, .assign (.tmp 42), none, true⟩]
theorem k80_r11_e : Eo P pr N k80_r11 e σ Q = Eo P pr N [
  ⟨some 42, .move (.tmp 5), none, true⟩,
  ⟨some 4, .assign (.tmp 42), none, true⟩] e σ Q := propext ⟨fun h => h, fun h => h⟩
def k80 : CC := (.seq (.region k80_r0) (.seq (.region k80_r1) (.seq (.seq (.region k80_r2) (.block 0 (.loop k80_l0))) (.seq (.region k80_r11) .ret))))
theorem k80_e : Ev P pr N k80 e σ Q = Ev P pr N (.seq (.region k80_r0) (.seq (.region k80_r1) (.seq (.seq (.region k80_r2) (.block 0 (.loop k80_l0))) (.seq (.region k80_r11) .ret)))) e σ Q := propext ⟨fun h => h, fun h => h⟩
/-- quern/pack.Put -/
theorem k80_is : FnIs Try.prog prims 80 43 [ResultVar.tmp 4] k80 := FnIs.of_fn Try.func80 (by kernel_rfl) rfl
def k81_r0 : List COp := [
  ⟨some 2, .assign (.const (.slice .none 0 0)), none, true⟩]
theorem k81_r0_e : Eo P pr N k81_r0 e σ Q = Eo P pr N [
  ⟨some 2, .assign (.const (.slice .none 0 0)), none, true⟩] e σ Q := propext ⟨fun h => h, fun h => h⟩
def k81_r1 : List COp := [
  ⟨some 3, .move (.tmp 0), none, true⟩,
  ⟨some 4, .binOp .geq 3 (.tmp 3) (.const (.int .i64 0)) 3, none, true⟩]
theorem k81_r1_e : Eo P pr N k81_r1 e σ Q = Eo P pr N [
  ⟨some 3, .move (.tmp 0), none, true⟩,
  ⟨some 4, .binOp .geq 3 (.tmp 3) (.const (.int .i64 0)) 3, none, true⟩] e σ Q := propext ⟨fun h => h, fun h => h⟩
def k81_r2 : List COp := [
  ⟨some 5, .move (.tmp 0), none, true⟩,
  ⟨some 6, .buildSlice 86 2 #[(0, .const (.int .i64 0)), (1, .tmp 5)], none, true⟩,
  ⟨some 2, .assign (.tmp 6), none, true⟩]
theorem k81_r2_e : Eo P pr N k81_r2 e σ Q = Eo P pr N [
  ⟨some 5, .move (.tmp 0), none, true⟩,
  ⟨some 6, .buildSlice 86 2 #[(0, .const (.int .i64 0)), (1, .tmp 5)], none, true⟩,
  ⟨some 2, .assign (.tmp 6), none, true⟩] e σ Q := propext ⟨fun h => h, fun h => h⟩
def k81_r3 : List COp := [
  ⟨some 7, .move (.tmp 0), none, true⟩,
  ⟨some 8, .binOp .add 3 (.tmp 7) (.const (.int .i64 1)) 3, none, true⟩,
  ⟨some 9, .unOp .neg 3 (.tmp 8), none, true⟩,
  ⟨some 10, .buildSlice 86 2 #[(0, .const (.int .i64 1)), (1, .tmp 9)], none, true⟩,
  ⟨some 2, .assign (.tmp 10), none, true⟩]
theorem k81_r3_e : Eo P pr N k81_r3 e σ Q = Eo P pr N [
  ⟨some 7, .move (.tmp 0), none, true⟩,
  ⟨some 8, .binOp .add 3 (.tmp 7) (.const (.int .i64 1)) 3, none, true⟩,
  ⟨some 9, .unOp .neg 3 (.tmp 8), none, true⟩,
  ⟨some 10, .buildSlice 86 2 #[(0, .const (.int .i64 1)), (1, .tmp 9)], none, true⟩,
  ⟨some 2, .assign (.tmp 10), none, true⟩] e σ Q := propext ⟨fun h => h, fun h => h⟩
def k81 : CC := (.seq (.region k81_r0) (.seq (.seq (.region k81_r1) (.cond (.tmp 4) (.seq (.region k81_r2) .ret) .skip)) (.seq (.region k81_r3) .ret)))
theorem k81_e : Ev P pr N k81 e σ Q = Ev P pr N (.seq (.region k81_r0) (.seq (.seq (.region k81_r1) (.cond (.tmp 4) (.seq (.region k81_r2) .ret) .skip)) (.seq (.region k81_r3) .ret))) e σ Q := propext ⟨fun h => h, fun h => h⟩
/-- quern/value.zigzag -/
theorem k81_is : FnIs Try.prog prims 81 11 [ResultVar.tmp 2] k81 := FnIs.of_fn Try.func81 (by kernel_rfl) rfl
def k82_r0 : List COp := [
  ⟨some 4, .assign (.const (.slice .none 0 0)), none, true⟩]
theorem k82_r0_e : Eo P pr N k82_r0 e σ Q = Eo P pr N [
  ⟨some 4, .assign (.const (.slice .none 0 0)), none, true⟩] e σ Q := propext ⟨fun h => h, fun h => h⟩
def k82_r1 : List COp := [
  ⟨some 6, .buildSlice 44 0 #[], none, true⟩,
  ⟨some 7, .move (.tmp 0), none, true⟩,
  ⟨some 8, .call { callee := .builtin .append, args := #[.tmp 6, .tmp 7], argTypes := #[44, 44] }, none, true⟩,
  ⟨some 5, .assign (.tmp 8), none, true⟩]
theorem k82_r1_e : Eo P pr N k82_r1 e σ Q = Eo P pr N [
  ⟨some 6, .buildSlice 44 0 #[], none, true⟩,
  ⟨some 7, .move (.tmp 0), none, true⟩,
  ⟨some 8, .call { callee := .builtin .append, args := #[.tmp 6, .tmp 7], argTypes := #[44, 44] }, none, true⟩,
  ⟨some 5, .assign (.tmp 8), none, true⟩] e σ Q := propext ⟨fun h => h, fun h => h⟩
def k82_r2 : List COp := [
  ⟨some 9, .move (.tmp 1), none, true⟩,
  ⟨some 10, .binOp .lss 3 (.tmp 9) (.const (.int .i64 0)) 3, none, true⟩]
theorem k82_r2_e : Eo P pr N k82_r2 e σ Q = Eo P pr N [
  ⟨some 9, .move (.tmp 1), none, true⟩,
  ⟨some 10, .binOp .lss 3 (.tmp 9) (.const (.int .i64 0)) 3, none, true⟩] e σ Q := propext ⟨fun h => h, fun h => h⟩
def k82_r3 : List COp := [
  ⟨some 1, .assign (.const (.int .i64 0)), none, true⟩]
theorem k82_r3_e : Eo P pr N k82_r3 e σ Q = Eo P pr N [
  ⟨some 1, .assign (.const (.int .i64 0)), none, true⟩] e σ Q := propext ⟨fun h => h, fun h => h⟩
def k82_r4 : List COp := [
  ⟨some 11, .move (.tmp 1), none, true⟩,
  ⟨some 12, .binOp .geq 3 (.tmp 11) (.const (.int .i64 128)) 3, none, true⟩]
theorem k82_r4_e : Eo P pr N k82_r4 e σ Q = Eo P pr N [
  ⟨some 11, .move (.tmp 1), none, true⟩,
  ⟨some 12, .binOp .geq 3 (.tmp 11) (.const (.int .i64 128)) 3, none, true⟩] e σ Q := propext ⟨fun h => h, fun h => h⟩
def k82_r5 : List COp := [
  ⟨some 13, .move (.tmp 5), none, true⟩,
  ⟨some 14, .move (.tmp 1), none, true⟩,
  ⟨some 15, .binOp .rem 3 (.tmp 14) (.const (.int .i64 128)) 3, none, true⟩,
  ⟨some 16, .binOp .add 3 (.tmp 15) (.const (.int .i64 128)) 3, none, true⟩,
  ⟨some 17, .convert 3 5 (.tmp 16), none, true⟩,
  ⟨some 18, .buildSlice 44 1 #[(0, .tmp 17)], none, true⟩,
  ⟨some 19, .call { callee := .builtin .append, args := #[.tmp 13, .tmp 18], argTypes := #[44, 44] }, none, true⟩,
  ⟨some 5, .assign (.tmp 19), none, true⟩]
theorem k82_r5_e : Eo P pr N k82_r5 e σ Q = Eo P pr N [
  ⟨some 13, .move (.tmp 5), none, true⟩,
  ⟨some 14, .move (.tmp 1), none, true⟩,
  ⟨some 15, .binOp .rem 3 (.tmp 14) (.const (.int .i64 128)) 3, none, true⟩,
  ⟨some 16, .binOp .add 3 (.tmp 15) (.const (.int .i64 128)) 3, none, true⟩,
  ⟨some 17, .convert 3 5 (.tmp 16), none, true⟩,
  ⟨some 18, .buildSlice 44 1 #[(0, .tmp 17)], none, true⟩,
  ⟨some 19, .call { callee := .builtin .append, args := #[.tmp 13, .tmp 18], argTypes := #[44, 44] }, none, true⟩,
  ⟨some 5, .assign (.tmp 19), none, true⟩] e σ Q := propext ⟨fun h => h, fun h => h⟩
def k82_r6 : List COp := [
  ⟨some 20, .move (.tmp 1), none, true⟩,
  ⟨some 21, .binOp .quo 3 (.tmp 20) (.const (.int .i64 128)) 3, none, true⟩,
  ⟨some 1, .assign (.tmp 21), none, true⟩]
theorem k82_r6_e : Eo P pr N k82_r6 e σ Q = Eo P pr N [
  ⟨some 20, .move (.tmp 1), none, true⟩,
  ⟨some 21, .binOp .quo 3 (.tmp 20) (.const (.int .i64 128)) 3, none, true⟩,
  ⟨some 1, .assign (.tmp 21), none, true⟩] e σ Q := propext ⟨fun h => h, fun h => h⟩
def k82_l0 : CC := (.seq (.seq (.region k82_r4) (.cond (.tmp 12) .skip (.exit 0))) (.block 1 (.seq (.region k82_r5) (.region k82_r6))))
theorem k82_l0_e : Ev P pr N k82_l0 e σ Q = Ev P pr N (.seq (.seq (.region k82_r4) (.cond (.tmp 12) .skip (.exit 0))) (.block 1 (.seq (.region k82_r5) (.region k82_r6)))) e σ Q := propext ⟨fun h => h, fun h => h⟩
def k82_r7 : List COp := [
  ⟨some 22, .move (.tmp 5), none, true⟩,
  ⟨some 23, .move (.tmp 1), none, true⟩,
  ⟨some 24, .convert 3 5 (.tmp 23), none, true⟩,
  ⟨some 25, .buildSlice 44 1 #[(0, .tmp 24)], none, true⟩,
  ⟨some 26, .call { callee := .builtin .append, args := #[.tmp 22, .tmp 25], argTypes := #[44, 44] }, none, true⟩,
  ⟨some 4, .assign (.tmp 26), none, true⟩]
theorem k82_r7_e : Eo P pr N k82_r7 e σ Q = Eo P pr N [
  ⟨some 22, .move (.tmp 5), none, true⟩,
  ⟨some 23, .move (.tmp 1), none, true⟩,
  ⟨some 24, .convert 3 5 (.tmp 23), none, true⟩,
  ⟨some 25, .buildSlice 44 1 #[(0, .tmp 24)], none, true⟩,
  ⟨some 26, .call { callee := .builtin .append, args := #[.tmp 22, .tmp 25], argTypes := #[44, 44] }, none, true⟩,
  ⟨some 4, .assign (.tmp 26), none, true⟩] e σ Q := propext ⟨fun h => h, fun h => h⟩
def k82 : CC := (.seq (.region k82_r0) (.seq (.region k82_r1) (.seq (.seq (.region k82_r2) (.cond (.tmp 10) (.region k82_r3) .skip)) (.seq (.block 0 (.loop k82_l0)) (.seq (.region k82_r7) .ret)))))
theorem k82_e : Ev P pr N k82 e σ Q = Ev P pr N (.seq (.region k82_r0) (.seq (.region k82_r1) (.seq (.seq (.region k82_r2) (.cond (.tmp 10) (.region k82_r3) .skip)) (.seq (.block 0 (.loop k82_l0)) (.seq (.region k82_r7) .ret))))) e σ Q := propext ⟨fun h => h, fun h => h⟩
/-- quern/quernref01.Put -/
theorem k82_is : FnIs Try.prog prims 82 27 [ResultVar.tmp 4] k82 := FnIs.of_fn Try.func82 (by kernel_rfl) rfl
def k83_r0 : List COp := [
  ⟨some 2, .assign (.const (.int .i64 0)), none, true⟩]
theorem k83_r0_e : Eo P pr N k83_r0 e σ Q = Eo P pr N [
  ⟨some 2, .assign (.const (.int .i64 0)), none, true⟩] e σ Q := propext ⟨fun h => h, fun h => h⟩
def k83_r1 : List COp := [
  ⟨some 5, .move (.tmp 0), none, true⟩,
  ⟨some 6, .binOp .eql 70 (.tmp 5) (.const (.pointer .none)) 70, none, true⟩,
  ⟨some 7, .move (.tmp 6), none, true⟩,
  ⟨some 8, .move (.tmp 0), some (7, false), true⟩,
  ⟨some 9, .nilCheck (.tmp 8), some (7, false), true⟩,
  ⟨some 10, .fieldAddr 92 (.tmp 9) 1, some (7, false), true⟩,
  ⟨some 11, .load 4 (.tmp 10), some (7, false), true⟩,
  ⟨some 12, .pick (.tmp 7) (.const (.bool true)) (.tmp 11), none, true⟩]
theorem k83_r1_e : Eo P pr N k83_r1 e σ Q = Eo P pr N [
  ⟨some 5, .move (.tmp 0), none, true⟩,
  ⟨some 6, .binOp .eql 70 (.tmp 5) (.const (.pointer .none)) 70, none, true⟩,
  ⟨some 7, .move (.tmp 6), none, true⟩,
  ⟨some 8, .move (.tmp 0), some (7, false), true⟩,
  ⟨some 9, .nilCheck (.tmp 8), some (7, false), true⟩,
  ⟨some 10, .fieldAddr 92 (.tmp 9) 1, some (7, false), true⟩,
  ⟨some 11, .load 4 (.tmp 10), some (7, false), true⟩,
  ⟨some 12, .pick (.tmp 7) (.const (.bool true)) (.tmp 11), none, true⟩] e σ Q := propext ⟨fun h => h, fun h => h⟩
def k83_r2 : List COp := [
  ⟨some 2, .assign (.const (.int .i64 0)), none, true⟩]
theorem k83_r2_e : Eo P pr N k83_r2 e σ Q = Eo P pr N [
  ⟨some 2, .assign (.const (.int .i64 0)), none, true⟩] e σ Q := propext ⟨fun h => h, fun h => h⟩
def k83_r3 : List COp := [
  ⟨some 14, .move (.tmp 0), none, true⟩,
  ⟨some 15, .nilCheck (.tmp 14), none, true⟩,
  ⟨some 16, .fieldAddr 92 (.tmp 15) 0, none, true⟩,
  ⟨some 17, .load 44 (.tmp 16), none, true⟩,
  ⟨some 18, .call { callee := .value (.func 94), args := #[.tmp 17], argTypes := #[44] }, none, true⟩,
  ⟨some 13, .move (.tmp 18), none, true⟩,
  ⟨some 19, .extract (.tmp 13) 0, none, true⟩,
  ⟨some 20, .extract (.tmp 13) 1, none, true⟩,
  ⟨some 3, .assign (.tmp 19), none, true⟩,
  ⟨some 4, .assign (.tmp 20), none, true⟩]
theorem k83_r3_e : Eo P pr N k83_r3 e σ Q = Eo P pr N [
  ⟨some 14, .move (.tmp 0), none, true⟩,
  ⟨some 15, .nilCheck (.tmp 14), none, true⟩,
  ⟨some 16, .fieldAddr 92 (.tmp 15) 0, none, true⟩,
  ⟨some 17, .load 44 (.tmp 16), none, true⟩,
  ⟨some 18, .call { callee := .value (.func 94), args := #[.tmp 17], argTypes := #[44] }, none, true⟩,
  ⟨some 13, .move (.tmp 18), none, true⟩,
  ⟨some 19, .extract (.tmp 13) 0, none, true⟩,
  ⟨some 20, .extract (.tmp 13) 1, none, true⟩,
  ⟨some 3, .assign (.tmp 19), none, true⟩,
  ⟨some 4, .assign (.tmp 20), none, true⟩] e σ Q := propext ⟨fun h => h, fun h => h⟩
def k83_r4 : List COp := [
  ⟨some 21, .move (.tmp 0), none, true⟩,
  ⟨some 22, .move (.tmp 4), none, true⟩,
  ⟨some 23, .binOp .eql 3 (.tmp 22) (.const (.int .i64 0)) 3, none, true⟩,
  ⟨some 24, .nilCheck (.tmp 21), none, true⟩,
  ⟨some 25, .fieldAddr 92 (.tmp 24) 1, none, true⟩,
  ⟨none, .store 4 (.tmp 25) (.tmp 23), none, true⟩]
theorem k83_r4_e : Eo P pr N k83_r4 e σ Q = Eo P pr N [
  ⟨some 21, .move (.tmp 0), none, true⟩,
  ⟨some 22, .move (.tmp 4), none, true⟩,
  ⟨some 23, .binOp .eql 3 (.tmp 22) (.const (.int .i64 0)) 3, none, true⟩,
  ⟨some 24, .nilCheck (.tmp 21), none, true⟩,
  ⟨some 25, .fieldAddr 92 (.tmp 24) 1, none, true⟩,
  ⟨none, .store 4 (.tmp 25) (.tmp 23), none, true⟩] e σ Q := propext ⟨fun h => h, fun h => h⟩
def k83_r5 : List COp := [
  ⟨some 26, .move (.tmp 0), none, true⟩,
  ⟨some 27, .move (.tmp 0), none, true⟩,
  ⟨some 28, .nilCheck (.tmp 27), none, true⟩,
  ⟨some 29, .fieldAddr 92 (.tmp 28) 0, none, true⟩,
  ⟨some 30, .load 44 (.tmp 29), none, true⟩,
  ⟨some 31, .move (.tmp 4), none, true⟩,
  ⟨some 32, .slice 44 (.tmp 30) (some (.tmp 31)) .none .none, none, true⟩,
  ⟨some 33, .nilCheck (.tmp 26), none, true⟩,
  ⟨some 34, .fieldAddr 92 (.tmp 33) 0, none, true⟩,
  ⟨none, .store 44 (.tmp 34) (.tmp 32), none, true⟩]
theorem k83_r5_e : Eo P pr N k83_r5 e σ Q = Eo P pr N [
  ⟨some 26, .move (.tmp 0), none, true⟩,
  ⟨some 27, .move (.tmp 0), none, true⟩,
  ⟨some 28, .nilCheck (.tmp 27), none, true⟩,
  ⟨some 29, .fieldAddr 92 (.tmp 28) 0, none, true⟩,
  ⟨some 30, .load 44 (.tmp 29), none, true⟩,
  ⟨some 31, .move (.tmp 4), none, true⟩,
  ⟨some 32, .slice 44 (.tmp 30) (some (.tmp 31)) .none .none, none, true⟩,
  ⟨some 33, .nilCheck (.tmp 26), none, true⟩,
  ⟨some 34, .fieldAddr 92 (.tmp 33) 0, none, true⟩,
  ⟨none, .store 44 (.tmp 34) (.tmp 32), none, true⟩] e σ Q := propext ⟨fun h => h, fun h => h⟩
def k83_r6 : List COp := [
  ⟨some 35, .move (.tmp 3), none, true⟩,
  ⟨some 2, .assign (.tmp 35), none, true⟩]
theorem k83_r6_e : Eo P pr N k83_r6 e σ Q = Eo P pr N [
  ⟨some 35, .move (.tmp 3), none, true⟩,
  ⟨some 2, .assign (.tmp 35), none, true⟩] e σ Q := propext ⟨fun h => h, fun h => h⟩
def k83 : CC := (.seq (.region k83_r0) (.seq (.seq (.region k83_r1) (.cond (.tmp 12) (.seq (.region k83_r2) .ret) .skip)) (.seq (.region k83_r3) (.seq (.region k83_r4) (.seq (.region k83_r5) (.seq (.region k83_r6) .ret))))))
theorem k83_e : Ev P pr N k83 e σ Q = Ev P pr N (.seq (.region k83_r0) (.seq (.seq (.region k83_r1) (.cond (.tmp 12) (.seq (.region k83_r2) .ret) .skip)) (.seq (.region k83_r3) (.seq (.region k83_r4) (.seq (.region k83_r5) (.seq (.region k83_r6) .ret)))))) e σ Q := propext ⟨fun h => h, fun h => h⟩
/-- (*quern/pack.Reader).Number -/
theorem k83_is : FnIs Try.prog prims 83 36 [ResultVar.tmp 2] k83 := FnIs.of_fn Try.func83 (by kernel_rfl) rfl
def k84_r0 : List COp := [
  ⟨some 4, .assign (.const (.slice .none 0 0)), none, true⟩]
theorem k84_r0_e : Eo P pr N k84_r0 e σ Q = Eo P pr N [
  ⟨some 4, .assign (.const (.slice .none 0 0)), none, true⟩] e σ Q := propext ⟨fun h => h, fun h => h⟩
def k84_r1 : List COp := [
  ⟨some 6, .move (.tmp 0), none, true⟩,
  ⟨some 7, .binOp .eql 70 (.tmp 6) (.const (.pointer .none)) 70, none, true⟩,
  ⟨some 8, .move (.tmp 7), none, true⟩,
  ⟨some 9, .move (.tmp 0), some (8, false), true⟩,
  ⟨some 10, .nilCheck (.tmp 9), some (8, false), true⟩,
  ⟨some 11, .fieldAddr 92 (.tmp 10) 1, some (8, false), true⟩,
  ⟨some 12, .load 4 (.tmp 11), some (8, false), true⟩,
  ⟨some 13, .pick (.tmp 8) (.const (.bool true)) (.tmp 12), none, true⟩]
theorem k84_r1_e : Eo P pr N k84_r1 e σ Q = Eo P pr N [
  ⟨some 6, .move (.tmp 0), none, true⟩,
  ⟨some 7, .binOp .eql 70 (.tmp 6) (.const (.pointer .none)) 70, none, true⟩,
  ⟨some 8, .move (.tmp 7), none, true⟩,
  ⟨some 9, .move (.tmp 0), some (8, false), true⟩,
  ⟨some 10, .nilCheck (.tmp 9), some (8, false), true⟩,
  ⟨some 11, .fieldAddr 92 (.tmp 10) 1, some (8, false), true⟩,
  ⟨some 12, .load 4 (.tmp 11), some (8, false), true⟩,
  ⟨some 13, .pick (.tmp 8) (.const (.bool true)) (.tmp 12), none, true⟩] e σ Q := propext ⟨fun h => h, fun h => h⟩
def k84_r2 : List COp := [
  ⟨some 4, .assign (.const (.slice .none 0 0)), none, true⟩]
theorem k84_r2_e : Eo P pr N k84_r2 e σ Q = Eo P pr N [
  ⟨some 4, .assign (.const (.slice .none 0 0)), none, true⟩] e σ Q := propext ⟨fun h => h, fun h => h⟩
def k84_r3 : List COp := [
  ⟨some 14, .move (.tmp 1), none, true⟩,
  ⟨some 15, .binOp .lss 3 (.tmp 14) (.const (.int .i64 0)) 3, none, true⟩,
  ⟨some 16, .move (.tmp 15), none, true⟩,
  ⟨some 17, .move (.tmp 1), some (16, false), true⟩,
  ⟨some 18, .move (.tmp 0), some (16, false), true⟩,
  ⟨some 19, .nilCheck (.tmp 18), some (16, false), true⟩,
  ⟨some 20, .fieldAddr 92 (.tmp 19) 0, some (16, false), true⟩,
  ⟨some 21, .load 44 (.tmp 20), some (16, false), true⟩,
  ⟨some 22, .call { callee := .builtin .len, args := #[.tmp 21], argTypes := #[44] }, some (16, false), true⟩,
  ⟨some 23, .binOp .gtr 3 (.tmp 17) (.tmp 22) 3, some (16, false), true⟩,
  ⟨some 24, .pick (.tmp 16) (.const (.bool true)) (.tmp 23), none, true⟩]
theorem k84_r3_e : Eo P pr N k84_r3 e σ Q = Eo P pr N [
  ⟨some 14, .move (.tmp 1), none, true⟩,
  ⟨some 15, .binOp .lss 3 (.tmp 14) (.const (.int .i64 0)) 3, none, true⟩,
  ⟨some 16, .move (.tmp 15), none, true⟩,
  ⟨some 17, .move (.tmp 1), some (16, false), true⟩,
  ⟨some 18, .move (.tmp 0), some (16, false), true⟩,
  ⟨some 19, .nilCheck (.tmp 18), some (16, false), true⟩,
  ⟨some 20, .fieldAddr 92 (.tmp 19) 0, some (16, false), true⟩,
  ⟨some 21, .load 44 (.tmp 20), some (16, false), true⟩,
  ⟨some 22, .call { callee := .builtin .len, args := #[.tmp 21], argTypes := #[44] }, some (16, false), true⟩,
  ⟨some 23, .binOp .gtr 3 (.tmp 17) (.tmp 22) 3, some (16, false), true⟩,
  ⟨some 24, .pick (.tmp 16) (.const (.bool true)) (.tmp 23), none, true⟩] e σ Q := propext ⟨fun h => h, fun h => h⟩
def k84_r4 : List COp := [
  ⟨some 25, .move (.tmp 0), none, true⟩,
  ⟨some 26, .nilCheck (.tmp 25), none, true⟩,
  ⟨some 27, .fieldAddr 92 (.tmp 26) 1, none, true⟩,
  ⟨none, .store 4 (.tmp 27) (.const (.bool true)), none, true⟩]
theorem k84_r4_e : Eo P pr N k84_r4 e σ Q = Eo P pr N [
  ⟨some 25, .move (.tmp 0), none, true⟩,
  ⟨some 26, .nilCheck (.tmp 25), none, true⟩,
  ⟨some 27, .fieldAddr 92 (.tmp 26) 1, none, true⟩,
  ⟨none, .store 4 (.tmp 27) (.const (.bool true)), none, true⟩] e σ Q := propext ⟨fun h => h, fun h => h⟩
def k84_r5 : List COp := [
  ⟨some 4, .assign (.const (.slice .none 0 0)), none, true⟩]
theorem k84_r5_e : Eo P pr N k84_r5 e σ Q = Eo P pr N [
  ⟨some 4, .assign (.const (.slice .none 0 0)), none, true⟩] e σ Q := propext ⟨fun h => h, fun h => h⟩
def k84_r6 : List COp := [
  ⟨some 28, .buildSlice 44 0 #[], none, true⟩,
  ⟨some 29, .move (.tmp 0), none, true⟩,
  ⟨some 30, .nilCheck (.tmp 29), none, true⟩,
  ⟨some 31, .fieldAddr 92 (.tmp 30) 0, none, true⟩,
  ⟨some 32, .load 44 (.tmp 31), none, true⟩,
  ⟨some 33, .move (.tmp 1), none, true⟩,
  ⟨some 34, .slice 44 (.tmp 32) .none (some (.tmp 33)) .none, none, true⟩,
  ⟨some 35, .call { callee := .builtin .append, args := #[.tmp 28, .tmp 34], argTypes := #[44, 44] }, none, true⟩,
  ⟨some 5, .assign (.tmp 35), none, true⟩]
theorem k84_r6_e : Eo P pr N k84_r6 e σ Q = Eo P pr N [
  ⟨some 28, .buildSlice 44 0 #[], none, true⟩,
  ⟨some 29, .move (.tmp 0), none, true⟩,
  ⟨some 30, .nilCheck (.tmp 29), none, true⟩,
  ⟨some 31, .fieldAddr 92 (.tmp 30) 0, none, true⟩,
  ⟨some 32, .load 44 (.tmp 31), none, true⟩,
  ⟨some 33, .move (.tmp 1), none, true⟩,
  ⟨some 34, .slice 44 (.tmp 32) .none (some (.tmp 33)) .none, none, true⟩,
  ⟨some 35, .call { callee := .builtin .append, args := #[.tmp 28, .tmp 34], argTypes := #[44, 44] }, none, true⟩,
  ⟨some 5, .assign (.tmp 35), none, true⟩] e σ Q := propext ⟨fun h => h, fun h => h⟩
def k84_r7 : List COp := [
  ⟨some 36, .move (.tmp 0), none, true⟩,
  ⟨some 37, .move (.tmp 0), none, true⟩,
  ⟨some 38, .nilCheck (.tmp 37), none, true⟩,
  ⟨some 39, .fieldAddr 92 (.tmp 38) 0, none, true⟩,
  ⟨some 40, .load 44 (.tmp 39), none, true⟩,
  ⟨some 41, .move (.tmp 1), none, true⟩,
  ⟨some 42, .slice 44 (.tmp 40) (some (.tmp 41)) .none .none, none, true⟩,
  ⟨some 43, .nilCheck (.tmp 36), none, true⟩,
  ⟨some 44, .fieldAddr 92 (.tmp 43) 0, none, true⟩,
  ⟨none, .store 44 (.tmp 44) (.tmp 42), none, true⟩]
theorem k84_r7_e : Eo P pr N k84_r7 e σ Q = Eo P pr N [
  ⟨some 36, .move (.tmp 0), none, true⟩,
  ⟨some 37, .move (.tmp 0), none, true⟩,
  ⟨some 38, .nilCheck (.tmp 37), none, true⟩,
  ⟨some 39, .fieldAddr 92 (.tmp 38) 0, none, true⟩,
  ⟨some 40, .load 44 (.tmp 39), none, true⟩,
  ⟨some 41, .move (.tmp 1), none, true⟩,
  ⟨some 42, .slice 44 (.tmp 40) (some (.tmp 41)) .none .none, none, true⟩,
  ⟨some 43, .nilCheck (.tmp 36), none, true⟩,
  ⟨some 44, .fieldAddr 92 (.tmp 43) 0, none, true⟩,
  ⟨none, .store 44 (.tmp 44) (.tmp 42), none, true⟩] e σ Q := propext ⟨fun h => h, fun h => h⟩
def k84_r8 : List COp := [
  ⟨some 45, .move (.tmp 5), none, true⟩,
  ⟨some 4, .assign (.tmp 45), none, true⟩]
theorem k84_r8_e : Eo P pr N k84_r8 e σ Q = Eo P pr N [
  ⟨some 45, .move (.tmp 5), none, true⟩,
  ⟨some 4, .assign (.tmp 45), none, true⟩] e σ Q := propext ⟨fun h => h, fun h => h⟩
def k84 : CC := (.seq (.region k84_r0) (.seq (.seq (.region k84_r1) (.cond (.tmp 13) (.seq (.region k84_r2) .ret) .skip)) (.seq (.seq (.region k84_r3) (.cond (.tmp 24) (.seq (.region k84_r4) (.seq (.region k84_r5) .ret)) .skip)) (.seq (.region k84_r6) (.seq (.region k84_r7) (.seq (.region k84_r8) .ret))))))
theorem k84_e : Ev P pr N k84 e σ Q = Ev P pr N (.seq (.region k84_r0) (.seq (.seq (.region k84_r1) (.cond (.tmp 13) (.seq (.region k84_r2) .ret) .skip)) (.seq (.seq (.region k84_r3) (.cond (.tmp 24) (.seq (.region k84_r4) (.seq (.region k84_r5) .ret)) .skip)) (.seq (.region k84_r6) (.seq (.region k84_r7) (.seq (.region k84_r8) .ret)))))) e σ Q := propext ⟨fun h => h, fun h => h⟩
/-- (*quern/pack.Reader).Bytes -/
theorem k84_is : FnIs Try.prog prims 84 46 [ResultVar.tmp 4] k84 := FnIs.of_fn Try.func84 (by kernel_rfl) rfl
def k85_r0 : List COp := [
  ⟨some 2, .assign (.const (.bool false)), none, true⟩]
theorem k85_r0_e : Eo P pr N k85_r0 e σ Q = Eo P pr N [
  ⟨some 2, .assign (.const (.bool false)), none, true⟩] e σ Q := propext ⟨fun h => h, fun h => h⟩
def k85_r1 : List COp := [
  ⟨some 3, .move (.tmp 0), none, true⟩,
  ⟨some 4, .binOp .neq 70 (.tmp 3) (.const (.pointer .none)) 70, none, true⟩,
  ⟨some 5, .move (.tmp 4), none, true⟩,
  ⟨some 6, .move (.tmp 0), some (5, true), true⟩,
  ⟨some 7, .nilCheck (.tmp 6), some (5, true), true⟩,
  ⟨some 8, .fieldAddr 92 (.tmp 7) 1, some (5, true), true⟩,
  ⟨some 9, .load 4 (.tmp 8), some (5, true), true⟩,
  ⟨some 10, .pick (.tmp 5) (.tmp 9) (.const (.bool false)), none, true⟩,
  ⟨some 2, .assign (.tmp 10), none, true⟩]
theorem k85_r1_e : Eo P pr N k85_r1 e σ Q = Eo P pr N [
  ⟨some 3, .move (.tmp 0), none, true⟩,
  ⟨some 4, .binOp .neq 70 (.tmp 3) (.const (.pointer .none)) 70, none, true⟩,
  ⟨some 5, .move (.tmp 4), none, true⟩,
  ⟨some 6, .move (.tmp 0), some (5, true), true⟩,
  ⟨some 7, .nilCheck (.tmp 6), some (5, true), true⟩,
  ⟨some 8, .fieldAddr 92 (.tmp 7) 1, some (5, true), true⟩,
  ⟨some 9, .load 4 (.tmp 8), some (5, true), true⟩,
  ⟨some 10, .pick (.tmp 5) (.tmp 9) (.const (.bool false)), none, true⟩,
  ⟨some 2, .assign (.tmp 10), none, true⟩] e σ Q := propext ⟨fun h => h, fun h => h⟩
def k85 : CC := (.seq (.region k85_r0) (.seq (.region k85_r1) .ret))
theorem k85_e : Ev P pr N k85 e σ Q = Ev P pr N (.seq (.region k85_r0) (.seq (.region k85_r1) .ret)) e σ Q := propext ⟨fun h => h, fun h => h⟩
/-- (*quern/pack.Reader).Bad -/
theorem k85_is : FnIs Try.prog prims 85 11 [ResultVar.tmp 2] k85 := FnIs.of_fn Try.func85 (by kernel_rfl) rfl
def k86_r0 : List COp := [
  ⟨some 2, .assign (.const (.int .i64 0)), none, true⟩]
theorem k86_r0_e : Eo P pr N k86_r0 e σ Q = Eo P pr N [
  ⟨some 2, .assign (.const (.int .i64 0)), none, true⟩] e σ Q := propext ⟨fun h => h, fun h => h⟩
def k86_r1 : List COp := [
  ⟨some 5, .move (.tmp 0), none, true⟩,
  ⟨some 6, .nilCheck (.tmp 5), none, true⟩,
  ⟨some 7, .fieldAddr 75 (.tmp 6) 1, none, true⟩,
  ⟨some 8, .load 4 (.tmp 7), none, true⟩]
theorem k86_r1_e : Eo P pr N k86_r1 e σ Q = Eo P pr N [
  ⟨some 5, .move (.tmp 0), none, true⟩,
  ⟨some 6, .nilCheck (.tmp 5), none, true⟩,
  ⟨some 7, .fieldAddr 75 (.tmp 6) 1, none, true⟩,
  ⟨some 8, .load 4 (.tmp 7), none, true⟩] e σ Q := propext ⟨fun h => h, fun h => h⟩
def k86_r2 : List COp := [
  ⟨some 2, .assign (.const (.int .i64 0)), none, true⟩]
theorem k86_r2_e : Eo P pr N k86_r2 e σ Q = Eo P pr N [
  ⟨some 2, .assign (.const (.int .i64 0)), none, true⟩] e σ Q := propext ⟨fun h => h, fun h => h⟩
def k86_r3 : List COp := [
  ⟨some 10, .move (.tmp 0), none, true⟩,
  ⟨some 11, .nilCheck (.tmp 10), none, true⟩,
  ⟨some 12, .fieldAddr 75 (.tmp 11) 0, none, true⟩,
  ⟨some 13, .load 44 (.tmp 12), none, true⟩,
  ⟨some 14, .call { callee := .value (.func 95), args := #[.tmp 13], argTypes := #[44] }, none, true⟩,
  ⟨some 9, .move (.tmp 14), none, true⟩,
  ⟨some 15, .extract (.tmp 9) 0, none, true⟩,
  ⟨some 16, .extract (.tmp 9) 1, none, true⟩,
  ⟨some 3, .assign (.tmp 15), none, true⟩,
  ⟨some 4, .assign (.tmp 16), none, true⟩]
theorem k86_r3_e : Eo P pr N k86_r3 e σ Q = Eo P pr N [
  ⟨some 10, .move (.tmp 0), none, true⟩,
  ⟨some 11, .nilCheck (.tmp 10), none, true⟩,
  ⟨some 12, .fieldAddr 75 (.tmp 11) 0, none, true⟩,
  ⟨some 13, .load 44 (.tmp 12), none, true⟩,
  ⟨some 14, .call { callee := .value (.func 95), args := #[.tmp 13], argTypes := #[44] }, none, true⟩,
  ⟨some 9, .move (.tmp 14), none, true⟩,
  ⟨some 15, .extract (.tmp 9) 0, none, true⟩,
  ⟨some 16, .extract (.tmp 9) 1, none, true⟩,
  ⟨some 3, .assign (.tmp 15), none, true⟩,
  ⟨some 4, .assign (.tmp 16), none, true⟩] e σ Q := propext ⟨fun h => h, fun h => h⟩
def k86_r4 : List COp := [
  ⟨some 17, .move (.tmp 4), none, true⟩,
  ⟨some 18, .binOp .eql 3 (.tmp 17) (.const (.int .i64 0)) 3, none, true⟩]
theorem k86_r4_e : Eo P pr N k86_r4 e σ Q = Eo P pr N [
  ⟨some 17, .move (.tmp 4), none, true⟩,
  ⟨some 18, .binOp .eql 3 (.tmp 17) (.const (.int .i64 0)) 3, none, true⟩] e σ Q := propext ⟨fun h => h, fun h => h⟩
def k86_r5 : List COp := [
  ⟨some 19, .move (.tmp 0), none, true⟩,
  ⟨some 20, .nilCheck (.tmp 19), none, true⟩,
  ⟨some 21, .fieldAddr 75 (.tmp 20) 1, none, true⟩,
  ⟨none, .store 4 (.tmp 21) (.const (.bool true)), none, true⟩]
theorem k86_r5_e : Eo P pr N k86_r5 e σ Q = Eo P pr N [
  ⟨some 19, .move (.tmp 0), none, true⟩,
  ⟨some 20, .nilCheck (.tmp 19), none, true⟩,
  ⟨some 21, .fieldAddr 75 (.tmp 20) 1, none, true⟩,
  ⟨none, .store 4 (.tmp 21) (.const (.bool true)), none, true⟩] e σ Q := propext ⟨fun h => h, fun h => h⟩
def k86_r6 : List COp := [
  ⟨some 2, .assign (.const (.int .i64 0)), none, true⟩]
theorem k86_r6_e : Eo P pr N k86_r6 e σ Q = Eo P pr N [
  ⟨some 2, .assign (.const (.int .i64 0)), none, true⟩] e σ Q := propext ⟨fun h => h, fun h => h⟩
def k86_r7 : List COp := [
  ⟨some 22, .move (.tmp 0), none, true⟩,
  ⟨some 23, .move (.tmp 0), none, true⟩,
  ⟨some 24, .nilCheck (.tmp 23), none, true⟩,
  ⟨some 25, .fieldAddr 75 (.tmp 24) 0, none, true⟩,
  ⟨some 26, .load 44 (.tmp 25), none, true⟩,
  ⟨some 27, .move (.tmp 4), none, true⟩,
  ⟨some 28, .slice 44 (.tmp 26) (some (.tmp 27)) .none .none, none, true⟩,
  ⟨some 29, .nilCheck (.tmp 22), none, true⟩,
  ⟨some 30, .fieldAddr 75 (.tmp 29) 0, none, true⟩,
  ⟨none, .store 44 (.tmp 30) (.tmp 28), none, true⟩]
theorem k86_r7_e : Eo P pr N k86_r7 e σ Q = Eo P pr N [
  ⟨some 22, .move (.tmp 0), none, true⟩,
  ⟨some 23, .move (.tmp 0), none, true⟩,
  ⟨some 24, .nilCheck (.tmp 23), none, true⟩,
  ⟨some 25, .fieldAddr 75 (.tmp 24) 0, none, true⟩,
  ⟨some 26, .load 44 (.tmp 25), none, true⟩,
  ⟨some 27, .move (.tmp 4), none, true⟩,
  ⟨some 28, .slice 44 (.tmp 26) (some (.tmp 27)) .none .none, none, true⟩,
  ⟨some 29, .nilCheck (.tmp 22), none, true⟩,
  ⟨some 30, .fieldAddr 75 (.tmp 29) 0, none, true⟩,
  ⟨none, .store 44 (.tmp 30) (.tmp 28), none, true⟩] e σ Q := propext ⟨fun h => h, fun h => h⟩
def k86_r8 : List COp := [
  ⟨some 31, .move (.tmp 3), none, true⟩,
  ⟨some 2, .assign (.tmp 31), none, true⟩]
theorem k86_r8_e : Eo P pr N k86_r8 e σ Q = Eo P pr N [
  ⟨some 31, .move (.tmp 3), none, true⟩,
  ⟨some 2, .assign (.tmp 31), none, true⟩] e σ Q := propext ⟨fun h => h, fun h => h⟩
def k86 : CC := (.seq (.region k86_r0) (.seq (.seq (.region k86_r1) (.cond (.tmp 8) (.seq (.region k86_r2) .ret) .skip)) (.seq (.region k86_r3) (.seq (.seq (.region k86_r4) (.cond (.tmp 18) (.seq (.region k86_r5) (.seq (.region k86_r6) .ret)) .skip)) (.seq (.region k86_r7) (.seq (.region k86_r8) .ret))))))
theorem k86_e : Ev P pr N k86 e σ Q = Ev P pr N (.seq (.region k86_r0) (.seq (.seq (.region k86_r1) (.cond (.tmp 8) (.seq (.region k86_r2) .ret) .skip)) (.seq (.region k86_r3) (.seq (.seq (.region k86_r4) (.cond (.tmp 18) (.seq (.region k86_r5) (.seq (.region k86_r6) .ret)) .skip)) (.seq (.region k86_r7) (.seq (.region k86_r8) .ret)))))) e σ Q := propext ⟨fun h => h, fun h => h⟩
/-- (*quern/quernref01.Reader).Number -/
theorem k86_is : FnIs Try.prog prims 86 32 [ResultVar.tmp 2] k86 := FnIs.of_fn Try.func86 (by kernel_rfl) rfl
def k87_r0 : List COp := [
  ⟨some 4, .assign (.const (.slice .none 0 0)), none, true⟩]
theorem k87_r0_e : Eo P pr N k87_r0 e σ Q = Eo P pr N [
  ⟨some 4, .assign (.const (.slice .none 0 0)), none, true⟩] e σ Q := propext ⟨fun h => h, fun h => h⟩
def k87_r1 : List COp := [
  ⟨some 6, .move (.tmp 0), none, true⟩,
  ⟨some 7, .nilCheck (.tmp 6), none, true⟩,
  ⟨some 8, .fieldAddr 75 (.tmp 7) 1, none, true⟩,
  ⟨some 9, .load 4 (.tmp 8), none, true⟩,
  ⟨some 10, .move (.tmp 9), none, true⟩,
  ⟨some 11, .move (.tmp 1), some (10, false), true⟩,
  ⟨some 12, .binOp .lss 3 (.tmp 11) (.const (.int .i64 0)) 3, some (10, false), true⟩,
  ⟨some 13, .pick (.tmp 10) (.const (.bool true)) (.tmp 12), none, true⟩,
  ⟨some 14, .move (.tmp 13), none, true⟩,
  ⟨some 15, .move (.tmp 1), some (14, false), true⟩,
  ⟨some 16, .move (.tmp 0), some (14, false), true⟩,
  ⟨some 17, .nilCheck (.tmp 16), some (14, false), true⟩,
  ⟨some 18, .fieldAddr 75 (.tmp 17) 0, some (14, false), true⟩,
  ⟨some 19, .load 44 (.tmp 18), some (14, false), true⟩,
  ⟨some 20, .call { callee := .builtin .len, args := #[.tmp 19], argTypes := #[44] }, some (14, false), true⟩,
  ⟨some 21, .binOp .gtr 3 (.tmp 15) (.tmp 20) 3, some (14, false), true⟩,
  ⟨some 22, .pick (.tmp 14) (.const (.bool true)) (.tmp 21), none, true⟩]
theorem k87_r1_e : Eo P pr N k87_r1 e σ Q = Eo P pr N [
  ⟨some 6, .move (.tmp 0), none, true⟩,
  ⟨some 7, .nilCheck (.tmp 6), none, true⟩,
  ⟨some 8, .fieldAddr 75 (.tmp 7) 1, none, true⟩,
  ⟨some 9, .load 4 (.tmp 8), none, true⟩,
  ⟨some 10, .move (.tmp 9), none, true⟩,
  ⟨some 11, .move (.tmp 1), some (10, false), true⟩,
  ⟨some 12, .binOp .lss 3 (.tmp 11) (.const (.int .i64 0)) 3, some (10, false), true⟩,
  ⟨some 13, .pick (.tmp 10) (.const (.bool true)) (.tmp 12), none, true⟩,
  ⟨some 14, .move (.tmp 13), none, true⟩,
  ⟨some 15, .move (.tmp 1), some (14, false), true⟩,
  ⟨some 16, .move (.tmp 0), some (14, false), true⟩,
  ⟨some 17, .nilCheck (.tmp 16), some (14, false), true⟩,
  ⟨some 18, .fieldAddr 75 (.tmp 17) 0, some (14, false), true⟩,
  ⟨some 19, .load 44 (.tmp 18), some (14, false), true⟩,
  ⟨some 20, .call { callee := .builtin .len, args := #[.tmp 19], argTypes := #[44] }, some (14, false), true⟩,
  ⟨some 21, .binOp .gtr 3 (.tmp 15) (.tmp 20) 3, some (14, false), true⟩,
  ⟨some 22, .pick (.tmp 14) (.const (.bool true)) (.tmp 21), none, true⟩] e σ Q := propext ⟨fun h => h, fun h => h⟩
def k87_r2 : List COp := [
  ⟨some 23, .move (.tmp 0), none, true⟩,
  ⟨some 24, .nilCheck (.tmp 23), none, true⟩,
  ⟨some 25, .fieldAddr 75 (.tmp 24) 1, none, true⟩,
  ⟨none, .store 4 (.tmp 25) (.const (.bool true)), none, true⟩]
theorem k87_r2_e : Eo P pr N k87_r2 e σ Q = Eo P pr N [
  ⟨some 23, .move (.tmp 0), none, true⟩,
  ⟨some 24, .nilCheck (.tmp 23), none, true⟩,
  ⟨some 25, .fieldAddr 75 (.tmp 24) 1, none, true⟩,
  ⟨none, .store 4 (.tmp 25) (.const (.bool true)), none, true⟩] e σ Q := propext ⟨fun h => h, fun h => h⟩
def k87_r3 : List COp := [
  ⟨some 4, .assign (.const (.slice .none 0 0)), none, true⟩]
theorem k87_r3_e : Eo P pr N k87_r3 e σ Q = Eo P pr N [
  ⟨some 4, .assign (.const (.slice .none 0 0)), none, true⟩] e σ Q := propext ⟨fun h => h, fun h => h⟩
def k87_r4 : List COp := [
  ⟨some 26, .buildSlice 44 0 #[], none, true⟩,
  ⟨some 27, .move (.tmp 0), none, true⟩,
  ⟨some 28, .nilCheck (.tmp 27), none, true⟩,
  ⟨some 29, .fieldAddr 75 (.tmp 28) 0, none, true⟩,
  ⟨some 30, .load 44 (.tmp 29), none, true⟩,
  ⟨some 31, .move (.tmp 1), none, true⟩,
  ⟨some 32, .slice 44 (.tmp 30) .none (some (.tmp 31)) .none, none, true⟩,
  ⟨some 33, .call { callee := .builtin .append, args := #[.tmp 26, .tmp 32], argTypes := #[44, 44] }, none, true⟩,
  ⟨some 5, .assign (.tmp 33), none, true⟩]
theorem k87_r4_e : Eo P pr N k87_r4 e σ Q = Eo P pr N [
  ⟨some 26, .buildSlice 44 0 #[], none, true⟩,
  ⟨some 27, .move (.tmp 0), none, true⟩,
  ⟨some 28, .nilCheck (.tmp 27), none, true⟩,
  ⟨some 29, .fieldAddr 75 (.tmp 28) 0, none, true⟩,
  ⟨some 30, .load 44 (.tmp 29), none, true⟩,
  ⟨some 31, .move (.tmp 1), none, true⟩,
  ⟨some 32, .slice 44 (.tmp 30) .none (some (.tmp 31)) .none, none, true⟩,
  ⟨some 33, .call { callee := .builtin .append, args := #[.tmp 26, .tmp 32], argTypes := #[44, 44] }, none, true⟩,
  ⟨some 5, .assign (.tmp 33), none, true⟩] e σ Q := propext ⟨fun h => h, fun h => h⟩
def k87_r5 : List COp := [
  ⟨some 34, .move (.tmp 0), none, true⟩,
  ⟨some 35, .move (.tmp 0), none, true⟩,
  ⟨some 36, .nilCheck (.tmp 35), none, true⟩,
  ⟨some 37, .fieldAddr 75 (.tmp 36) 0, none, true⟩,
  ⟨some 38, .load 44 (.tmp 37), none, true⟩,
  ⟨some 39, .move (.tmp 1), none, true⟩,
  ⟨some 40, .slice 44 (.tmp 38) (some (.tmp 39)) .none .none, none, true⟩,
  ⟨some 41, .nilCheck (.tmp 34), none, true⟩,
  ⟨some 42, .fieldAddr 75 (.tmp 41) 0, none, true⟩,
  ⟨none, .store 44 (.tmp 42) (.tmp 40), none, true⟩]
theorem k87_r5_e : Eo P pr N k87_r5 e σ Q = Eo P pr N [
  ⟨some 34, .move (.tmp 0), none, true⟩,
  ⟨some 35, .move (.tmp 0), none, true⟩,
  ⟨some 36, .nilCheck (.tmp 35), none, true⟩,
  ⟨some 37, .fieldAddr 75 (.tmp 36) 0, none, true⟩,
  ⟨some 38, .load 44 (.tmp 37), none, true⟩,
  ⟨some 39, .move (.tmp 1), none, true⟩,
  ⟨some 40, .slice 44 (.tmp 38) (some (.tmp 39)) .none .none, none, true⟩,
  ⟨some 41, .nilCheck (.tmp 34), none, true⟩,
  ⟨some 42, .fieldAddr 75 (.tmp 41) 0, none, true⟩,
  ⟨none, .store 44 (.tmp 42) (.tmp 40), none, true⟩] e σ Q := propext ⟨fun h => h, fun h => h⟩
def k87_r6 : List COp := [
  ⟨some 43, .move (.tmp 5), none, true⟩,
  ⟨some 4, .assign (.tmp 43), none, true⟩]
theorem k87_r6_e : Eo P pr N k87_r6 e σ Q = Eo P pr N [
  ⟨some 43, .move (.tmp 5), none, true⟩,
  ⟨some 4, .assign (.tmp 43), none, true⟩] e σ Q := propext ⟨fun h => h, fun h => h⟩
def k87 : CC := (.seq (.region k87_r0) (.seq (.seq (.region k87_r1) (.cond (.tmp 22) (.seq (.region k87_r2) (.seq (.region k87_r3) .ret)) .skip)) (.seq (.region k87_r4) (.seq (.region k87_r5) (.seq (.region k87_r6) .ret)))))
theorem k87_e : Ev P pr N k87 e σ Q = Ev P pr N (.seq (.region k87_r0) (.seq (.seq (.region k87_r1) (.cond (.tmp 22) (.seq (.region k87_r2) (.seq (.region k87_r3) .ret)) .skip)) (.seq (.region k87_r4) (.seq (.region k87_r5) (.seq (.region k87_r6) .ret))))) e σ Q := propext ⟨fun h => h, fun h => h⟩
/-- (*quern/quernref01.Reader).Bytes -/
theorem k87_is : FnIs Try.prog prims 87 44 [ResultVar.tmp 4] k87 := FnIs.of_fn Try.func87 (by kernel_rfl) rfl
def k90_r0 : List COp := [
  ⟨some 4, .assign (.const (.string { data := #[] })), none, true⟩,
  ⟨some 5, .assign (.const (.bool false)), none, true⟩]
theorem k90_r0_e : Eo P pr N k90_r0 e σ Q = Eo P pr N [
  ⟨some 4, .assign (.const (.string { data := #[] })), none, true⟩,
  ⟨some 5, .assign (.const (.bool false)), none, true⟩] e σ Q := propext ⟨fun h => h, fun h => h⟩
def k90_r1 : List COp := [
  ⟨some 6, .move (.tmp 0), none, true⟩,
  ⟨some 7, .move (.tmp 1), none, true⟩,
  ⟨some 8, .call { callee := .value (.func 97), args := #[.tmp 6, .tmp 7], argTypes := #[9, 9] }, none, true⟩,
  ⟨some 9, .extract (.tmp 8) 0, none, true⟩,
  ⟨some 10, .extract (.tmp 8) 1, none, true⟩,
  ⟨some 4, .assign (.tmp 9), none, true⟩,
  ⟨some 5, .assign (.tmp 10), none, true⟩]
theorem k90_r1_e : Eo P pr N k90_r1 e σ Q = Eo P pr N [
  ⟨some 6, .move (.tmp 0), none, true⟩,
  ⟨some 7, .move (.tmp 1), none, true⟩,
  ⟨some 8, .call { callee := .value (.func 97), args := #[.tmp 6, .tmp 7], argTypes := #[9, 9] }, none, true⟩,
  ⟨some 9, .extract (.tmp 8) 0, none, true⟩,
  ⟨some 10, .extract (.tmp 8) 1, none, true⟩,
  ⟨some 4, .assign (.tmp 9), none, true⟩,
  ⟨some 5, .assign (.tmp 10), none, true⟩] e σ Q := propext ⟨fun h => h, fun h => h⟩
def k90 : CC := (.seq (.region k90_r0) (.seq (.region k90_r1) .ret))
theorem k90_e : Ev P pr N k90 e σ Q = Ev P pr N (.seq (.region k90_r0) (.seq (.region k90_r1) .ret)) e σ Q := propext ⟨fun h => h, fun h => h⟩
/-- strings.CutPrefix -/
theorem k90_is : FnIs Try.prog prims 90 11 [ResultVar.tmp 4, ResultVar.tmp 5] k90 := FnIs.of_fn Try.func90 (by kernel_rfl) rfl
end Go.Proofs.Ytlimedbanpfkgaa.Q
