/- The code of some functions without its ornaments. Written by gen.py. -/
import Derived.Test.YtlimedbanpfkgaaQp
import Derived.Test.YtlimedbanpfkgaaChecked
import Derived.Test.YtlimedbanpfkgaaPr
set_option maxRecDepth 100000
namespace Go.Proofs.Ytlimedbanpfkgaa.Q
open Go Go.RowKit Go.Proofs
variable {P : Program} {pr : Prim} {N : Nat} {e : Nat → V} {σ : St} {Q : VX → (Nat → V) → St → Prop}
def k4_r0 : List COp := [
  ⟨some 3, .box 24 (.tmp 0), none, true⟩,
  ⟨some 4, .box 24 (.tmp 1), none, true⟩,
  ⟨some 5, .box 24 (.tmp 2), none, true⟩,
  ⟨some 6, .assign (.const (.bool false)), none, true⟩]
theorem k4_r0_e : Eo P pr N k4_r0 e σ Q = Eo P pr N [
  ⟨some 3, .box 24 (.tmp 0), none, true⟩,
  ⟨some 4, .box 24 (.tmp 1), none, true⟩,
  ⟨some 5, .box 24 (.tmp 2), none, true⟩,
  ⟨some 6, .assign (.const (.bool false)), none, true⟩] e σ Q := propext ⟨fun h => h, fun h => h⟩
def k4_r1 : List COp := [
  ⟨some 8, .call { callee := .value (.func 11), args := #[], argTypes := #[] }, none, true⟩,
  ⟨some 9, .unOp .not 4 (.tmp 8), none, true⟩]
theorem k4_r1_e : Eo P pr N k4_r1 e σ Q = Eo P pr N [
  ⟨some 8, .call { callee := .value (.func 11), args := #[], argTypes := #[] }, none, true⟩,
  ⟨some 9, .unOp .not 4 (.tmp 8), none, true⟩] e σ Q := propext ⟨fun h => h, fun h => h⟩
def k4_r2 : List COp := [
  ⟨some 6, .assign (.const (.bool false)), none, true⟩]
theorem k4_r2_e : Eo P pr N k4_r2 e σ Q = Eo P pr N [
  ⟨some 6, .assign (.const (.bool false)), none, true⟩] e σ Q := propext ⟨fun h => h, fun h => h⟩
def k4_r3 : List COp := [
  ⟨some 10, .load 24 (.tmp 3), none, true⟩,
  ⟨some 11, .call { callee := .value (.func 12), args := #[.tmp 10], argTypes := #[24] }, none, true⟩,
  ⟨some 12, .move (.tmp 11), none, true⟩,
  ⟨some 13, .load 24 (.tmp 4), some (12, false), true⟩,
  ⟨some 14, .call { callee := .value (.func 12), args := #[.tmp 13], argTypes := #[24] }, some (12, false), true⟩,
  ⟨some 15, .pick (.tmp 12) (.const (.bool true)) (.tmp 14), none, true⟩,
  ⟨some 16, .move (.tmp 15), none, true⟩,
  ⟨some 17, .load 24 (.tmp 5), some (16, false), true⟩,
  ⟨some 18, .call { callee := .value (.func 12), args := #[.tmp 17], argTypes := #[24] }, some (16, false), true⟩,
  ⟨some 19, .pick (.tmp 16) (.const (.bool true)) (.tmp 18), none, true⟩]
theorem k4_r3_e : Eo P pr N k4_r3 e σ Q = Eo P pr N [
  ⟨some 10, .load 24 (.tmp 3), none, true⟩,
  ⟨some 11, .call { callee := .value (.func 12), args := #[.tmp 10], argTypes := #[24] }, none, true⟩,
  ⟨some 12, .move (.tmp 11), none, true⟩,
  ⟨some 13, .load 24 (.tmp 4), some (12, false), true⟩,
  ⟨some 14, .call { callee := .value (.func 12), args := #[.tmp 13], argTypes := #[24] }, some (12, false), true⟩,
  ⟨some 15, .pick (.tmp 12) (.const (.bool true)) (.tmp 14), none, true⟩,
  ⟨some 16, .move (.tmp 15), none, true⟩,
  ⟨some 17, .load 24 (.tmp 5), some (16, false), true⟩,
  ⟨some 18, .call { callee := .value (.func 12), args := #[.tmp 17], argTypes := #[24] }, some (16, false), true⟩,
  ⟨some 19, .pick (.tmp 16) (.const (.bool true)) (.tmp 18), none, true⟩] e σ Q := propext ⟨fun h => h, fun h => h⟩
def k4_r4 : List COp := [
  ⟨some 6, .assign (.const (.bool true)), none, true⟩]
theorem k4_r4_e : Eo P pr N k4_r4 e σ Q = Eo P pr N [
  ⟨some 6, .assign (.const (.bool true)), none, true⟩] e σ Q := propext ⟨fun h => h, fun h => h⟩
def k4_r5 : List COp := [
  ⟨some 20, .load 24 (.tmp 3), none, true⟩,
  ⟨some 21, .load 24 (.tmp 4), none, true⟩,
  ⟨some 22, .call { callee := .value (.func 26), args := #[.tmp 20, .tmp 21], argTypes := #[24, 24] }, none, true⟩,
  ⟨some 7, .assign (.tmp 22), none, true⟩]
theorem k4_r5_e : Eo P pr N k4_r5 e σ Q = Eo P pr N [
  ⟨some 20, .load 24 (.tmp 3), none, true⟩,
  ⟨some 21, .load 24 (.tmp 4), none, true⟩,
  ⟨some 22, .call { callee := .value (.func 26), args := #[.tmp 20, .tmp 21], argTypes := #[24, 24] }, none, true⟩,
  ⟨some 7, .assign (.tmp 22), none, true⟩] e σ Q := propext ⟨fun h => h, fun h => h⟩
def k4_r6 : CC := (.wregion [
  (false, ⟨some 23, .move (.tmp 7), none, false⟩),
  (false, ⟨some 24, .load 24 (.tmp 3), none, false⟩),
  (false, ⟨some 25, .load 24 (.tmp 4), none, true⟩),
  (false, ⟨some 26, .call { callee := .value (.func 27), args := #[.tmp 24, .tmp 25], argTypes := #[24, 24] }, none, true⟩),
  (false, ⟨some 27, .binOp .neq 3 (.tmp 23) (.tmp 26) 3, none, true⟩),
  (false, ⟨some 28, .move (.tmp 27), none, true⟩),
  (false, ⟨some 29, .move (.tmp 7), some (28, false), false⟩),
  (false, ⟨some 30, .load 24 (.tmp 4), some (28, false), false⟩),
  (false, ⟨some 31, .load 24 (.tmp 3), some (28, false), true⟩),
  (false, ⟨some 32, .call { callee := .value (.func 26), args := #[.tmp 30, .tmp 31], argTypes := #[24, 24] }, some (28, false), true⟩),
  (false, ⟨some 33, .unOp .neg 3 (.tmp 32), some (28, false), true⟩),
  (false, ⟨some 34, .binOp .neq 3 (.tmp 29) (.tmp 33) 3, some (28, false), true⟩),
  (false, ⟨some 35, .pick (.tmp 28) (.const (.bool true)) (.tmp 34), none, true⟩),
  (false, ⟨some 36, .move (.tmp 35), none, true⟩),
  (false, ⟨some 37, .load 24 (.tmp 3), some (36, false), false⟩),
  (false, ⟨some 38, .load 24 (.tmp 3), some (36, false), true⟩),
  (false, ⟨some 39, .call { callee := .value (.func 26), args := #[.tmp 37, .tmp 38], argTypes := #[24, 24] }, some (36, false), true⟩),
  (true, ⟨some 40, .binOp .neq 3 (.tmp 39) (.const (.int .i64 0)) 3, some (36, false), true⟩),
  (false, ⟨some 41, .pick (.tmp 36) (.const (.bool true)) (.tmp 40), none, true⟩),
  (false, ⟨some 42, .move (.tmp 41), none, true⟩),
  (false, ⟨some 43, .load 24 (.tmp 3), some (42, false), false⟩),
  (false, ⟨some 44, .call { callee := .value (.func 28), args := #[.tmp 43], argTypes := #[24] }, some (42, false), false⟩),
  (true, ⟨some 45, .load 24 (.tmp 3), some (42, false), true⟩),
  (false, ⟨some 46, .call { callee := .value (.func 29), args := #[.tmp 45], argTypes := #[24] }, some (42, false), true⟩),
  (false, ⟨some 47, .binOp .neq 3 (.tmp 44) (.tmp 46) 3, some (42, false), true⟩),
  (false, ⟨some 48, .pick (.tmp 42) (.const (.bool true)) (.tmp 47), none, true⟩)] false [(22, ⟨some 45, .load 24 (.tmp 3), some (42, false), true⟩, [17, 22])])
theorem k4_r6_e : Ev P pr N k4_r6 e σ Q = Ev P pr N (.wregion [
  (false, ⟨some 23, .move (.tmp 7), none, false⟩),
  (false, ⟨some 24, .load 24 (.tmp 3), none, false⟩),
  (false, ⟨some 25, .load 24 (.tmp 4), none, true⟩),
  (false, ⟨some 26, .call { callee := .value (.func 27), args := #[.tmp 24, .tmp 25], argTypes := #[24, 24] }, none, true⟩),
  (false, ⟨some 27, .binOp .neq 3 (.tmp 23) (.tmp 26) 3, none, true⟩),
  (false, ⟨some 28, .move (.tmp 27), none, true⟩),
  (false, ⟨some 29, .move (.tmp 7), some (28, false), false⟩),
  (false, ⟨some 30, .load 24 (.tmp 4), some (28, false), false⟩),
  (false, ⟨some 31, .load 24 (.tmp 3), some (28, false), true⟩),
  (false, ⟨some 32, .call { callee := .value (.func 26), args := #[.tmp 30, .tmp 31], argTypes := #[24, 24] }, some (28, false), true⟩),
  (false, ⟨some 33, .unOp .neg 3 (.tmp 32), some (28, false), true⟩),
  (false, ⟨some 34, .binOp .neq 3 (.tmp 29) (.tmp 33) 3, some (28, false), true⟩),
  (false, ⟨some 35, .pick (.tmp 28) (.const (.bool true)) (.tmp 34), none, true⟩),
  (false, ⟨some 36, .move (.tmp 35), none, true⟩),
  (false, ⟨some 37, .load 24 (.tmp 3), some (36, false), false⟩),
  (false, ⟨some 38, .load 24 (.tmp 3), some (36, false), true⟩),
  (false, ⟨some 39, .call { callee := .value (.func 26), args := #[.tmp 37, .tmp 38], argTypes := #[24, 24] }, some (36, false), true⟩),
  (true, ⟨some 40, .binOp .neq 3 (.tmp 39) (.const (.int .i64 0)) 3, some (36, false), true⟩),
  (false, ⟨some 41, .pick (.tmp 36) (.const (.bool true)) (.tmp 40), none, true⟩),
  (false, ⟨some 42, .move (.tmp 41), none, true⟩),
  (false, ⟨some 43, .load 24 (.tmp 3), some (42, false), false⟩),
  (false, ⟨some 44, .call { callee := .value (.func 28), args := #[.tmp 43], argTypes := #[24] }, some (42, false), false⟩),
  (true, ⟨some 45, .load 24 (.tmp 3), some (42, false), true⟩),
  (false, ⟨some 46, .call { callee := .value (.func 29), args := #[.tmp 45], argTypes := #[24] }, some (42, false), true⟩),
  (false, ⟨some 47, .binOp .neq 3 (.tmp 44) (.tmp 46) 3, some (42, false), true⟩),
  (false, ⟨some 48, .pick (.tmp 42) (.const (.bool true)) (.tmp 47), none, true⟩)] false [(22, ⟨some 45, .load 24 (.tmp 3), some (42, false), true⟩, [17, 22])]) e σ Q := propext ⟨fun h => h, fun h => h⟩
def k4_r7 : List COp := [
  ⟨some 6, .assign (.const (.bool false)), none, true⟩]
theorem k4_r7_e : Eo P pr N k4_r7 e σ Q = Eo P pr N [
  ⟨some 6, .assign (.const (.bool false)), none, true⟩] e σ Q := propext ⟨fun h => h, fun h => h⟩
def k4_r8 : List COp := [
  ⟨some 49, .move (.tmp 7), none, true⟩,
  ⟨some 50, .binOp .leq 3 (.tmp 49) (.const (.int .i64 0)) 3, none, true⟩,
  ⟨some 51, .move (.tmp 50), none, true⟩,
  ⟨some 52, .load 24 (.tmp 4), some (51, true), true⟩,
  ⟨some 53, .load 24 (.tmp 5), some (51, true), true⟩,
  ⟨some 54, .call { callee := .value (.func 26), args := #[.tmp 52, .tmp 53], argTypes := #[24, 24] }, some (51, true), true⟩,
  ⟨some 55, .binOp .leq 3 (.tmp 54) (.const (.int .i64 0)) 3, some (51, true), true⟩,
  ⟨some 56, .pick (.tmp 51) (.tmp 55) (.const (.bool false)), none, true⟩,
  ⟨some 57, .unOp .not 4 (.tmp 56), none, true⟩,
  ⟨some 58, .move (.tmp 57), none, true⟩,
  ⟨some 59, .load 24 (.tmp 3), some (58, false), true⟩,
  ⟨some 60, .load 24 (.tmp 5), some (58, false), true⟩,
  ⟨some 61, .call { callee := .value (.func 26), args := #[.tmp 59, .tmp 60], argTypes := #[24, 24] }, some (58, false), true⟩,
  ⟨some 62, .binOp .leq 3 (.tmp 61) (.const (.int .i64 0)) 3, some (58, false), true⟩,
  ⟨some 63, .pick (.tmp 58) (.const (.bool true)) (.tmp 62), none, true⟩,
  ⟨some 6, .assign (.tmp 63), none, true⟩]
theorem k4_r8_e : Eo P pr N k4_r8 e σ Q = Eo P pr N [
  ⟨some 49, .move (.tmp 7), none, true⟩,
  ⟨some 50, .binOp .leq 3 (.tmp 49) (.const (.int .i64 0)) 3, none, true⟩,
  ⟨some 51, .move (.tmp 50), none, true⟩,
  ⟨some 52, .load 24 (.tmp 4), some (51, true), true⟩,
  ⟨some 53, .load 24 (.tmp 5), some (51, true), true⟩,
  ⟨some 54, .call { callee := .value (.func 26), args := #[.tmp 52, .tmp 53], argTypes := #[24, 24] }, some (51, true), true⟩,
  ⟨some 55, .binOp .leq 3 (.tmp 54) (.const (.int .i64 0)) 3, some (51, true), true⟩,
  ⟨some 56, .pick (.tmp 51) (.tmp 55) (.const (.bool false)), none, true⟩,
  ⟨some 57, .unOp .not 4 (.tmp 56), none, true⟩,
  ⟨some 58, .move (.tmp 57), none, true⟩,
  ⟨some 59, .load 24 (.tmp 3), some (58, false), true⟩,
  ⟨some 60, .load 24 (.tmp 5), some (58, false), true⟩,
  ⟨some 61, .call { callee := .value (.func 26), args := #[.tmp 59, .tmp 60], argTypes := #[24, 24] }, some (58, false), true⟩,
  ⟨some 62, .binOp .leq 3 (.tmp 61) (.const (.int .i64 0)) 3, some (58, false), true⟩,
  ⟨some 63, .pick (.tmp 58) (.const (.bool true)) (.tmp 62), none, true⟩,
  ⟨some 6, .assign (.tmp 63), none, true⟩] e σ Q := propext ⟨fun h => h, fun h => h⟩
def k4 : CC := (.seq (.region k4_r0) (.seq (.seq (.region k4_r1) (.cond (.tmp 9) (.seq (.region k4_r2) .ret) .skip)) (.seq (.seq (.region k4_r3) (.cond (.tmp 19) (.seq (.region k4_r4) .ret) .skip)) (.seq (.region k4_r5) (.seq (.seq k4_r6 (.cond (.tmp 48) (.seq (.region k4_r7) .ret) .skip)) (.seq (.region k4_r8) .ret))))))
theorem k4_e : Ev P pr N k4 e σ Q = Ev P pr N (.seq (.region k4_r0) (.seq (.seq (.region k4_r1) (.cond (.tmp 9) (.seq (.region k4_r2) .ret) .skip)) (.seq (.seq (.region k4_r3) (.cond (.tmp 19) (.seq (.region k4_r4) .ret) .skip)) (.seq (.region k4_r5) (.seq (.seq k4_r6 (.cond (.tmp 48) (.seq (.region k4_r7) .ret) .skip)) (.seq (.region k4_r8) .ret)))))) e σ Q := propext ⟨fun h => h, fun h => h⟩
/-- quern/quernlaw09.ValueOrders -/
theorem k4_is : FnIs Try.prog prims 4 64 [ResultVar.tmp 6] k4 := FnIs.of_fn Try.func4 (by kernel_rfl) rfl
def k11_r0 : List COp := [
  ⟨some 0, .assign (.const (.bool false)), none, true⟩]
theorem k11_r0_e : Eo P pr N k11_r0 e σ Q = Eo P pr N [
  ⟨some 0, .assign (.const (.bool false)), none, true⟩] e σ Q := propext ⟨fun h => h, fun h => h⟩
def k11_r1 : List COp := [
  ⟨some 8, .call { callee := .value (.func 16), args := #[.const (.int .i64 300)], argTypes := #[3] }, none, true⟩,
  ⟨some 9, .call { callee := .value (.func 30), args := #[.tmp 8, .const (.string { data := #[105, 110, 116] })], argTypes := #[24, 9] }, none, true⟩,
  ⟨some 7, .move (.tmp 9), none, true⟩,
  ⟨some 10, .extract (.tmp 7) 0, none, true⟩,
  ⟨some 11, .extract (.tmp 7) 1, none, true⟩,
  ⟨some 1, .assign (.tmp 10), none, true⟩,
  ⟨some 2, .assign (.tmp 11), none, true⟩]
theorem k11_r1_e : Eo P pr N k11_r1 e σ Q = Eo P pr N [
  ⟨some 8, .call { callee := .value (.func 16), args := #[.const (.int .i64 300)], argTypes := #[3] }, none, true⟩,
  ⟨some 9, .call { callee := .value (.func 30), args := #[.tmp 8, .const (.string { data := #[105, 110, 116] })], argTypes := #[24, 9] }, none, true⟩,
  ⟨some 7, .move (.tmp 9), none, true⟩,
  ⟨some 10, .extract (.tmp 7) 0, none, true⟩,
  ⟨some 11, .extract (.tmp 7) 1, none, true⟩,
  ⟨some 1, .assign (.tmp 10), none, true⟩,
  ⟨some 2, .assign (.tmp 11), none, true⟩] e σ Q := propext ⟨fun h => h, fun h => h⟩
def k11_r2 : List COp := [
  ⟨some 13, .call { callee := .value (.func 22), args := #[.const (.string { data := #[91, 116, 101, 120, 116, 93] })], argTypes := #[9] }, none, true⟩,
  ⟨some 14, .call { callee := .value (.func 17), args := #[.const (.string { data := #[97] })], argTypes := #[9] }, none, true⟩,
  ⟨some 15, .call { callee := .value (.func 38), args := #[.tmp 13, .tmp 14], argTypes := #[24, 24] }, none, true⟩,
  ⟨some 12, .move (.tmp 15), none, true⟩,
  ⟨some 16, .extract (.tmp 12) 0, none, true⟩,
  ⟨some 17, .extract (.tmp 12) 1, none, true⟩,
  ⟨some 3, .alloc 24, none, true⟩,
  ⟨none, .store 24 (.tmp 3) (.tmp 16), none, true⟩,
  ⟨some 4, .assign (.tmp 17), none, true⟩]
theorem k11_r2_e : Eo P pr N k11_r2 e σ Q = Eo P pr N [
  ⟨some 13, .call { callee := .value (.func 22), args := #[.const (.string { data := #[91, 116, 101, 120, 116, 93] })], argTypes := #[9] }, none, true⟩,
  ⟨some 14, .call { callee := .value (.func 17), args := #[.const (.string { data := #[97] })], argTypes := #[9] }, none, true⟩,
  ⟨some 15, .call { callee := .value (.func 38), args := #[.tmp 13, .tmp 14], argTypes := #[24, 24] }, none, true⟩,
  ⟨some 12, .move (.tmp 15), none, true⟩,
  ⟨some 16, .extract (.tmp 12) 0, none, true⟩,
  ⟨some 17, .extract (.tmp 12) 1, none, true⟩,
  ⟨some 3, .alloc 24, none, true⟩,
  ⟨none, .store 24 (.tmp 3) (.tmp 16), none, true⟩,
  ⟨some 4, .assign (.tmp 17), none, true⟩] e σ Q := propext ⟨fun h => h, fun h => h⟩
def k11_r3 : List COp := [
  ⟨some 19, .load 24 (.tmp 3), none, true⟩,
  ⟨some 20, .call { callee := .value (.func 30), args := #[.tmp 19, .const (.string { data := #[91, 116, 101, 120, 116, 93] })], argTypes := #[24, 9] }, none, true⟩,
  ⟨some 18, .move (.tmp 20), none, true⟩,
  ⟨some 21, .extract (.tmp 18) 0, none, true⟩,
  ⟨some 22, .extract (.tmp 18) 1, none, true⟩,
  ⟨some 5, .assign (.tmp 21), none, true⟩,
  ⟨some 6, .assign (.tmp 22), none, true⟩]
theorem k11_r3_e : Eo P pr N k11_r3 e σ Q = Eo P pr N [
  ⟨some 19, .load 24 (.tmp 3), none, true⟩,
  ⟨some 20, .call { callee := .value (.func 30), args := #[.tmp 19, .const (.string { data := #[91, 116, 101, 120, 116, 93] })], argTypes := #[24, 9] }, none, true⟩,
  ⟨some 18, .move (.tmp 20), none, true⟩,
  ⟨some 21, .extract (.tmp 18) 0, none, true⟩,
  ⟨some 22, .extract (.tmp 18) 1, none, true⟩,
  ⟨some 5, .assign (.tmp 21), none, true⟩,
  ⟨some 6, .assign (.tmp 22), none, true⟩] e σ Q := propext ⟨fun h => h, fun h => h⟩
def k11_r4 : List COp := [
  ⟨some 23, .move (.tmp 2), none, true⟩,
  ⟨some 24, .binOp .eql 45 (.tmp 23) (.const (.int .i64 0)) 45, none, true⟩,
  ⟨some 25, .move (.tmp 24), none, true⟩,
  ⟨some 26, .move (.tmp 4), some (25, true), true⟩,
  ⟨some 27, .binOp .eql 45 (.tmp 26) (.const (.int .i64 0)) 45, some (25, true), true⟩,
  ⟨some 28, .pick (.tmp 25) (.tmp 27) (.const (.bool false)), none, true⟩,
  ⟨some 29, .move (.tmp 28), none, true⟩,
  ⟨some 30, .move (.tmp 6), some (29, true), true⟩,
  ⟨some 31, .binOp .eql 45 (.tmp 30) (.const (.int .i64 0)) 45, some (29, true), true⟩,
  ⟨some 32, .pick (.tmp 29) (.tmp 31) (.const (.bool false)), none, true⟩,
  ⟨some 33, .move (.tmp 32), none, true⟩,
  ⟨some 34, .move (.tmp 1), some (33, true), true⟩,
  ⟨some 35, .convert 44 9 (.tmp 34), some (33, true), true⟩,
  ⟨some 36, .binOp .eql 9 (.tmp 35) (.const (.string { data := #[0, 172, 2] })) 9, some (33, true), true⟩,
  ⟨some 37, .pick (.tmp 33) (.tmp 36) (.const (.bool false)), none, true⟩,
  ⟨some 38, .move (.tmp 37), none, true⟩,
  ⟨some 39, .move (.tmp 5), some (38, true), true⟩,
  ⟨some 40, .convert 44 9 (.tmp 39), some (38, true), true⟩,
  ⟨some 41, .binOp .eql 9 (.tmp 40) (.const (.string { data := #[1, 1, 97] })) 9, some (38, true), true⟩,
  ⟨some 42, .pick (.tmp 38) (.tmp 41) (.const (.bool false)), none, true⟩,
  ⟨some 0, .assign (.tmp 42), none, true⟩]
theorem k11_r4_e : Eo P pr N k11_r4 e σ Q = Eo P pr N [
  ⟨some 23, .move (.tmp 2), none, true⟩,
  ⟨some 24, .binOp .eql 45 (.tmp 23) (.const (.int .i64 0)) 45, none, true⟩,
  ⟨some 25, .move (.tmp 24), none, true⟩,
  ⟨some 26, .move (.tmp 4), some (25, true), true⟩,
  ⟨some 27, .binOp .eql 45 (.tmp 26) (.const (.int .i64 0)) 45, some (25, true), true⟩,
  ⟨some 28, .pick (.tmp 25) (.tmp 27) (.const (.bool false)), none, true⟩,
  ⟨some 29, .move (.tmp 28), none, true⟩,
  ⟨some 30, .move (.tmp 6), some (29, true), true⟩,
  ⟨some 31, .binOp .eql 45 (.tmp 30) (.const (.int .i64 0)) 45, some (29, true), true⟩,
  ⟨some 32, .pick (.tmp 29) (.tmp 31) (.const (.bool false)), none, true⟩,
  ⟨some 33, .move (.tmp 32), none, true⟩,
  ⟨some 34, .move (.tmp 1), some (33, true), true⟩,
  ⟨some 35, .convert 44 9 (.tmp 34), some (33, true), true⟩,
  ⟨some 36, .binOp .eql 9 (.tmp 35) (.const (.string { data := #[0, 172, 2] })) 9, some (33, true), true⟩,
  ⟨some 37, .pick (.tmp 33) (.tmp 36) (.const (.bool false)), none, true⟩,
  ⟨some 38, .move (.tmp 37), none, true⟩,
  ⟨some 39, .move (.tmp 5), some (38, true), true⟩,
  ⟨some 40, .convert 44 9 (.tmp 39), some (38, true), true⟩,
  ⟨some 41, .binOp .eql 9 (.tmp 40) (.const (.string { data := #[1, 1, 97] })) 9, some (38, true), true⟩,
  ⟨some 42, .pick (.tmp 38) (.tmp 41) (.const (.bool false)), none, true⟩,
  ⟨some 0, .assign (.tmp 42), none, true⟩] e σ Q := propext ⟨fun h => h, fun h => h⟩
def k11 : CC := (.seq (.region k11_r0) (.seq (.region k11_r1) (.seq (.region k11_r2) (.seq (.region k11_r3) (.seq (.region k11_r4) .ret)))))
theorem k11_e : Ev P pr N k11 e σ Q = Ev P pr N (.seq (.region k11_r0) (.seq (.region k11_r1) (.seq (.region k11_r2) (.seq (.region k11_r3) (.seq (.region k11_r4) .ret))))) e σ Q := propext ⟨fun h => h, fun h => h⟩
/-- quern/quernlaw09.wakes -/
theorem k11_is : FnIs Try.prog prims 11 43 [ResultVar.tmp 0] k11 := FnIs.of_fn Try.func11 (by kernel_rfl) rfl
def k12_r0 : List COp := [
  ⟨some 1, .box 24 (.tmp 0), none, true⟩,
  ⟨some 2, .assign (.const (.bool false)), none, true⟩]
theorem k12_r0_e : Eo P pr N k12_r0 e σ Q = Eo P pr N [
  ⟨some 1, .box 24 (.tmp 0), none, true⟩,
  ⟨some 2, .assign (.const (.bool false)), none, true⟩] e σ Q := propext ⟨fun h => h, fun h => h⟩
def k12_r1 : List COp := [
  ⟨some 3, .alloc 3, none, true⟩,
  ⟨none, .store 3 (.tmp 3) (.const (.int .i64 0)), none, true⟩]
theorem k12_r1_e : Eo P pr N k12_r1 e σ Q = Eo P pr N [
  ⟨some 3, .alloc 3, none, true⟩,
  ⟨none, .store 3 (.tmp 3) (.const (.int .i64 0)), none, true⟩] e σ Q := propext ⟨fun h => h, fun h => h⟩
def k12_r2 : List COp := [
  ⟨some 4, .load 24 (.tmp 1), none, true⟩,
  ⟨some 5, .call { callee := .value (.func 51), args := #[.tmp 4, .tmp 3], argTypes := #[24, 62] }, none, true⟩,
  ⟨some 2, .assign (.tmp 5), none, true⟩]
theorem k12_r2_e : Eo P pr N k12_r2 e σ Q = Eo P pr N [
  ⟨some 4, .load 24 (.tmp 1), none, true⟩,
  ⟨some 5, .call { callee := .value (.func 51), args := #[.tmp 4, .tmp 3], argTypes := #[24, 62] }, none, true⟩,
  ⟨some 2, .assign (.tmp 5), none, true⟩] e σ Q := propext ⟨fun h => h, fun h => h⟩
def k12 : CC := (.seq (.region k12_r0) (.seq (.region k12_r1) (.seq (.region k12_r2) .ret)))
theorem k12_e : Ev P pr N k12 e σ Q = Ev P pr N (.seq (.region k12_r0) (.seq (.region k12_r1) (.seq (.region k12_r2) .ret))) e σ Q := propext ⟨fun h => h, fun h => h⟩
/-- quern/quernlaw09.large -/
theorem k12_is : FnIs Try.prog prims 12 6 [ResultVar.tmp 2] k12 := FnIs.of_fn Try.func12 (by kernel_rfl) rfl
def k51_r0 : List COp := [
  ⟨some 2, .box 24 (.tmp 0), none, true⟩,
  ⟨some 4, .assign (.const (.bool false)), none, true⟩]
theorem k51_r0_e : Eo P pr N k51_r0 e σ Q = Eo P pr N [
  ⟨some 2, .box 24 (.tmp 0), none, true⟩,
  ⟨some 4, .assign (.const (.bool false)), none, true⟩] e σ Q := propext ⟨fun h => h, fun h => h⟩
def k51_r1 : List COp := [
  ⟨some 7, .move (.tmp 1), none, false⟩,
  ⟨some 8, .nilCheck (.tmp 7), none, false⟩,
  ⟨some 9, .load 3 (.tmp 8), none, false⟩,
  ⟨some 10, .fieldAddr 24 (.tmp 2) 2, none, true⟩,
  ⟨some 11, .load 9 (.tmp 10), none, true⟩,
  ⟨some 12, .call { callee := .builtin .len, args := #[.tmp 11], argTypes := #[9] }, none, true⟩,
  ⟨some 13, .binOp .add 3 (.const (.int .i64 1)) (.tmp 12) 3, none, true⟩,
  ⟨some 14, .binOp .add 3 (.tmp 9) (.tmp 13) 3, none, true⟩,
  ⟨some 15, .nilCheck (.tmp 7), none, true⟩,
  ⟨none, .store 3 (.tmp 15) (.tmp 14), none, true⟩]
theorem k51_r1_e : Eo P pr N k51_r1 e σ Q = Eo P pr N [
  ⟨some 7, .move (.tmp 1), none, false⟩,
  ⟨some 8, .nilCheck (.tmp 7), none, false⟩,
  ⟨some 9, .load 3 (.tmp 8), none, false⟩,
  ⟨some 10, .fieldAddr 24 (.tmp 2) 2, none, true⟩,
  ⟨some 11, .load 9 (.tmp 10), none, true⟩,
  ⟨some 12, .call { callee := .builtin .len, args := #[.tmp 11], argTypes := #[9] }, none, true⟩,
  ⟨some 13, .binOp .add 3 (.const (.int .i64 1)) (.tmp 12) 3, none, true⟩,
  ⟨some 14, .binOp .add 3 (.tmp 9) (.tmp 13) 3, none, true⟩,
  ⟨some 15, .nilCheck (.tmp 7), none, true⟩,
  ⟨none, .store 3 (.tmp 15) (.tmp 14), none, true⟩] e σ Q := propext ⟨fun h => h, fun h => h⟩
def k51_r2 : List COp := [
  ⟨some 16, .move (.tmp 1), none, true⟩,
  ⟨some 17, .nilCheck (.tmp 16), none, true⟩,
  ⟨some 18, .load 3 (.tmp 17), none, true⟩,
  ⟨some 19, .binOp .gtr 3 (.tmp 18) (.const (.int .i64 65536)) 3, none, true⟩]
theorem k51_r2_e : Eo P pr N k51_r2 e σ Q = Eo P pr N [
  ⟨some 16, .move (.tmp 1), none, true⟩,
  ⟨some 17, .nilCheck (.tmp 16), none, true⟩,
  ⟨some 18, .load 3 (.tmp 17), none, true⟩,
  ⟨some 19, .binOp .gtr 3 (.tmp 18) (.const (.int .i64 65536)) 3, none, true⟩] e σ Q := propext ⟨fun h => h, fun h => h⟩
def k51_r3 : List COp := [
  ⟨some 4, .assign (.const (.bool true)), none, true⟩]
theorem k51_r3_e : Eo P pr N k51_r3 e σ Q = Eo P pr N [
  ⟨some 4, .assign (.const (.bool true)), none, true⟩] e σ Q := propext ⟨fun h => h, fun h => h⟩
def k51_r4 : List COp := [
  ⟨some 20, .fieldAddr 24 (.tmp 2) 3, none, true⟩,
  ⟨some 21, .load 22 (.tmp 20), none, true⟩,
  ⟨some 22, .call { callee := .builtin .len, args := #[.tmp 21], argTypes := #[22] }, none, true⟩,
  ⟨some 23, .move (.const (.int .i64 0)), none, true⟩]
theorem k51_r4_e : Eo P pr N k51_r4 e σ Q = Eo P pr N [
  ⟨some 20, .fieldAddr 24 (.tmp 2) 3, none, true⟩,
  ⟨some 21, .load 22 (.tmp 20), none, true⟩,
  ⟨some 22, .call { callee := .builtin .len, args := #[.tmp 21], argTypes := #[22] }, none, true⟩,
  ⟨some 23, .move (.const (.int .i64 0)), none, true⟩] e σ Q := propext ⟨fun h => h, fun h => h⟩
def k51_r5 : List COp := [
  ⟨some 24, .binOp .lss 3 (.tmp 23) (.tmp 22) 3, none, true⟩]
theorem k51_r5_e : Eo P pr N k51_r5 e σ Q = Eo P pr N [
  ⟨some 24, .binOp .lss 3 (.tmp 23) (.tmp 22) 3, none, true⟩] e σ Q := propext ⟨fun h => h, fun h => h⟩
def k51_r6 : List COp := [
  ⟨some 25, .indexAddr 22 (.tmp 21) (.tmp 23), none, true⟩,
  ⟨some 26, .load 24 (.tmp 25), none, true⟩,
  ⟨some 6, .alloc 24, none, true⟩,
  ⟨none, .store 24 (.tmp 6) (.tmp 26), none, true⟩]
theorem k51_r6_e : Eo P pr N k51_r6 e σ Q = Eo P pr N [
  ⟨some 25, .indexAddr 22 (.tmp 21) (.tmp 23), none, true⟩,
  ⟨some 26, .load 24 (.tmp 25), none, true⟩,
  ⟨some 6, .alloc 24, none, true⟩,
  ⟨none, .store 24 (.tmp 6) (.tmp 26), none, true⟩] e σ Q := propext ⟨fun h => h, fun h => h⟩
def k51_r7 : List COp := [
  ⟨some 27, .load 24 (.tmp 6), none, true⟩,
  ⟨some 28, .move (.tmp 1), none, true⟩,
  ⟨some 29, .call { callee := .value (.func 51), args := #[.tmp 27, .tmp 28], argTypes := #[24, 62] }, none, true⟩]
theorem k51_r7_e : Eo P pr N k51_r7 e σ Q = Eo P pr N [
  ⟨some 27, .load 24 (.tmp 6), none, true⟩,
  ⟨some 28, .move (.tmp 1), none, true⟩,
  ⟨some 29, .call { callee := .value (.func 51), args := #[.tmp 27, .tmp 28], argTypes := #[24, 62] }, none, true⟩] e σ Q := propext ⟨fun h => h, fun h => h⟩
def k51_r8 : List COp := [
  ⟨some 4, .assign (.const (.bool true)), none, true⟩]
theorem k51_r8_e : Eo P pr N k51_r8 e σ Q = Eo P pr N [
  ⟨some 4, .assign (.const (.bool true)), none, true⟩] e σ Q := propext ⟨fun h => h, fun h => h⟩
def k51_r9 : List COp := [
  ⟨some 30, .binOp .add 3 (.tmp 23) (.const (.int .i64 1)) 3, none, true⟩,
  ⟨some 23, .move (.tmp 30), none, true⟩]
theorem k51_r9_e : Eo P pr N k51_r9 e σ Q = Eo P pr N [
  ⟨some 30, .binOp .add 3 (.tmp 23) (.const (.int .i64 1)) 3, none, true⟩,
  ⟨some 23, .move (.tmp 30), none, true⟩] e σ Q := propext ⟨fun h => h, fun h => h⟩
def k51_l0 : CC := (.seq (.region k51_r5) (.seq (.cond (.tmp 24) .skip (.exit 0)) (.seq (.block 1 (.seq (.region k51_r6) (.seq (.region k51_r7) (.cond (.tmp 29) (.seq (.region k51_r8) .ret) .skip)))) (.region k51_r9))))
theorem k51_l0_e : Ev P pr N k51_l0 e σ Q = Ev P pr N (.seq (.region k51_r5) (.seq (.cond (.tmp 24) .skip (.exit 0)) (.seq (.block 1 (.seq (.region k51_r6) (.seq (.region k51_r7) (.cond (.tmp 29) (.seq (.region k51_r8) .ret) .skip)))) (.region k51_r9)))) e σ Q := propext ⟨fun h => h, fun h => h⟩
def k51_r10 : List COp := [
  ⟨some 4, .assign (.const (.bool false)), none, true⟩]
theorem k51_r10_e : Eo P pr N k51_r10 e σ Q = Eo P pr N [
  ⟨some 4, .assign (.const (.bool false)), none, true⟩] e σ Q := propext ⟨fun h => h, fun h => h⟩
def k51 : CC := (.seq (.region k51_r0) (.seq (.region k51_r1) (.seq (.seq (.region k51_r2) (.cond (.tmp 19) (.seq (.region k51_r3) .ret) .skip)) (.seq (.seq (.region k51_r4) (.block 0 (.loop k51_l0))) (.seq (.region k51_r10) .ret)))))
theorem k51_e : Ev P pr N k51 e σ Q = Ev P pr N (.seq (.region k51_r0) (.seq (.region k51_r1) (.seq (.seq (.region k51_r2) (.cond (.tmp 19) (.seq (.region k51_r3) .ret) .skip)) (.seq (.seq (.region k51_r4) (.block 0 (.loop k51_l0))) (.seq (.region k51_r10) .ret))))) e σ Q := propext ⟨fun h => h, fun h => h⟩
/-- quern/quernlaw09.count -/
theorem k51_is : FnIs Try.prog prims 51 31 [ResultVar.tmp 4] k51 := FnIs.of_fn Try.func51 (by kernel_rfl) rfl
def k26_r0 : List COp := [
  ⟨some 2, .box 24 (.tmp 0), none, true⟩,
  ⟨some 3, .box 24 (.tmp 1), none, true⟩,
  ⟨some 4, .assign (.const (.int .i64 0)), none, true⟩]
theorem k26_r0_e : Eo P pr N k26_r0 e σ Q = Eo P pr N [
  ⟨some 2, .box 24 (.tmp 0), none, true⟩,
  ⟨some 3, .box 24 (.tmp 1), none, true⟩,
  ⟨some 4, .assign (.const (.int .i64 0)), none, true⟩] e σ Q := propext ⟨fun h => h, fun h => h⟩
def k26_r1 : CC := (.wregion [
  (true, ⟨some 5, .fieldAddr 24 (.tmp 2) 0, none, false⟩),
  (false, ⟨some 6, .load 3 (.tmp 5), none, false⟩),
  (false, ⟨some 7, .fieldAddr 24 (.tmp 3) 0, none, false⟩),
  (false, ⟨some 8, .load 3 (.tmp 7), none, false⟩),
  (false, ⟨some 9, .call { callee := .value (.func 57), args := #[.tmp 6, .tmp 8], argTypes := #[3, 3] }, none, false⟩),
  (true, ⟨some 10, .fieldAddr 24 (.tmp 2) 1, none, false⟩),
  (true, ⟨some 11, .load 3 (.tmp 10), none, false⟩),
  (false, ⟨some 12, .fieldAddr 24 (.tmp 3) 1, none, false⟩),
  (true, ⟨some 13, .load 3 (.tmp 12), none, false⟩),
  (false, ⟨some 14, .call { callee := .value (.func 57), args := #[.tmp 11, .tmp 13], argTypes := #[3, 3] }, none, false⟩),
  (true, ⟨some 15, .fieldAddr 24 (.tmp 2) 2, none, false⟩),
  (true, ⟨some 16, .load 9 (.tmp 15), none, false⟩),
  (false, ⟨some 17, .fieldAddr 24 (.tmp 3) 2, none, false⟩),
  (true, ⟨some 18, .load 9 (.tmp 17), none, false⟩),
  (false, ⟨some 19, .call { callee := .value (.func 58), args := #[.tmp 16, .tmp 18], argTypes := #[9, 9] }, none, false⟩),
  (true, ⟨some 20, .fieldAddr 24 (.tmp 2) 3, none, false⟩),
  (true, ⟨some 21, .load 22 (.tmp 20), none, false⟩),
  (false, ⟨some 22, .fieldAddr 24 (.tmp 3) 3, none, true⟩),
  (true, ⟨some 23, .load 22 (.tmp 22), none, true⟩),
  (false, ⟨some 24, .call { callee := .value (.func 59), args := #[.tmp 21, .tmp 23, .func 26], argTypes := #[22, 22, 41] }, none, true⟩),
  (false, ⟨some 25, .buildSlice 86 4 #[(0, .tmp 9), (1, .tmp 14), (2, .tmp 19), (3, .tmp 24)], none, true⟩),
  (false, ⟨some 26, .call { callee := .value (.func 56), args := #[.tmp 25], argTypes := #[86] }, none, true⟩),
  (false, ⟨some 4, .assign (.tmp 26), none, true⟩)] false [(6, ⟨some 11, .load 3 (.tmp 10), none, false⟩, [0, 5]), (8, ⟨some 13, .load 3 (.tmp 12), none, false⟩, [0, 5]), (11, ⟨some 16, .load 9 (.tmp 15), none, false⟩, [0, 5, 10]), (13, ⟨some 18, .load 9 (.tmp 17), none, false⟩, [0, 5, 10]), (16, ⟨some 21, .load 22 (.tmp 20), none, false⟩, [0, 5, 10, 15]), (18, ⟨some 23, .load 22 (.tmp 22), none, true⟩, [0, 5, 10, 15])])
theorem k26_r1_e : Ev P pr N k26_r1 e σ Q = Ev P pr N (.wregion [
  (true, ⟨some 5, .fieldAddr 24 (.tmp 2) 0, none, false⟩),
  (false, ⟨some 6, .load 3 (.tmp 5), none, false⟩),
  (false, ⟨some 7, .fieldAddr 24 (.tmp 3) 0, none, false⟩),
  (false, ⟨some 8, .load 3 (.tmp 7), none, false⟩),
  (false, ⟨some 9, .call { callee := .value (.func 57), args := #[.tmp 6, .tmp 8], argTypes := #[3, 3] }, none, false⟩),
  (true, ⟨some 10, .fieldAddr 24 (.tmp 2) 1, none, false⟩),
  (true, ⟨some 11, .load 3 (.tmp 10), none, false⟩),
  (false, ⟨some 12, .fieldAddr 24 (.tmp 3) 1, none, false⟩),
  (true, ⟨some 13, .load 3 (.tmp 12), none, false⟩),
  (false, ⟨some 14, .call { callee := .value (.func 57), args := #[.tmp 11, .tmp 13], argTypes := #[3, 3] }, none, false⟩),
  (true, ⟨some 15, .fieldAddr 24 (.tmp 2) 2, none, false⟩),
  (true, ⟨some 16, .load 9 (.tmp 15), none, false⟩),
  (false, ⟨some 17, .fieldAddr 24 (.tmp 3) 2, none, false⟩),
  (true, ⟨some 18, .load 9 (.tmp 17), none, false⟩),
  (false, ⟨some 19, .call { callee := .value (.func 58), args := #[.tmp 16, .tmp 18], argTypes := #[9, 9] }, none, false⟩),
  (true, ⟨some 20, .fieldAddr 24 (.tmp 2) 3, none, false⟩),
  (true, ⟨some 21, .load 22 (.tmp 20), none, false⟩),
  (false, ⟨some 22, .fieldAddr 24 (.tmp 3) 3, none, true⟩),
  (true, ⟨some 23, .load 22 (.tmp 22), none, true⟩),
  (false, ⟨some 24, .call { callee := .value (.func 59), args := #[.tmp 21, .tmp 23, .func 26], argTypes := #[22, 22, 41] }, none, true⟩),
  (false, ⟨some 25, .buildSlice 86 4 #[(0, .tmp 9), (1, .tmp 14), (2, .tmp 19), (3, .tmp 24)], none, true⟩),
  (false, ⟨some 26, .call { callee := .value (.func 56), args := #[.tmp 25], argTypes := #[86] }, none, true⟩),
  (false, ⟨some 4, .assign (.tmp 26), none, true⟩)] false [(6, ⟨some 11, .load 3 (.tmp 10), none, false⟩, [0, 5]), (8, ⟨some 13, .load 3 (.tmp 12), none, false⟩, [0, 5]), (11, ⟨some 16, .load 9 (.tmp 15), none, false⟩, [0, 5, 10]), (13, ⟨some 18, .load 9 (.tmp 17), none, false⟩, [0, 5, 10]), (16, ⟨some 21, .load 22 (.tmp 20), none, false⟩, [0, 5, 10, 15]), (18, ⟨some 23, .load 22 (.tmp 22), none, true⟩, [0, 5, 10, 15])]) e σ Q := propext ⟨fun h => h, fun h => h⟩
def k26 : CC := (.seq (.region k26_r0) (.seq k26_r1 .ret))
theorem k26_e : Ev P pr N k26 e σ Q = Ev P pr N (.seq (.region k26_r0) (.seq k26_r1 .ret)) e σ Q := propext ⟨fun h => h, fun h => h⟩
/-- quern/value.Compare -/
theorem k26_is : FnIs Try.prog prims 26 27 [ResultVar.tmp 4] k26 := FnIs.of_fn Try.func26 (by kernel_rfl) rfl
def k27_r0 : List COp := [
  ⟨some 2, .box 24 (.tmp 0), none, true⟩,
  ⟨some 3, .box 24 (.tmp 1), none, true⟩,
  ⟨some 4, .assign (.const (.int .i64 0)), none, true⟩]
theorem k27_r0_e : Eo P pr N k27_r0 e σ Q = Eo P pr N [
  ⟨some 2, .box 24 (.tmp 0), none, true⟩,
  ⟨some 3, .box 24 (.tmp 1), none, true⟩,
  ⟨some 4, .assign (.const (.int .i64 0)), none, true⟩] e σ Q := propext ⟨fun h => h, fun h => h⟩
def k27_r1 : List COp := [
  ⟨some 7, .fieldAddr 24 (.tmp 2) 0, none, true⟩,
  ⟨some 8, .load 3 (.tmp 7), none, true⟩,
  ⟨some 9, .fieldAddr 24 (.tmp 3) 0, none, true⟩,
  ⟨some 10, .load 3 (.tmp 9), none, true⟩,
  ⟨some 11, .binOp .neq 3 (.tmp 8) (.tmp 10) 3, none, true⟩]
theorem k27_r1_e : Eo P pr N k27_r1 e σ Q = Eo P pr N [
  ⟨some 7, .fieldAddr 24 (.tmp 2) 0, none, true⟩,
  ⟨some 8, .load 3 (.tmp 7), none, true⟩,
  ⟨some 9, .fieldAddr 24 (.tmp 3) 0, none, true⟩,
  ⟨some 10, .load 3 (.tmp 9), none, true⟩,
  ⟨some 11, .binOp .neq 3 (.tmp 8) (.tmp 10) 3, none, true⟩] e σ Q := propext ⟨fun h => h, fun h => h⟩
def k27_r2 : List COp := [
  ⟨some 12, .fieldAddr 24 (.tmp 2) 0, none, true⟩,
  ⟨some 13, .load 3 (.tmp 12), none, true⟩,
  ⟨some 14, .fieldAddr 24 (.tmp 3) 0, none, true⟩,
  ⟨some 15, .load 3 (.tmp 14), none, true⟩,
  ⟨some 16, .binOp .lss 3 (.tmp 13) (.tmp 15) 3, none, true⟩]
theorem k27_r2_e : Eo P pr N k27_r2 e σ Q = Eo P pr N [
  ⟨some 12, .fieldAddr 24 (.tmp 2) 0, none, true⟩,
  ⟨some 13, .load 3 (.tmp 12), none, true⟩,
  ⟨some 14, .fieldAddr 24 (.tmp 3) 0, none, true⟩,
  ⟨some 15, .load 3 (.tmp 14), none, true⟩,
  ⟨some 16, .binOp .lss 3 (.tmp 13) (.tmp 15) 3, none, true⟩] e σ Q := propext ⟨fun h => h, fun h => h⟩
def k27_r3 : List COp := [
  ⟨some 4, .assign (.const (.int .i64 (-1))), none, true⟩]
theorem k27_r3_e : Eo P pr N k27_r3 e σ Q = Eo P pr N [
  ⟨some 4, .assign (.const (.int .i64 (-1))), none, true⟩] e σ Q := propext ⟨fun h => h, fun h => h⟩
def k27_r4 : List COp := [
  ⟨some 4, .assign (.const (.int .i64 1)), none, true⟩]
theorem k27_r4_e : Eo P pr N k27_r4 e σ Q = Eo P pr N [
  ⟨some 4, .assign (.const (.int .i64 1)), none, true⟩] e σ Q := propext ⟨fun h => h, fun h => h⟩
def k27_r5 : List COp := [
  ⟨some 17, .fieldAddr 24 (.tmp 2) 1, none, true⟩,
  ⟨some 18, .load 3 (.tmp 17), none, true⟩,
  ⟨some 19, .fieldAddr 24 (.tmp 3) 1, none, true⟩,
  ⟨some 20, .load 3 (.tmp 19), none, true⟩,
  ⟨some 21, .binOp .neq 3 (.tmp 18) (.tmp 20) 3, none, true⟩]
theorem k27_r5_e : Eo P pr N k27_r5 e σ Q = Eo P pr N [
  ⟨some 17, .fieldAddr 24 (.tmp 2) 1, none, true⟩,
  ⟨some 18, .load 3 (.tmp 17), none, true⟩,
  ⟨some 19, .fieldAddr 24 (.tmp 3) 1, none, true⟩,
  ⟨some 20, .load 3 (.tmp 19), none, true⟩,
  ⟨some 21, .binOp .neq 3 (.tmp 18) (.tmp 20) 3, none, true⟩] e σ Q := propext ⟨fun h => h, fun h => h⟩
def k27_r6 : List COp := [
  ⟨some 22, .fieldAddr 24 (.tmp 2) 1, none, true⟩,
  ⟨some 23, .load 3 (.tmp 22), none, true⟩,
  ⟨some 24, .fieldAddr 24 (.tmp 3) 1, none, true⟩,
  ⟨some 25, .load 3 (.tmp 24), none, true⟩,
  ⟨some 26, .binOp .lss 3 (.tmp 23) (.tmp 25) 3, none, true⟩]
theorem k27_r6_e : Eo P pr N k27_r6 e σ Q = Eo P pr N [
  ⟨some 22, .fieldAddr 24 (.tmp 2) 1, none, true⟩,
  ⟨some 23, .load 3 (.tmp 22), none, true⟩,
  ⟨some 24, .fieldAddr 24 (.tmp 3) 1, none, true⟩,
  ⟨some 25, .load 3 (.tmp 24), none, true⟩,
  ⟨some 26, .binOp .lss 3 (.tmp 23) (.tmp 25) 3, none, true⟩] e σ Q := propext ⟨fun h => h, fun h => h⟩
def k27_r7 : List COp := [
  ⟨some 4, .assign (.const (.int .i64 (-1))), none, true⟩]
theorem k27_r7_e : Eo P pr N k27_r7 e σ Q = Eo P pr N [
  ⟨some 4, .assign (.const (.int .i64 (-1))), none, true⟩] e σ Q := propext ⟨fun h => h, fun h => h⟩
def k27_r8 : List COp := [
  ⟨some 4, .assign (.const (.int .i64 1)), none, true⟩]
theorem k27_r8_e : Eo P pr N k27_r8 e σ Q = Eo P pr N [
  ⟨some 4, .assign (.const (.int .i64 1)), none, true⟩] e σ Q := propext ⟨fun h => h, fun h => h⟩
def k27_r9 : List COp := [
  ⟨some 27, .fieldAddr 24 (.tmp 2) 2, none, true⟩,
  ⟨some 28, .load 9 (.tmp 27), none, true⟩,
  ⟨some 29, .fieldAddr 24 (.tmp 3) 2, none, true⟩,
  ⟨some 30, .load 9 (.tmp 29), none, true⟩,
  ⟨some 31, .binOp .neq 9 (.tmp 28) (.tmp 30) 9, none, true⟩]
theorem k27_r9_e : Eo P pr N k27_r9 e σ Q = Eo P pr N [
  ⟨some 27, .fieldAddr 24 (.tmp 2) 2, none, true⟩,
  ⟨some 28, .load 9 (.tmp 27), none, true⟩,
  ⟨some 29, .fieldAddr 24 (.tmp 3) 2, none, true⟩,
  ⟨some 30, .load 9 (.tmp 29), none, true⟩,
  ⟨some 31, .binOp .neq 9 (.tmp 28) (.tmp 30) 9, none, true⟩] e σ Q := propext ⟨fun h => h, fun h => h⟩
def k27_r10 : List COp := [
  ⟨some 32, .fieldAddr 24 (.tmp 2) 2, none, true⟩,
  ⟨some 33, .load 9 (.tmp 32), none, true⟩,
  ⟨some 34, .fieldAddr 24 (.tmp 3) 2, none, true⟩,
  ⟨some 35, .load 9 (.tmp 34), none, true⟩,
  ⟨some 36, .binOp .lss 9 (.tmp 33) (.tmp 35) 9, none, true⟩]
theorem k27_r10_e : Eo P pr N k27_r10 e σ Q = Eo P pr N [
  ⟨some 32, .fieldAddr 24 (.tmp 2) 2, none, true⟩,
  ⟨some 33, .load 9 (.tmp 32), none, true⟩,
  ⟨some 34, .fieldAddr 24 (.tmp 3) 2, none, true⟩,
  ⟨some 35, .load 9 (.tmp 34), none, true⟩,
  ⟨some 36, .binOp .lss 9 (.tmp 33) (.tmp 35) 9, none, true⟩] e σ Q := propext ⟨fun h => h, fun h => h⟩
def k27_r11 : List COp := [
  ⟨some 4, .assign (.const (.int .i64 (-1))), none, true⟩]
theorem k27_r11_e : Eo P pr N k27_r11 e σ Q = Eo P pr N [
  ⟨some 4, .assign (.const (.int .i64 (-1))), none, true⟩] e σ Q := propext ⟨fun h => h, fun h => h⟩
def k27_r12 : List COp := [
  ⟨some 4, .assign (.const (.int .i64 1)), none, true⟩]
theorem k27_r12_e : Eo P pr N k27_r12 e σ Q = Eo P pr N [
  ⟨some 4, .assign (.const (.int .i64 1)), none, true⟩] e σ Q := propext ⟨fun h => h, fun h => h⟩
def k27_r13 : List COp := [
  ⟨some 5, .assign (.const (.int .i64 0)), none, true⟩]
theorem k27_r13_e : Eo P pr N k27_r13 e σ Q = Eo P pr N [
  ⟨some 5, .assign (.const (.int .i64 0)), none, true⟩] e σ Q := propext ⟨fun h => h, fun h => h⟩
def k27_r14 : List COp := [
  ⟨some 37, .move (.tmp 5), none, true⟩,
  ⟨some 38, .fieldAddr 24 (.tmp 2) 3, none, true⟩,
  ⟨some 39, .load 22 (.tmp 38), none, true⟩,
  ⟨some 40, .call { callee := .builtin .len, args := #[.tmp 39], argTypes := #[22] }, none, true⟩,
  ⟨some 41, .binOp .lss 3 (.tmp 37) (.tmp 40) 3, none, true⟩,
  ⟨some 42, .move (.tmp 41), none, true⟩,
  ⟨some 43, .move (.tmp 5), some (42, true), true⟩,
  ⟨some 44, .fieldAddr 24 (.tmp 3) 3, some (42, true), true⟩,
  ⟨some 45, .load 22 (.tmp 44), some (42, true), true⟩,
  ⟨some 46, .call { callee := .builtin .len, args := #[.tmp 45], argTypes := #[22] }, some (42, true), true⟩,
  ⟨some 47, .binOp .lss 3 (.tmp 43) (.tmp 46) 3, some (42, true), true⟩,
  ⟨some 48, .pick (.tmp 42) (.tmp 47) (.const (.bool false)), none, true⟩]
theorem k27_r14_e : Eo P pr N k27_r14 e σ Q = Eo P pr N [
  ⟨some 37, .move (.tmp 5), none, true⟩,
  ⟨some 38, .fieldAddr 24 (.tmp 2) 3, none, true⟩,
  ⟨some 39, .load 22 (.tmp 38), none, true⟩,
  ⟨some 40, .call { callee := .builtin .len, args := #[.tmp 39], argTypes := #[22] }, none, true⟩,
  ⟨some 41, .binOp .lss 3 (.tmp 37) (.tmp 40) 3, none, true⟩,
  ⟨some 42, .move (.tmp 41), none, true⟩,
  ⟨some 43, .move (.tmp 5), some (42, true), true⟩,
  ⟨some 44, .fieldAddr 24 (.tmp 3) 3, some (42, true), true⟩,
  ⟨some 45, .load 22 (.tmp 44), some (42, true), true⟩,
  ⟨some 46, .call { callee := .builtin .len, args := #[.tmp 45], argTypes := #[22] }, some (42, true), true⟩,
  ⟨some 47, .binOp .lss 3 (.tmp 43) (.tmp 46) 3, some (42, true), true⟩,
  ⟨some 48, .pick (.tmp 42) (.tmp 47) (.const (.bool false)), none, true⟩] e σ Q := propext ⟨fun h => h, fun h => h⟩
def k27_r16 : List COp := [
  ⟨some 51, .fieldAddr 24 (.tmp 2) 3, none, false⟩,
  ⟨some 52, .load 22 (.tmp 51), none, false⟩,
  ⟨some 53, .move (.tmp 5), none, false⟩,
  ⟨some 54, .indexAddr 22 (.tmp 52) (.tmp 53), none, false⟩,
  ⟨some 55, .load 24 (.tmp 54), none, false⟩,
  ⟨some 56, .fieldAddr 24 (.tmp 3) 3, none, false⟩,
  ⟨some 57, .load 22 (.tmp 56), none, false⟩,
  ⟨some 58, .move (.tmp 5), none, true⟩,
  ⟨some 59, .indexAddr 22 (.tmp 57) (.tmp 58), none, true⟩,
  ⟨some 60, .load 24 (.tmp 59), none, true⟩,
  ⟨some 61, .call { callee := .value (.func 27), args := #[.tmp 55, .tmp 60], argTypes := #[24, 24] }, none, true⟩,
  ⟨some 6, .assign (.tmp 61), none, true⟩]
theorem k27_r16_e : Eo P pr N k27_r16 e σ Q = Eo P pr N [
  ⟨some 51, .fieldAddr 24 (.tmp 2) 3, none, false⟩,
  ⟨some 52, .load 22 (.tmp 51), none, false⟩,
  ⟨some 53, .move (.tmp 5), none, false⟩,
  ⟨some 54, .indexAddr 22 (.tmp 52) (.tmp 53), none, false⟩,
  ⟨some 55, .load 24 (.tmp 54), none, false⟩,
  ⟨some 56, .fieldAddr 24 (.tmp 3) 3, none, false⟩,
  ⟨some 57, .load 22 (.tmp 56), none, false⟩,
  ⟨some 58, .move (.tmp 5), none, true⟩,
  ⟨some 59, .indexAddr 22 (.tmp 57) (.tmp 58), none, true⟩,
  ⟨some 60, .load 24 (.tmp 59), none, true⟩,
  ⟨some 61, .call { callee := .value (.func 27), args := #[.tmp 55, .tmp 60], argTypes := #[24, 24] }, none, true⟩,
  ⟨some 6, .assign (.tmp 61), none, true⟩] e σ Q := propext ⟨fun h => h, fun h => h⟩
def k27_r17 : List COp := [
  ⟨some 62, .move (.tmp 6), none, true⟩,
  ⟨some 63, .binOp .neq 3 (.tmp 62) (.const (.int .i64 0)) 3, none, true⟩]
theorem k27_r17_e : Eo P pr N k27_r17 e σ Q = Eo P pr N [
  ⟨some 62, .move (.tmp 6), none, true⟩,
  ⟨some 63, .binOp .neq 3 (.tmp 62) (.const (.int .i64 0)) 3, none, true⟩] e σ Q := propext ⟨fun h => h, fun h => h⟩
def k27_r18 : List COp := [
  ⟨some 64, .move (.tmp 6), none, true⟩,
  ⟨some 4, .assign (.tmp 64), none, true⟩]
theorem k27_r18_e : Eo P pr N k27_r18 e σ Q = Eo P pr N [
  ⟨some 64, .move (.tmp 6), none, true⟩,
  ⟨some 4, .assign (.tmp 64), none, true⟩] e σ Q := propext ⟨fun h => h, fun h => h⟩
def k27_r15 : List COp := [
  ⟨some 49, .move (.tmp 5), none, true⟩,
  ⟨some 50, .binOp .add 3 (.tmp 49) (.const (.int .i64 1)) 3, none, true⟩,
  ⟨some 5, .assign (.tmp 50), none, true⟩]
theorem k27_r15_e : Eo P pr N k27_r15 e σ Q = Eo P pr N [
  ⟨some 49, .move (.tmp 5), none, true⟩,
  ⟨some 50, .binOp .add 3 (.tmp 49) (.const (.int .i64 1)) 3, none, true⟩,
  ⟨some 5, .assign (.tmp 50), none, true⟩] e σ Q := propext ⟨fun h => h, fun h => h⟩
def k27_l0 : CC := (.seq (.seq (.region k27_r14) (.cond (.tmp 48) .skip (.exit 0))) (.seq (.block 1 (.seq (.region k27_r16) (.seq (.region k27_r17) (.cond (.tmp 63) (.seq (.region k27_r18) .ret) .skip)))) (.region k27_r15)))
theorem k27_l0_e : Ev P pr N k27_l0 e σ Q = Ev P pr N (.seq (.seq (.region k27_r14) (.cond (.tmp 48) .skip (.exit 0))) (.seq (.block 1 (.seq (.region k27_r16) (.seq (.region k27_r17) (.cond (.tmp 63) (.seq (.region k27_r18) .ret) .skip)))) (.region k27_r15))) e σ Q := propext ⟨fun h => h, fun h => h⟩
def k27_r19 : List COp := [
  ⟨some 65, .fieldAddr 24 (.tmp 2) 3, none, true⟩,
  ⟨some 66, .load 22 (.tmp 65), none, true⟩,
  ⟨some 67, .call { callee := .builtin .len, args := #[.tmp 66], argTypes := #[22] }, none, true⟩,
  ⟨some 68, .fieldAddr 24 (.tmp 3) 3, none, true⟩,
  ⟨some 69, .load 22 (.tmp 68), none, true⟩,
  ⟨some 70, .call { callee := .builtin .len, args := #[.tmp 69], argTypes := #[22] }, none, true⟩,
  ⟨some 71, .binOp .lss 3 (.tmp 67) (.tmp 70) 3, none, true⟩]
theorem k27_r19_e : Eo P pr N k27_r19 e σ Q = Eo P pr N [
  ⟨some 65, .fieldAddr 24 (.tmp 2) 3, none, true⟩,
  ⟨some 66, .load 22 (.tmp 65), none, true⟩,
  ⟨some 67, .call { callee := .builtin .len, args := #[.tmp 66], argTypes := #[22] }, none, true⟩,
  ⟨some 68, .fieldAddr 24 (.tmp 3) 3, none, true⟩,
  ⟨some 69, .load 22 (.tmp 68), none, true⟩,
  ⟨some 70, .call { callee := .builtin .len, args := #[.tmp 69], argTypes := #[22] }, none, true⟩,
  ⟨some 71, .binOp .lss 3 (.tmp 67) (.tmp 70) 3, none, true⟩] e σ Q := propext ⟨fun h => h, fun h => h⟩
def k27_r20 : List COp := [
  ⟨some 4, .assign (.const (.int .i64 (-1))), none, true⟩]
theorem k27_r20_e : Eo P pr N k27_r20 e σ Q = Eo P pr N [
  ⟨some 4, .assign (.const (.int .i64 (-1))), none, true⟩] e σ Q := propext ⟨fun h => h, fun h => h⟩
def k27_r21 : List COp := [
  ⟨some 72, .fieldAddr 24 (.tmp 2) 3, none, true⟩,
  ⟨some 73, .load 22 (.tmp 72), none, true⟩,
  ⟨some 74, .call { callee := .builtin .len, args := #[.tmp 73], argTypes := #[22] }, none, true⟩,
  ⟨some 75, .fieldAddr 24 (.tmp 3) 3, none, true⟩,
  ⟨some 76, .load 22 (.tmp 75), none, true⟩,
  ⟨some 77, .call { callee := .builtin .len, args := #[.tmp 76], argTypes := #[22] }, none, true⟩,
  ⟨some 78, .binOp .gtr 3 (.tmp 74) (.tmp 77) 3, none, true⟩]
theorem k27_r21_e : Eo P pr N k27_r21 e σ Q = Eo P pr N [
  ⟨some 72, .fieldAddr 24 (.tmp 2) 3, none, true⟩,
  ⟨some 73, .load 22 (.tmp 72), none, true⟩,
  ⟨some 74, .call { callee := .builtin .len, args := #[.tmp 73], argTypes := #[22] }, none, true⟩,
  ⟨some 75, .fieldAddr 24 (.tmp 3) 3, none, true⟩,
  ⟨some 76, .load 22 (.tmp 75), none, true⟩,
  ⟨some 77, .call { callee := .builtin .len, args := #[.tmp 76], argTypes := #[22] }, none, true⟩,
  ⟨some 78, .binOp .gtr 3 (.tmp 74) (.tmp 77) 3, none, true⟩] e σ Q := propext ⟨fun h => h, fun h => h⟩
def k27_r22 : List COp := [
  ⟨some 4, .assign (.const (.int .i64 1)), none, true⟩]
theorem k27_r22_e : Eo P pr N k27_r22 e σ Q = Eo P pr N [
  ⟨some 4, .assign (.const (.int .i64 1)), none, true⟩] e σ Q := propext ⟨fun h => h, fun h => h⟩
def k27_r23 : List COp := [
  ⟨some 4, .assign (.const (.int .i64 0)), none, true⟩]
theorem k27_r23_e : Eo P pr N k27_r23 e σ Q = Eo P pr N [
  ⟨some 4, .assign (.const (.int .i64 0)), none, true⟩] e σ Q := propext ⟨fun h => h, fun h => h⟩
def k27 : CC := (.seq (.region k27_r0) (.seq (.seq (.region k27_r1) (.cond (.tmp 11) (.seq (.seq (.region k27_r2) (.cond (.tmp 16) (.seq (.region k27_r3) .ret) .skip)) (.seq (.region k27_r4) .ret)) .skip)) (.seq (.seq (.region k27_r5) (.cond (.tmp 21) (.seq (.seq (.region k27_r6) (.cond (.tmp 26) (.seq (.region k27_r7) .ret) .skip)) (.seq (.region k27_r8) .ret)) .skip)) (.seq (.seq (.region k27_r9) (.cond (.tmp 31) (.seq (.seq (.region k27_r10) (.cond (.tmp 36) (.seq (.region k27_r11) .ret) .skip)) (.seq (.region k27_r12) .ret)) .skip)) (.seq (.seq (.region k27_r13) (.block 0 (.loop k27_l0))) (.seq (.seq (.region k27_r19) (.cond (.tmp 71) (.seq (.region k27_r20) .ret) .skip)) (.seq (.seq (.region k27_r21) (.cond (.tmp 78) (.seq (.region k27_r22) .ret) .skip)) (.seq (.region k27_r23) .ret))))))))
theorem k27_e : Ev P pr N k27 e σ Q = Ev P pr N (.seq (.region k27_r0) (.seq (.seq (.region k27_r1) (.cond (.tmp 11) (.seq (.seq (.region k27_r2) (.cond (.tmp 16) (.seq (.region k27_r3) .ret) .skip)) (.seq (.region k27_r4) .ret)) .skip)) (.seq (.seq (.region k27_r5) (.cond (.tmp 21) (.seq (.seq (.region k27_r6) (.cond (.tmp 26) (.seq (.region k27_r7) .ret) .skip)) (.seq (.region k27_r8) .ret)) .skip)) (.seq (.seq (.region k27_r9) (.cond (.tmp 31) (.seq (.seq (.region k27_r10) (.cond (.tmp 36) (.seq (.region k27_r11) .ret) .skip)) (.seq (.region k27_r12) .ret)) .skip)) (.seq (.seq (.region k27_r13) (.block 0 (.loop k27_l0))) (.seq (.seq (.region k27_r19) (.cond (.tmp 71) (.seq (.region k27_r20) .ret) .skip)) (.seq (.seq (.region k27_r21) (.cond (.tmp 78) (.seq (.region k27_r22) .ret) .skip)) (.seq (.region k27_r23) .ret)))))))) e σ Q := propext ⟨fun h => h, fun h => h⟩
/-- quern/quernref09.Compare -/
theorem k27_is : FnIs Try.prog prims 27 79 [ResultVar.tmp 4] k27 := FnIs.of_fn Try.func27 (by kernel_rfl) rfl
def k28_r0 : List COp := [
  ⟨some 1, .box 24 (.tmp 0), none, true⟩,
  ⟨some 2, .assign (.const (.int .i64 0)), none, true⟩]
theorem k28_r0_e : Eo P pr N k28_r0 e σ Q = Eo P pr N [
  ⟨some 1, .box 24 (.tmp 0), none, true⟩,
  ⟨some 2, .assign (.const (.int .i64 0)), none, true⟩] e σ Q := propext ⟨fun h => h, fun h => h⟩
def k28_r1 : List COp := [
  ⟨some 6, .fieldAddr 24 (.tmp 1) 2, none, true⟩,
  ⟨some 7, .load 9 (.tmp 6), none, true⟩,
  ⟨some 8, .call { callee := .builtin .len, args := #[.tmp 7], argTypes := #[9] }, none, true⟩,
  ⟨some 9, .binOp .add 3 (.const (.int .i64 1)) (.tmp 8) 3, none, true⟩,
  ⟨some 3, .assign (.tmp 9), none, true⟩]
theorem k28_r1_e : Eo P pr N k28_r1 e σ Q = Eo P pr N [
  ⟨some 6, .fieldAddr 24 (.tmp 1) 2, none, true⟩,
  ⟨some 7, .load 9 (.tmp 6), none, true⟩,
  ⟨some 8, .call { callee := .builtin .len, args := #[.tmp 7], argTypes := #[9] }, none, true⟩,
  ⟨some 9, .binOp .add 3 (.const (.int .i64 1)) (.tmp 8) 3, none, true⟩,
  ⟨some 3, .assign (.tmp 9), none, true⟩] e σ Q := propext ⟨fun h => h, fun h => h⟩
def k28_r2 : List COp := [
  ⟨some 10, .fieldAddr 24 (.tmp 1) 3, none, true⟩,
  ⟨some 11, .load 22 (.tmp 10), none, true⟩,
  ⟨some 12, .call { callee := .builtin .len, args := #[.tmp 11], argTypes := #[22] }, none, true⟩,
  ⟨some 13, .move (.const (.int .i64 0)), none, true⟩]
theorem k28_r2_e : Eo P pr N k28_r2 e σ Q = Eo P pr N [
  ⟨some 10, .fieldAddr 24 (.tmp 1) 3, none, true⟩,
  ⟨some 11, .load 22 (.tmp 10), none, true⟩,
  ⟨some 12, .call { callee := .builtin .len, args := #[.tmp 11], argTypes := #[22] }, none, true⟩,
  ⟨some 13, .move (.const (.int .i64 0)), none, true⟩] e σ Q := propext ⟨fun h => h, fun h => h⟩
def k28_r3 : List COp := [
  ⟨some 14, .binOp .lss 3 (.tmp 13) (.tmp 12) 3, none, true⟩]
theorem k28_r3_e : Eo P pr N k28_r3 e σ Q = Eo P pr N [
  ⟨some 14, .binOp .lss 3 (.tmp 13) (.tmp 12) 3, none, true⟩] e σ Q := propext ⟨fun h => h, fun h => h⟩
def k28_r4 : List COp := [
  ⟨some 15, .indexAddr 22 (.tmp 11) (.tmp 13), none, true⟩,
  ⟨some 16, .load 24 (.tmp 15), none, true⟩,
  ⟨some 5, .alloc 24, none, true⟩,
  ⟨none, .store 24 (.tmp 5) (.tmp 16), none, true⟩]
theorem k28_r4_e : Eo P pr N k28_r4 e σ Q = Eo P pr N [
  ⟨some 15, .indexAddr 22 (.tmp 11) (.tmp 13), none, true⟩,
  ⟨some 16, .load 24 (.tmp 15), none, true⟩,
  ⟨some 5, .alloc 24, none, true⟩,
  ⟨none, .store 24 (.tmp 5) (.tmp 16), none, true⟩] e σ Q := propext ⟨fun h => h, fun h => h⟩
def k28_r5 : List COp := [
  ⟨some 17, .move (.tmp 3), none, true⟩,
  ⟨some 18, .load 24 (.tmp 5), none, true⟩,
  ⟨some 19, .call { callee := .value (.func 28), args := #[.tmp 18], argTypes := #[24] }, none, true⟩,
  ⟨some 20, .binOp .add 3 (.tmp 17) (.tmp 19) 3, none, true⟩,
  ⟨some 3, .assign (.tmp 20), none, true⟩]
theorem k28_r5_e : Eo P pr N k28_r5 e σ Q = Eo P pr N [
  ⟨some 17, .move (.tmp 3), none, true⟩,
  ⟨some 18, .load 24 (.tmp 5), none, true⟩,
  ⟨some 19, .call { callee := .value (.func 28), args := #[.tmp 18], argTypes := #[24] }, none, true⟩,
  ⟨some 20, .binOp .add 3 (.tmp 17) (.tmp 19) 3, none, true⟩,
  ⟨some 3, .assign (.tmp 20), none, true⟩] e σ Q := propext ⟨fun h => h, fun h => h⟩
def k28_r6 : List COp := [
  ⟨some 21, .binOp .add 3 (.tmp 13) (.const (.int .i64 1)) 3, none, true⟩,
  ⟨some 13, .move (.tmp 21), none, true⟩]
theorem k28_r6_e : Eo P pr N k28_r6 e σ Q = Eo P pr N [
  ⟨some 21, .binOp .add 3 (.tmp 13) (.const (.int .i64 1)) 3, none, true⟩,
  ⟨some 13, .move (.tmp 21), none, true⟩] e σ Q := propext ⟨fun h => h, fun h => h⟩
def k28_l0 : CC := (.seq (.region k28_r3) (.seq (.cond (.tmp 14) .skip (.exit 0)) (.seq (.block 1 (.seq (.region k28_r4) (.region k28_r5))) (.region k28_r6))))
theorem k28_l0_e : Ev P pr N k28_l0 e σ Q = Ev P pr N (.seq (.region k28_r3) (.seq (.cond (.tmp 14) .skip (.exit 0)) (.seq (.block 1 (.seq (.region k28_r4) (.region k28_r5))) (.region k28_r6)))) e σ Q := propext ⟨fun h => h, fun h => h⟩
def k28_r7 : List COp := [
  ⟨some 22, .move (.tmp 3), none, true⟩,
  ⟨some 2, .assign (.tmp 22), none, true⟩]
theorem k28_r7_e : Eo P pr N k28_r7 e σ Q = Eo P pr N [
  ⟨some 22, .move (.tmp 3), none, true⟩,
  ⟨some 2, .assign (.tmp 22), none, true⟩] e σ Q := propext ⟨fun h => h, fun h => h⟩
def k28 : CC := (.seq (.region k28_r0) (.seq (.region k28_r1) (.seq (.seq (.region k28_r2) (.block 0 (.loop k28_l0))) (.seq (.region k28_r7) .ret))))
theorem k28_e : Ev P pr N k28 e σ Q = Ev P pr N (.seq (.region k28_r0) (.seq (.region k28_r1) (.seq (.seq (.region k28_r2) (.block 0 (.loop k28_l0))) (.seq (.region k28_r7) .ret)))) e σ Q := propext ⟨fun h => h, fun h => h⟩
/-- quern/value.Weight -/
theorem k28_is : FnIs Try.prog prims 28 23 [ResultVar.tmp 2] k28 := FnIs.of_fn Try.func28 (by kernel_rfl) rfl
def k29_r0 : List COp := [
  ⟨some 1, .box 24 (.tmp 0), none, true⟩,
  ⟨some 2, .assign (.const (.int .i64 0)), none, true⟩]
theorem k29_r0_e : Eo P pr N k29_r0 e σ Q = Eo P pr N [
  ⟨some 1, .box 24 (.tmp 0), none, true⟩,
  ⟨some 2, .assign (.const (.int .i64 0)), none, true⟩] e σ Q := propext ⟨fun h => h, fun h => h⟩
def k29_r1 : List COp := [
  ⟨some 6, .fieldAddr 24 (.tmp 1) 2, none, true⟩,
  ⟨some 7, .load 9 (.tmp 6), none, true⟩,
  ⟨some 8, .call { callee := .builtin .len, args := #[.tmp 7], argTypes := #[9] }, none, true⟩,
  ⟨some 9, .binOp .add 3 (.const (.int .i64 1)) (.tmp 8) 3, none, true⟩,
  ⟨some 3, .assign (.tmp 9), none, true⟩]
theorem k29_r1_e : Eo P pr N k29_r1 e σ Q = Eo P pr N [
  ⟨some 6, .fieldAddr 24 (.tmp 1) 2, none, true⟩,
  ⟨some 7, .load 9 (.tmp 6), none, true⟩,
  ⟨some 8, .call { callee := .builtin .len, args := #[.tmp 7], argTypes := #[9] }, none, true⟩,
  ⟨some 9, .binOp .add 3 (.const (.int .i64 1)) (.tmp 8) 3, none, true⟩,
  ⟨some 3, .assign (.tmp 9), none, true⟩] e σ Q := propext ⟨fun h => h, fun h => h⟩
def k29_r2 : List COp := [
  ⟨some 10, .fieldAddr 24 (.tmp 1) 3, none, true⟩,
  ⟨some 11, .load 22 (.tmp 10), none, true⟩,
  ⟨some 12, .call { callee := .builtin .len, args := #[.tmp 11], argTypes := #[22] }, none, true⟩,
  ⟨some 13, .move (.const (.int .i64 0)), none, true⟩]
theorem k29_r2_e : Eo P pr N k29_r2 e σ Q = Eo P pr N [
  ⟨some 10, .fieldAddr 24 (.tmp 1) 3, none, true⟩,
  ⟨some 11, .load 22 (.tmp 10), none, true⟩,
  ⟨some 12, .call { callee := .builtin .len, args := #[.tmp 11], argTypes := #[22] }, none, true⟩,
  ⟨some 13, .move (.const (.int .i64 0)), none, true⟩] e σ Q := propext ⟨fun h => h, fun h => h⟩
def k29_r3 : List COp := [
  ⟨some 14, .binOp .lss 3 (.tmp 13) (.tmp 12) 3, none, true⟩]
theorem k29_r3_e : Eo P pr N k29_r3 e σ Q = Eo P pr N [
  ⟨some 14, .binOp .lss 3 (.tmp 13) (.tmp 12) 3, none, true⟩] e σ Q := propext ⟨fun h => h, fun h => h⟩
def k29_r4 : List COp := [
  ⟨some 15, .indexAddr 22 (.tmp 11) (.tmp 13), none, true⟩,
  ⟨some 16, .load 24 (.tmp 15), none, true⟩,
  ⟨some 5, .alloc 24, none, true⟩,
  ⟨none, .store 24 (.tmp 5) (.tmp 16), none, true⟩]
theorem k29_r4_e : Eo P pr N k29_r4 e σ Q = Eo P pr N [
  ⟨some 15, .indexAddr 22 (.tmp 11) (.tmp 13), none, true⟩,
  ⟨some 16, .load 24 (.tmp 15), none, true⟩,
  ⟨some 5, .alloc 24, none, true⟩,
  ⟨none, .store 24 (.tmp 5) (.tmp 16), none, true⟩] e σ Q := propext ⟨fun h => h, fun h => h⟩
def k29_r5 : List COp := [
  ⟨some 17, .move (.tmp 3), none, true⟩,
  ⟨some 18, .load 24 (.tmp 5), none, true⟩,
  ⟨some 19, .call { callee := .value (.func 29), args := #[.tmp 18], argTypes := #[24] }, none, true⟩,
  ⟨some 20, .binOp .add 3 (.tmp 17) (.tmp 19) 3, none, true⟩,
  ⟨some 3, .assign (.tmp 20), none, true⟩]
theorem k29_r5_e : Eo P pr N k29_r5 e σ Q = Eo P pr N [
  ⟨some 17, .move (.tmp 3), none, true⟩,
  ⟨some 18, .load 24 (.tmp 5), none, true⟩,
  ⟨some 19, .call { callee := .value (.func 29), args := #[.tmp 18], argTypes := #[24] }, none, true⟩,
  ⟨some 20, .binOp .add 3 (.tmp 17) (.tmp 19) 3, none, true⟩,
  ⟨some 3, .assign (.tmp 20), none, true⟩] e σ Q := propext ⟨fun h => h, fun h => h⟩
def k29_r6 : List COp := [
  ⟨some 21, .binOp .add 3 (.tmp 13) (.const (.int .i64 1)) 3, none, true⟩,
  ⟨some 13, .move (.tmp 21), none, true⟩]
theorem k29_r6_e : Eo P pr N k29_r6 e σ Q = Eo P pr N [
  ⟨some 21, .binOp .add 3 (.tmp 13) (.const (.int .i64 1)) 3, none, true⟩,
  ⟨some 13, .move (.tmp 21), none, true⟩] e σ Q := propext ⟨fun h => h, fun h => h⟩
def k29_l0 : CC := (.seq (.region k29_r3) (.seq (.cond (.tmp 14) .skip (.exit 0)) (.seq (.block 1 (.seq (.region k29_r4) (.region k29_r5))) (.region k29_r6))))
theorem k29_l0_e : Ev P pr N k29_l0 e σ Q = Ev P pr N (.seq (.region k29_r3) (.seq (.cond (.tmp 14) .skip (.exit 0)) (.seq (.block 1 (.seq (.region k29_r4) (.region k29_r5))) (.region k29_r6)))) e σ Q := propext ⟨fun h => h, fun h => h⟩
def k29_r7 : List COp := [
  ⟨some 22, .move (.tmp 3), none, true⟩,
  ⟨some 2, .assign (.tmp 22), none, true⟩]
theorem k29_r7_e : Eo P pr N k29_r7 e σ Q = Eo P pr N [
  ⟨some 22, .move (.tmp 3), none, true⟩,
  ⟨some 2, .assign (.tmp 22), none, true⟩] e σ Q := propext ⟨fun h => h, fun h => h⟩
def k29 : CC := (.seq (.region k29_r0) (.seq (.region k29_r1) (.seq (.seq (.region k29_r2) (.block 0 (.loop k29_l0))) (.seq (.region k29_r7) .ret))))
theorem k29_e : Ev P pr N k29 e σ Q = Ev P pr N (.seq (.region k29_r0) (.seq (.region k29_r1) (.seq (.seq (.region k29_r2) (.block 0 (.loop k29_l0))) (.seq (.region k29_r7) .ret)))) e σ Q := propext ⟨fun h => h, fun h => h⟩
/-- quern/quernref09.Weight -/
theorem k29_is : FnIs Try.prog prims 29 23 [ResultVar.tmp 2] k29 := FnIs.of_fn Try.func29 (by kernel_rfl) rfl
def k56_r0 : List COp := [
  ⟨some 2, .assign (.const (.int .i64 0)), none, true⟩]
theorem k56_r0_e : Eo P pr N k56_r0 e σ Q = Eo P pr N [
  ⟨some 2, .assign (.const (.int .i64 0)), none, true⟩] e σ Q := propext ⟨fun h => h, fun h => h⟩
def k56_r1 : List COp := [
  ⟨some 3, .assign (.const (.int .i64 0)), none, true⟩]
theorem k56_r1_e : Eo P pr N k56_r1 e σ Q = Eo P pr N [
  ⟨some 3, .assign (.const (.int .i64 0)), none, true⟩] e σ Q := propext ⟨fun h => h, fun h => h⟩
def k56_r2 : List COp := [
  ⟨some 6, .move (.tmp 0), none, true⟩,
  ⟨some 7, .call { callee := .builtin .len, args := #[.tmp 6], argTypes := #[86] }, none, true⟩,
  ⟨some 8, .move (.const (.int .i64 0)), none, true⟩]
theorem k56_r2_e : Eo P pr N k56_r2 e σ Q = Eo P pr N [
  ⟨some 6, .move (.tmp 0), none, true⟩,
  ⟨some 7, .call { callee := .builtin .len, args := #[.tmp 6], argTypes := #[86] }, none, true⟩,
  ⟨some 8, .move (.const (.int .i64 0)), none, true⟩] e σ Q := propext ⟨fun h => h, fun h => h⟩
def k56_r3 : List COp := [
  ⟨some 9, .binOp .lss 3 (.tmp 8) (.tmp 7) 3, none, true⟩]
theorem k56_r3_e : Eo P pr N k56_r3 e σ Q = Eo P pr N [
  ⟨some 9, .binOp .lss 3 (.tmp 8) (.tmp 7) 3, none, true⟩] e σ Q := propext ⟨fun h => h, fun h => h⟩
def k56_r4 : List COp := [
  ⟨some 10, .indexAddr 86 (.tmp 6) (.tmp 8), none, true⟩,
  ⟨some 11, .load 3 (.tmp 10), none, true⟩,
  ⟨some 5, .assign (.tmp 11), none, true⟩]
theorem k56_r4_e : Eo P pr N k56_r4 e σ Q = Eo P pr N [
  ⟨some 10, .indexAddr 86 (.tmp 6) (.tmp 8), none, true⟩,
  ⟨some 11, .load 3 (.tmp 10), none, true⟩,
  ⟨some 5, .assign (.tmp 11), none, true⟩] e σ Q := propext ⟨fun h => h, fun h => h⟩
def k56_r5 : List COp := [
  ⟨some 12, .move (.tmp 5), none, true⟩,
  ⟨some 13, .move (.tmp 3), none, true⟩,
  ⟨some 14, .binOp .neq 3 (.tmp 12) (.tmp 13) 3, none, true⟩]
theorem k56_r5_e : Eo P pr N k56_r5 e σ Q = Eo P pr N [
  ⟨some 12, .move (.tmp 5), none, true⟩,
  ⟨some 13, .move (.tmp 3), none, true⟩,
  ⟨some 14, .binOp .neq 3 (.tmp 12) (.tmp 13) 3, none, true⟩] e σ Q := propext ⟨fun h => h, fun h => h⟩
def k56_r6 : List COp := [
  ⟨some 15, .move (.tmp 5), none, true⟩,
  ⟨some 2, .assign (.tmp 15), none, true⟩]
theorem k56_r6_e : Eo P pr N k56_r6 e σ Q = Eo P pr N [
  ⟨some 15, .move (.tmp 5), none, true⟩,
  ⟨some 2, .assign (.tmp 15), none, true⟩] e σ Q := propext ⟨fun h => h, fun h => h⟩
def k56_r7 : List COp := [
  ⟨some 16, .binOp .add 3 (.tmp 8) (.const (.int .i64 1)) 3, none, true⟩,
  ⟨some 8, .move (.tmp 16), none, true⟩]
theorem k56_r7_e : Eo P pr N k56_r7 e σ Q = Eo P pr N [
  ⟨some 16, .binOp .add 3 (.tmp 8) (.const (.int .i64 1)) 3, none, true⟩,
  ⟨some 8, .move (.tmp 16), none, true⟩] e σ Q := propext ⟨fun h => h, fun h => h⟩
def k56_l0 : CC := (.seq (.region k56_r3) (.seq (.cond (.tmp 9) .skip (.exit 0)) (.seq (.block 1 (.seq (.region k56_r4) (.seq (.region k56_r5) (.cond (.tmp 14) (.seq (.region k56_r6) .ret) .skip)))) (.region k56_r7))))
theorem k56_l0_e : Ev P pr N k56_l0 e σ Q = Ev P pr N (.seq (.region k56_r3) (.seq (.cond (.tmp 9) .skip (.exit 0)) (.seq (.block 1 (.seq (.region k56_r4) (.seq (.region k56_r5) (.cond (.tmp 14) (.seq (.region k56_r6) .ret) .skip)))) (.region k56_r7)))) e σ Q := propext ⟨fun h => h, fun h => h⟩
def k56_r8 : List COp := [
  ⟨some 17, .move (.tmp 3), none, true⟩,
  ⟨some 2, .assign (.tmp 17), none, true⟩]
theorem k56_r8_e : Eo P pr N k56_r8 e σ Q = Eo P pr N [
  ⟨some 17, .move (.tmp 3), none, true⟩,
  ⟨some 2, .assign (.tmp 17), none, true⟩] e σ Q := propext ⟨fun h => h, fun h => h⟩
def k56 : CC := (.seq (.region k56_r0) (.seq (.region k56_r1) (.seq (.seq (.region k56_r2) (.block 0 (.loop k56_l0))) (.seq (.region k56_r8) .ret))))
theorem k56_e : Ev P pr N k56 e σ Q = Ev P pr N (.seq (.region k56_r0) (.seq (.region k56_r1) (.seq (.seq (.region k56_r2) (.block 0 (.loop k56_l0))) (.seq (.region k56_r8) .ret)))) e σ Q := propext ⟨fun h => h, fun h => h⟩
/-- cmp.Or[int] -/
theorem k56_is : FnIs Try.prog prims 56 18 [ResultVar.tmp 2] k56 := FnIs.of_fn Try.func56 (by kernel_rfl) rfl
def k57_r0 : List COp := [
  ⟨some 4, .assign (.const (.int .i64 0)), none, true⟩]
theorem k57_r0_e : Eo P pr N k57_r0 e σ Q = Eo P pr N [
  ⟨some 4, .assign (.const (.int .i64 0)), none, true⟩] e σ Q := propext ⟨fun h => h, fun h => h⟩
def k57_r1 : List COp := [
  ⟨some 7, .move (.tmp 0), none, true⟩,
  ⟨some 8, .call { callee := .value (.func 78), args := #[.tmp 7], argTypes := #[3] }, none, true⟩,
  ⟨some 5, .assign (.tmp 8), none, true⟩]
theorem k57_r1_e : Eo P pr N k57_r1 e σ Q = Eo P pr N [
  ⟨some 7, .move (.tmp 0), none, true⟩,
  ⟨some 8, .call { callee := .value (.func 78), args := #[.tmp 7], argTypes := #[3] }, none, true⟩,
  ⟨some 5, .assign (.tmp 8), none, true⟩] e σ Q := propext ⟨fun h => h, fun h => h⟩
def k57_r2 : List COp := [
  ⟨some 9, .move (.tmp 1), none, true⟩,
  ⟨some 10, .call { callee := .value (.func 78), args := #[.tmp 9], argTypes := #[3] }, none, true⟩,
  ⟨some 6, .assign (.tmp 10), none, true⟩]
theorem k57_r2_e : Eo P pr N k57_r2 e σ Q = Eo P pr N [
  ⟨some 9, .move (.tmp 1), none, true⟩,
  ⟨some 10, .call { callee := .value (.func 78), args := #[.tmp 9], argTypes := #[3] }, none, true⟩,
  ⟨some 6, .assign (.tmp 10), none, true⟩] e σ Q := propext ⟨fun h => h, fun h => h⟩
def k57_r3 : List COp := [
  ⟨some 11, .move (.tmp 5), none, true⟩]
theorem k57_r3_e : Eo P pr N k57_r3 e σ Q = Eo P pr N [
  ⟨some 11, .move (.tmp 5), none, true⟩] e σ Q := propext ⟨fun h => h, fun h => h⟩
def k57_r4 : List COp := [
  ⟨some 12, .move (.tmp 6), none, true⟩]
theorem k57_r4_e : Eo P pr N k57_r4 e σ Q = Eo P pr N [
  ⟨some 12, .move (.tmp 6), none, true⟩] e σ Q := propext ⟨fun h => h, fun h => h⟩
def k57_r5 : List COp := [
  ⟨some 4, .assign (.const (.int .i64 0)), none, true⟩]
theorem k57_r5_e : Eo P pr N k57_r5 e σ Q = Eo P pr N [
  ⟨some 4, .assign (.const (.int .i64 0)), none, true⟩] e σ Q := propext ⟨fun h => h, fun h => h⟩
def k57_r6 : List COp := [
  ⟨some 4, .assign (.const (.int .i64 (-1))), none, true⟩]
theorem k57_r6_e : Eo P pr N k57_r6 e σ Q = Eo P pr N [
  ⟨some 4, .assign (.const (.int .i64 (-1))), none, true⟩] e σ Q := propext ⟨fun h => h, fun h => h⟩
def k57_r7 : List COp := [
  ⟨some 13, .move (.tmp 6), none, true⟩]
theorem k57_r7_e : Eo P pr N k57_r7 e σ Q = Eo P pr N [
  ⟨some 13, .move (.tmp 6), none, true⟩] e σ Q := propext ⟨fun h => h, fun h => h⟩
def k57_r8 : List COp := [
  ⟨some 4, .assign (.const (.int .i64 1)), none, true⟩]
theorem k57_r8_e : Eo P pr N k57_r8 e σ Q = Eo P pr N [
  ⟨some 4, .assign (.const (.int .i64 1)), none, true⟩] e σ Q := propext ⟨fun h => h, fun h => h⟩
def k57_r9 : List COp := [
  ⟨some 14, .move (.tmp 0), none, true⟩,
  ⟨some 15, .move (.tmp 1), none, true⟩,
  ⟨some 16, .binOp .lss 3 (.tmp 14) (.tmp 15) 3, none, true⟩]
theorem k57_r9_e : Eo P pr N k57_r9 e σ Q = Eo P pr N [
  ⟨some 14, .move (.tmp 0), none, true⟩,
  ⟨some 15, .move (.tmp 1), none, true⟩,
  ⟨some 16, .binOp .lss 3 (.tmp 14) (.tmp 15) 3, none, true⟩] e σ Q := propext ⟨fun h => h, fun h => h⟩
def k57_r10 : List COp := [
  ⟨some 4, .assign (.const (.int .i64 (-1))), none, true⟩]
theorem k57_r10_e : Eo P pr N k57_r10 e σ Q = Eo P pr N [
  ⟨some 4, .assign (.const (.int .i64 (-1))), none, true⟩] e σ Q := propext ⟨fun h => h, fun h => h⟩
def k57_r11 : List COp := [
  ⟨some 17, .move (.tmp 0), none, true⟩,
  ⟨some 18, .move (.tmp 1), none, true⟩,
  ⟨some 19, .binOp .gtr 3 (.tmp 17) (.tmp 18) 3, none, true⟩]
theorem k57_r11_e : Eo P pr N k57_r11 e σ Q = Eo P pr N [
  ⟨some 17, .move (.tmp 0), none, true⟩,
  ⟨some 18, .move (.tmp 1), none, true⟩,
  ⟨some 19, .binOp .gtr 3 (.tmp 17) (.tmp 18) 3, none, true⟩] e σ Q := propext ⟨fun h => h, fun h => h⟩
def k57_r12 : List COp := [
  ⟨some 4, .assign (.const (.int .i64 1)), none, true⟩]
theorem k57_r12_e : Eo P pr N k57_r12 e σ Q = Eo P pr N [
  ⟨some 4, .assign (.const (.int .i64 1)), none, true⟩] e σ Q := propext ⟨fun h => h, fun h => h⟩
def k57_r13 : List COp := [
  ⟨some 4, .assign (.const (.int .i64 0)), none, true⟩]
theorem k57_r13_e : Eo P pr N k57_r13 e σ Q = Eo P pr N [
  ⟨some 4, .assign (.const (.int .i64 0)), none, true⟩] e σ Q := propext ⟨fun h => h, fun h => h⟩
def k57 : CC := (.seq (.region k57_r0) (.seq (.region k57_r1) (.seq (.region k57_r2) (.seq (.seq (.region k57_r3) (.cond (.tmp 11) (.seq (.seq (.region k57_r4) (.cond (.tmp 12) (.seq (.region k57_r5) .ret) .skip)) (.seq (.region k57_r6) .ret)) .skip)) (.seq (.seq (.region k57_r7) (.cond (.tmp 13) (.seq (.region k57_r8) .ret) .skip)) (.seq (.seq (.region k57_r9) (.cond (.tmp 16) (.seq (.region k57_r10) .ret) .skip)) (.seq (.seq (.region k57_r11) (.cond (.tmp 19) (.seq (.region k57_r12) .ret) .skip)) (.seq (.region k57_r13) .ret))))))))
theorem k57_e : Ev P pr N k57 e σ Q = Ev P pr N (.seq (.region k57_r0) (.seq (.region k57_r1) (.seq (.region k57_r2) (.seq (.seq (.region k57_r3) (.cond (.tmp 11) (.seq (.seq (.region k57_r4) (.cond (.tmp 12) (.seq (.region k57_r5) .ret) .skip)) (.seq (.region k57_r6) .ret)) .skip)) (.seq (.seq (.region k57_r7) (.cond (.tmp 13) (.seq (.region k57_r8) .ret) .skip)) (.seq (.seq (.region k57_r9) (.cond (.tmp 16) (.seq (.region k57_r10) .ret) .skip)) (.seq (.seq (.region k57_r11) (.cond (.tmp 19) (.seq (.region k57_r12) .ret) .skip)) (.seq (.region k57_r13) .ret)))))))) e σ Q := propext ⟨fun h => h, fun h => h⟩
/-- cmp.Compare[int] -/
theorem k57_is : FnIs Try.prog prims 57 20 [ResultVar.tmp 4] k57 := FnIs.of_fn Try.func57 (by kernel_rfl) rfl
def k59_r0 : List COp := [
  ⟨some 6, .assign (.const (.int .i64 0)), none, true⟩]
theorem k59_r0_e : Eo P pr N k59_r0 e σ Q = Eo P pr N [
  ⟨some 6, .assign (.const (.int .i64 0)), none, true⟩] e σ Q := propext ⟨fun h => h, fun h => h⟩
def k59_r1 : List COp := [
  ⟨some 11, .move (.tmp 0), none, true⟩,
  ⟨some 12, .call { callee := .builtin .len, args := #[.tmp 11], argTypes := #[22] }, none, true⟩,
  ⟨some 13, .move (.const (.int .i64 0)), none, true⟩]
theorem k59_r1_e : Eo P pr N k59_r1 e σ Q = Eo P pr N [
  ⟨some 11, .move (.tmp 0), none, true⟩,
  ⟨some 12, .call { callee := .builtin .len, args := #[.tmp 11], argTypes := #[22] }, none, true⟩,
  ⟨some 13, .move (.const (.int .i64 0)), none, true⟩] e σ Q := propext ⟨fun h => h, fun h => h⟩
def k59_r2 : List COp := [
  ⟨some 14, .binOp .lss 3 (.tmp 13) (.tmp 12) 3, none, true⟩]
theorem k59_r2_e : Eo P pr N k59_r2 e σ Q = Eo P pr N [
  ⟨some 14, .binOp .lss 3 (.tmp 13) (.tmp 12) 3, none, true⟩] e σ Q := propext ⟨fun h => h, fun h => h⟩
def k59_r3 : List COp := [
  ⟨some 15, .move (.tmp 13), none, true⟩,
  ⟨some 16, .indexAddr 22 (.tmp 11) (.tmp 13), none, true⟩,
  ⟨some 17, .load 24 (.tmp 16), none, true⟩,
  ⟨some 8, .alloc 24, none, true⟩,
  ⟨some 7, .assign (.tmp 15), none, true⟩,
  ⟨none, .store 24 (.tmp 8) (.tmp 17), none, true⟩]
theorem k59_r3_e : Eo P pr N k59_r3 e σ Q = Eo P pr N [
  ⟨some 15, .move (.tmp 13), none, true⟩,
  ⟨some 16, .indexAddr 22 (.tmp 11) (.tmp 13), none, true⟩,
  ⟨some 17, .load 24 (.tmp 16), none, true⟩,
  ⟨some 8, .alloc 24, none, true⟩,
  ⟨some 7, .assign (.tmp 15), none, true⟩,
  ⟨none, .store 24 (.tmp 8) (.tmp 17), none, true⟩] e σ Q := propext ⟨fun h => h, fun h => h⟩
def k59_r4 : List COp := [
  ⟨some 18, .move (.tmp 7), none, true⟩,
  ⟨some 19, .move (.tmp 1), none, true⟩,
  ⟨some 20, .call { callee := .builtin .len, args := #[.tmp 19], argTypes := #[22] }, none, true⟩,
  ⟨some 21, .binOp .geq 3 (.tmp 18) (.tmp 20) 3, none, true⟩]
theorem k59_r4_e : Eo P pr N k59_r4 e σ Q = Eo P pr N [
  ⟨some 18, .move (.tmp 7), none, true⟩,
  ⟨some 19, .move (.tmp 1), none, true⟩,
  ⟨some 20, .call { callee := .builtin .len, args := #[.tmp 19], argTypes := #[22] }, none, true⟩,
  ⟨some 21, .binOp .geq 3 (.tmp 18) (.tmp 20) 3, none, true⟩] e σ Q := propext ⟨fun h => h, fun h => h⟩
def k59_r5 : List COp := [
  ⟨some 6, .assign (.const (.int .i64 1)), none, true⟩]
theorem k59_r5_e : Eo P pr N k59_r5 e σ Q = Eo P pr N [
  ⟨some 6, .assign (.const (.int .i64 1)), none, true⟩] e σ Q := propext ⟨fun h => h, fun h => h⟩
def k59_r6 : List COp := [
  ⟨some 22, .move (.tmp 1), none, true⟩,
  ⟨some 23, .move (.tmp 7), none, true⟩,
  ⟨some 24, .indexAddr 22 (.tmp 22) (.tmp 23), none, true⟩,
  ⟨some 25, .load 24 (.tmp 24), none, true⟩,
  ⟨some 9, .alloc 24, none, true⟩,
  ⟨none, .store 24 (.tmp 9) (.tmp 25), none, true⟩]
theorem k59_r6_e : Eo P pr N k59_r6 e σ Q = Eo P pr N [
  ⟨some 22, .move (.tmp 1), none, true⟩,
  ⟨some 23, .move (.tmp 7), none, true⟩,
  ⟨some 24, .indexAddr 22 (.tmp 22) (.tmp 23), none, true⟩,
  ⟨some 25, .load 24 (.tmp 24), none, true⟩,
  ⟨some 9, .alloc 24, none, true⟩,
  ⟨none, .store 24 (.tmp 9) (.tmp 25), none, true⟩] e σ Q := propext ⟨fun h => h, fun h => h⟩
def k59_r7 : List COp := [
  ⟨some 26, .move (.tmp 2), none, true⟩,
  ⟨some 27, .load 24 (.tmp 8), none, true⟩,
  ⟨some 28, .load 24 (.tmp 9), none, true⟩,
  ⟨some 29, .call { callee := .value (.tmp 26), args := #[.tmp 27, .tmp 28], argTypes := #[24, 24] }, none, true⟩,
  ⟨some 10, .assign (.tmp 29), none, true⟩]
theorem k59_r7_e : Eo P pr N k59_r7 e σ Q = Eo P pr N [
  ⟨some 26, .move (.tmp 2), none, true⟩,
  ⟨some 27, .load 24 (.tmp 8), none, true⟩,
  ⟨some 28, .load 24 (.tmp 9), none, true⟩,
  ⟨some 29, .call { callee := .value (.tmp 26), args := #[.tmp 27, .tmp 28], argTypes := #[24, 24] }, none, true⟩,
  ⟨some 10, .assign (.tmp 29), none, true⟩] e σ Q := propext ⟨fun h => h, fun h => h⟩
def k59_r8 : List COp := [
  ⟨some 30, .move (.tmp 10), none, true⟩,
  ⟨some 31, .binOp .neq 3 (.tmp 30) (.const (.int .i64 0)) 3, none, true⟩]
theorem k59_r8_e : Eo P pr N k59_r8 e σ Q = Eo P pr N [
  ⟨some 30, .move (.tmp 10), none, true⟩,
  ⟨some 31, .binOp .neq 3 (.tmp 30) (.const (.int .i64 0)) 3, none, true⟩] e σ Q := propext ⟨fun h => h, fun h => h⟩
def k59_r9 : List COp := [
  ⟨some 32, .move (.tmp 10), none, true⟩,
  ⟨some 6, .assign (.tmp 32), none, true⟩]
theorem k59_r9_e : Eo P pr N k59_r9 e σ Q = Eo P pr N [
  ⟨some 32, .move (.tmp 10), none, true⟩,
  ⟨some 6, .assign (.tmp 32), none, true⟩] e σ Q := propext ⟨fun h => h, fun h => h⟩
def k59_r10 : List COp := [
  ⟨some 33, .binOp .add 3 (.tmp 13) (.const (.int .i64 1)) 3, none, true⟩,
  ⟨some 13, .move (.tmp 33), none, true⟩]
theorem k59_r10_e : Eo P pr N k59_r10 e σ Q = Eo P pr N [
  ⟨some 33, .binOp .add 3 (.tmp 13) (.const (.int .i64 1)) 3, none, true⟩,
  ⟨some 13, .move (.tmp 33), none, true⟩] e σ Q := propext ⟨fun h => h, fun h => h⟩
def k59_l0 : CC := (.seq (.region k59_r2) (.seq (.cond (.tmp 14) .skip (.exit 0)) (.seq (.block 1 (.seq (.region k59_r3) (.seq (.seq (.region k59_r4) (.cond (.tmp 21) (.seq (.region k59_r5) .ret) .skip)) (.seq (.region k59_r6) (.seq (.region k59_r7) (.seq (.region k59_r8) (.cond (.tmp 31) (.seq (.region k59_r9) .ret) .skip))))))) (.region k59_r10))))
theorem k59_l0_e : Ev P pr N k59_l0 e σ Q = Ev P pr N (.seq (.region k59_r2) (.seq (.cond (.tmp 14) .skip (.exit 0)) (.seq (.block 1 (.seq (.region k59_r3) (.seq (.seq (.region k59_r4) (.cond (.tmp 21) (.seq (.region k59_r5) .ret) .skip)) (.seq (.region k59_r6) (.seq (.region k59_r7) (.seq (.region k59_r8) (.cond (.tmp 31) (.seq (.region k59_r9) .ret) .skip))))))) (.region k59_r10)))) e σ Q := propext ⟨fun h => h, fun h => h⟩
def k59_r11 : List COp := [
  ⟨some 34, .move (.tmp 0), none, true⟩,
  ⟨some 35, .call { callee := .builtin .len, args := #[.tmp 34], argTypes := #[22] }, none, true⟩,
  ⟨some 36, .move (.tmp 1), none, true⟩,
  ⟨some 37, .call { callee := .builtin .len, args := #[.tmp 36], argTypes := #[22] }, none, true⟩,
  ⟨some 38, .binOp .lss 3 (.tmp 35) (.tmp 37) 3, none, true⟩]
theorem k59_r11_e : Eo P pr N k59_r11 e σ Q = Eo P pr N [
  ⟨some 34, .move (.tmp 0), none, true⟩,
  ⟨some 35, .call { callee := .builtin .len, args := #[.tmp 34], argTypes := #[22] }, none, true⟩,
  ⟨some 36, .move (.tmp 1), none, true⟩,
  ⟨some 37, .call { callee := .builtin .len, args := #[.tmp 36], argTypes := #[22] }, none, true⟩,
  ⟨some 38, .binOp .lss 3 (.tmp 35) (.tmp 37) 3, none, true⟩] e σ Q := propext ⟨fun h => h, fun h => h⟩
def k59_r12 : List COp := [
  ⟨some 6, .assign (.const (.int .i64 (-1))), none, true⟩]
theorem k59_r12_e : Eo P pr N k59_r12 e σ Q = Eo P pr N [
  ⟨some 6, .assign (.const (.int .i64 (-1))), none, true⟩] e σ Q := propext ⟨fun h => h, fun h => h⟩
def k59_r13 : List COp := [
  ⟨some 6, .assign (.const (.int .i64 0)), none, true⟩]
theorem k59_r13_e : Eo P pr N k59_r13 e σ Q = Eo P pr N [
  ⟨some 6, .assign (.const (.int .i64 0)), none, true⟩] e σ Q := propext ⟨fun h => h, fun h => h⟩
def k59 : CC := (.seq (.region k59_r0) (.seq (.seq (.region k59_r1) (.block 0 (.loop k59_l0))) (.seq (.seq (.region k59_r11) (.cond (.tmp 38) (.seq (.region k59_r12) .ret) .skip)) (.seq (.region k59_r13) .ret))))
theorem k59_e : Ev P pr N k59 e σ Q = Ev P pr N (.seq (.region k59_r0) (.seq (.seq (.region k59_r1) (.block 0 (.loop k59_l0))) (.seq (.seq (.region k59_r11) (.cond (.tmp 38) (.seq (.region k59_r12) .ret) .skip)) (.seq (.region k59_r13) .ret)))) e σ Q := propext ⟨fun h => h, fun h => h⟩
/-- slices.CompareFunc[[]quern/api.Value,[]quern/api.Value,quern/api.Value,quern/api.Value] -/
theorem k59_is : FnIs Try.prog prims 59 39 [ResultVar.tmp 6] k59 := FnIs.of_fn Try.func59 (by kernel_rfl) rfl
def k78_r0 : List COp := [
  ⟨some 2, .assign (.const (.bool false)), none, true⟩]
theorem k78_r0_e : Eo P pr N k78_r0 e σ Q = Eo P pr N [
  ⟨some 2, .assign (.const (.bool false)), none, true⟩] e σ Q := propext ⟨fun h => h, fun h => h⟩
def k78_r1 : List COp := [
  ⟨some 3, .move (.tmp 0), none, true⟩,
  ⟨some 4, .move (.tmp 0), none, true⟩,
  ⟨some 5, .binOp .neq 3 (.tmp 3) (.tmp 4) 3, none, true⟩,
  ⟨some 2, .assign (.tmp 5), none, true⟩]
theorem k78_r1_e : Eo P pr N k78_r1 e σ Q = Eo P pr N [
  ⟨some 3, .move (.tmp 0), none, true⟩,
  ⟨some 4, .move (.tmp 0), none, true⟩,
  ⟨some 5, .binOp .neq 3 (.tmp 3) (.tmp 4) 3, none, true⟩,
  ⟨some 2, .assign (.tmp 5), none, true⟩] e σ Q := propext ⟨fun h => h, fun h => h⟩
def k78 : CC := (.seq (.region k78_r0) (.seq (.region k78_r1) .ret))
theorem k78_e : Ev P pr N k78 e σ Q = Ev P pr N (.seq (.region k78_r0) (.seq (.region k78_r1) .ret)) e σ Q := propext ⟨fun h => h, fun h => h⟩
/-- cmp.isNaN[int] -/
theorem k78_is : FnIs Try.prog prims 78 6 [ResultVar.tmp 2] k78 := FnIs.of_fn Try.func78 (by kernel_rfl) rfl
end Go.Proofs.Ytlimedbanpfkgaa.Q
