/- The code of some functions without its ornaments. Written by gen.py. -/
import Derived.Test.YtcogghmmlndmgaaQp
import Derived.Test.YtcogghmmlndmgaaChecked
set_option maxRecDepth 100000
namespace Go.Proofs.Ytcogghmmlndmgaa.Q
open Go Go.RowKit Go.Proofs
variable {P : Program} {pr : Prim} {N : Nat} {e : Nat → V} {σ : St} {Q : VX → (Nat → V) → St → Prop}
def k3_r0 : List COp := [
  ⟨some 2, .box 24 (.tmp 0), none, true⟩,
  ⟨some 3, .box 24 (.tmp 1), none, true⟩,
  ⟨some 4, .assign (.const (.bool false)), none, true⟩]
theorem k3_r0_e : Eo P pr N k3_r0 e σ Q = Eo P pr N [
  ⟨some 2, .box 24 (.tmp 0), none, true⟩,
  ⟨some 3, .box 24 (.tmp 1), none, true⟩,
  ⟨some 4, .assign (.const (.bool false)), none, true⟩] e σ Q := propext ⟨fun h => h, fun h => h⟩
def k3_r1 : List COp := [
  ⟨some 9, .call { callee := .value (.func 9), args := #[], argTypes := #[] }, none, true⟩,
  ⟨some 10, .unOp .not 4 (.tmp 9), none, true⟩]
theorem k3_r1_e : Eo P pr N k3_r1 e σ Q = Eo P pr N [
  ⟨some 9, .call { callee := .value (.func 9), args := #[], argTypes := #[] }, none, true⟩,
  ⟨some 10, .unOp .not 4 (.tmp 9), none, true⟩] e σ Q := propext ⟨fun h => h, fun h => h⟩
def k3_r2 : List COp := [
  ⟨some 4, .assign (.const (.bool false)), none, true⟩]
theorem k3_r2_e : Eo P pr N k3_r2 e σ Q = Eo P pr N [
  ⟨some 4, .assign (.const (.bool false)), none, true⟩] e σ Q := propext ⟨fun h => h, fun h => h⟩
def k3_r3 : List COp := [
  ⟨some 11, .load 24 (.tmp 2), none, true⟩,
  ⟨some 12, .call { callee := .value (.func 10), args := #[.tmp 11], argTypes := #[24] }, none, true⟩,
  ⟨some 13, .move (.tmp 12), none, true⟩,
  ⟨some 14, .load 24 (.tmp 3), some (13, false), true⟩,
  ⟨some 15, .call { callee := .value (.func 10), args := #[.tmp 14], argTypes := #[24] }, some (13, false), true⟩,
  ⟨some 16, .pick (.tmp 13) (.const (.bool true)) (.tmp 15), none, true⟩]
theorem k3_r3_e : Eo P pr N k3_r3 e σ Q = Eo P pr N [
  ⟨some 11, .load 24 (.tmp 2), none, true⟩,
  ⟨some 12, .call { callee := .value (.func 10), args := #[.tmp 11], argTypes := #[24] }, none, true⟩,
  ⟨some 13, .move (.tmp 12), none, true⟩,
  ⟨some 14, .load 24 (.tmp 3), some (13, false), true⟩,
  ⟨some 15, .call { callee := .value (.func 10), args := #[.tmp 14], argTypes := #[24] }, some (13, false), true⟩,
  ⟨some 16, .pick (.tmp 13) (.const (.bool true)) (.tmp 15), none, true⟩] e σ Q := propext ⟨fun h => h, fun h => h⟩
def k3_r4 : List COp := [
  ⟨some 4, .assign (.const (.bool true)), none, true⟩]
theorem k3_r4_e : Eo P pr N k3_r4 e σ Q = Eo P pr N [
  ⟨some 4, .assign (.const (.bool true)), none, true⟩] e σ Q := propext ⟨fun h => h, fun h => h⟩
def k3_r5 : List COp := [
  ⟨some 18, .load 24 (.tmp 2), none, true⟩,
  ⟨some 19, .call { callee := .value (.func 11), args := #[.tmp 18], argTypes := #[24] }, none, true⟩,
  ⟨some 17, .move (.tmp 19), none, true⟩,
  ⟨some 20, .extract (.tmp 17) 0, none, true⟩,
  ⟨some 21, .extract (.tmp 17) 1, none, true⟩,
  ⟨some 5, .assign (.tmp 20), none, true⟩,
  ⟨some 6, .assign (.tmp 21), none, true⟩]
theorem k3_r5_e : Eo P pr N k3_r5 e σ Q = Eo P pr N [
  ⟨some 18, .load 24 (.tmp 2), none, true⟩,
  ⟨some 19, .call { callee := .value (.func 11), args := #[.tmp 18], argTypes := #[24] }, none, true⟩,
  ⟨some 17, .move (.tmp 19), none, true⟩,
  ⟨some 20, .extract (.tmp 17) 0, none, true⟩,
  ⟨some 21, .extract (.tmp 17) 1, none, true⟩,
  ⟨some 5, .assign (.tmp 20), none, true⟩,
  ⟨some 6, .assign (.tmp 21), none, true⟩] e σ Q := propext ⟨fun h => h, fun h => h⟩
def k3_r6 : List COp := [
  ⟨some 23, .load 24 (.tmp 3), none, true⟩,
  ⟨some 24, .call { callee := .value (.func 11), args := #[.tmp 23], argTypes := #[24] }, none, true⟩,
  ⟨some 22, .move (.tmp 24), none, true⟩,
  ⟨some 25, .extract (.tmp 22) 0, none, true⟩,
  ⟨some 26, .extract (.tmp 22) 1, none, true⟩,
  ⟨some 7, .assign (.tmp 25), none, true⟩,
  ⟨some 8, .assign (.tmp 26), none, true⟩]
theorem k3_r6_e : Eo P pr N k3_r6 e σ Q = Eo P pr N [
  ⟨some 23, .load 24 (.tmp 3), none, true⟩,
  ⟨some 24, .call { callee := .value (.func 11), args := #[.tmp 23], argTypes := #[24] }, none, true⟩,
  ⟨some 22, .move (.tmp 24), none, true⟩,
  ⟨some 25, .extract (.tmp 22) 0, none, true⟩,
  ⟨some 26, .extract (.tmp 22) 1, none, true⟩,
  ⟨some 7, .assign (.tmp 25), none, true⟩,
  ⟨some 8, .assign (.tmp 26), none, true⟩] e σ Q := propext ⟨fun h => h, fun h => h⟩
def k3_r7 : List COp := [
  ⟨some 27, .move (.tmp 6), none, true⟩,
  ⟨some 28, .binOp .neq 28 (.tmp 27) (.const (.int .i64 0)) 28, none, true⟩,
  ⟨some 29, .move (.tmp 28), none, true⟩,
  ⟨some 30, .move (.tmp 8), some (29, false), true⟩,
  ⟨some 31, .binOp .neq 28 (.tmp 30) (.const (.int .i64 0)) 28, some (29, false), true⟩,
  ⟨some 32, .pick (.tmp 29) (.const (.bool true)) (.tmp 31), none, true⟩]
theorem k3_r7_e : Eo P pr N k3_r7 e σ Q = Eo P pr N [
  ⟨some 27, .move (.tmp 6), none, true⟩,
  ⟨some 28, .binOp .neq 28 (.tmp 27) (.const (.int .i64 0)) 28, none, true⟩,
  ⟨some 29, .move (.tmp 28), none, true⟩,
  ⟨some 30, .move (.tmp 8), some (29, false), true⟩,
  ⟨some 31, .binOp .neq 28 (.tmp 30) (.const (.int .i64 0)) 28, some (29, false), true⟩,
  ⟨some 32, .pick (.tmp 29) (.const (.bool true)) (.tmp 31), none, true⟩] e σ Q := propext ⟨fun h => h, fun h => h⟩
def k3_r8 : List COp := [
  ⟨some 4, .assign (.const (.bool true)), none, true⟩]
theorem k3_r8_e : Eo P pr N k3_r8 e σ Q = Eo P pr N [
  ⟨some 4, .assign (.const (.bool true)), none, true⟩] e σ Q := propext ⟨fun h => h, fun h => h⟩
def k3_r9 : List COp := [
  ⟨some 33, .move (.tmp 5), none, false⟩,
  ⟨some 34, .convert 27 9 (.tmp 33), none, false⟩,
  ⟨some 35, .move (.tmp 7), none, false⟩,
  ⟨some 36, .convert 27 9 (.tmp 35), none, false⟩,
  ⟨some 37, .binOp .eql 9 (.tmp 34) (.tmp 36) 9, none, false⟩,
  ⟨some 38, .load 24 (.tmp 2), none, false⟩,
  ⟨some 39, .load 24 (.tmp 3), none, true⟩,
  ⟨some 40, .call { callee := .value (.func 12), args := #[.tmp 38, .tmp 39], argTypes := #[24, 24] }, none, true⟩,
  ⟨some 41, .binOp .eql 4 (.tmp 37) (.tmp 40) 4, none, true⟩,
  ⟨some 4, .assign (.tmp 41), none, true⟩]
theorem k3_r9_e : Eo P pr N k3_r9 e σ Q = Eo P pr N [
  ⟨some 33, .move (.tmp 5), none, false⟩,
  ⟨some 34, .convert 27 9 (.tmp 33), none, false⟩,
  ⟨some 35, .move (.tmp 7), none, false⟩,
  ⟨some 36, .convert 27 9 (.tmp 35), none, false⟩,
  ⟨some 37, .binOp .eql 9 (.tmp 34) (.tmp 36) 9, none, false⟩,
  ⟨some 38, .load 24 (.tmp 2), none, false⟩,
  ⟨some 39, .load 24 (.tmp 3), none, true⟩,
  ⟨some 40, .call { callee := .value (.func 12), args := #[.tmp 38, .tmp 39], argTypes := #[24, 24] }, none, true⟩,
  ⟨some 41, .binOp .eql 4 (.tmp 37) (.tmp 40) 4, none, true⟩,
  ⟨some 4, .assign (.tmp 41), none, true⟩] e σ Q := propext ⟨fun h => h, fun h => h⟩
def k3 : CC := (.seq (.region k3_r0) (.seq (.seq (.region k3_r1) (.cond (.tmp 10) (.seq (.region k3_r2) .ret) .skip)) (.seq (.seq (.region k3_r3) (.cond (.tmp 16) (.seq (.region k3_r4) .ret) .skip)) (.seq (.region k3_r5) (.seq (.region k3_r6) (.seq (.seq (.region k3_r7) (.cond (.tmp 32) (.seq (.region k3_r8) .ret) .skip)) (.seq (.region k3_r9) .ret)))))))
theorem k3_e : Ev P pr N k3 e σ Q = Ev P pr N (.seq (.region k3_r0) (.seq (.seq (.region k3_r1) (.cond (.tmp 10) (.seq (.region k3_r2) .ret) .skip)) (.seq (.seq (.region k3_r3) (.cond (.tmp 16) (.seq (.region k3_r4) .ret) .skip)) (.seq (.region k3_r5) (.seq (.region k3_r6) (.seq (.seq (.region k3_r7) (.cond (.tmp 32) (.seq (.region k3_r8) .ret) .skip)) (.seq (.region k3_r9) .ret))))))) e σ Q := propext ⟨fun h => h, fun h => h⟩
/-- quern/quernlaw22.NetTells -/
theorem k3_is : FnIs Try.prog noPrim 3 42 [ResultVar.tmp 4] k3 := FnIs.of_fn Try.func3 (by kernel_rfl)
def k4_r0 : List COp := [
  ⟨some 3, .box 33 (.tmp 0), none, true⟩,
  ⟨some 6, .assign (.const (.bool false)), none, true⟩]
theorem k4_r0_e : Eo P pr N k4_r0 e σ Q = Eo P pr N [
  ⟨some 3, .box 33 (.tmp 0), none, true⟩,
  ⟨some 6, .assign (.const (.bool false)), none, true⟩] e σ Q := propext ⟨fun h => h, fun h => h⟩
def k4_r1 : List COp := [
  ⟨some 14, .call { callee := .value (.func 13), args := #[], argTypes := #[] }, none, true⟩,
  ⟨some 15, .unOp .not 4 (.tmp 14), none, true⟩]
theorem k4_r1_e : Eo P pr N k4_r1 e σ Q = Eo P pr N [
  ⟨some 14, .call { callee := .value (.func 13), args := #[], argTypes := #[] }, none, true⟩,
  ⟨some 15, .unOp .not 4 (.tmp 14), none, true⟩] e σ Q := propext ⟨fun h => h, fun h => h⟩
def k4_r2 : List COp := [
  ⟨some 6, .assign (.const (.bool false)), none, true⟩]
theorem k4_r2_e : Eo P pr N k4_r2 e σ Q = Eo P pr N [
  ⟨some 6, .assign (.const (.bool false)), none, true⟩] e σ Q := propext ⟨fun h => h, fun h => h⟩
def k4_r3 : List COp := [
  ⟨some 16, .load 33 (.tmp 3), none, true⟩,
  ⟨some 17, .call { callee := .value (.func 14), args := #[.tmp 16], argTypes := #[33] }, none, true⟩,
  ⟨some 18, .move (.tmp 17), none, true⟩,
  ⟨some 19, .move (.tmp 2), some (18, false), true⟩,
  ⟨some 20, .call { callee := .builtin .len, args := #[.tmp 19], argTypes := #[27] }, some (18, false), true⟩,
  ⟨some 21, .binOp .gtr 3 (.tmp 20) (.const (.int .i64 16384)) 3, some (18, false), true⟩,
  ⟨some 22, .pick (.tmp 18) (.const (.bool true)) (.tmp 21), none, true⟩]
theorem k4_r3_e : Eo P pr N k4_r3 e σ Q = Eo P pr N [
  ⟨some 16, .load 33 (.tmp 3), none, true⟩,
  ⟨some 17, .call { callee := .value (.func 14), args := #[.tmp 16], argTypes := #[33] }, none, true⟩,
  ⟨some 18, .move (.tmp 17), none, true⟩,
  ⟨some 19, .move (.tmp 2), some (18, false), true⟩,
  ⟨some 20, .call { callee := .builtin .len, args := #[.tmp 19], argTypes := #[27] }, some (18, false), true⟩,
  ⟨some 21, .binOp .gtr 3 (.tmp 20) (.const (.int .i64 16384)) 3, some (18, false), true⟩,
  ⟨some 22, .pick (.tmp 18) (.const (.bool true)) (.tmp 21), none, true⟩] e σ Q := propext ⟨fun h => h, fun h => h⟩
def k4_r4 : List COp := [
  ⟨some 6, .assign (.const (.bool true)), none, true⟩]
theorem k4_r4_e : Eo P pr N k4_r4 e σ Q = Eo P pr N [
  ⟨some 6, .assign (.const (.bool true)), none, true⟩] e σ Q := propext ⟨fun h => h, fun h => h⟩
def k4_r5 : List COp := [
  ⟨some 24, .load 33 (.tmp 3), none, true⟩,
  ⟨some 25, .move (.tmp 1), none, true⟩,
  ⟨some 26, .call { callee := .value (.func 15), args := #[.tmp 24, .tmp 25], argTypes := #[33, 3] }, none, true⟩,
  ⟨some 23, .move (.tmp 26), none, true⟩,
  ⟨some 27, .extract (.tmp 23) 0, none, true⟩,
  ⟨some 28, .extract (.tmp 23) 1, none, true⟩,
  ⟨some 7, .assign (.tmp 27), none, true⟩,
  ⟨some 8, .assign (.tmp 28), none, true⟩]
theorem k4_r5_e : Eo P pr N k4_r5 e σ Q = Eo P pr N [
  ⟨some 24, .load 33 (.tmp 3), none, true⟩,
  ⟨some 25, .move (.tmp 1), none, true⟩,
  ⟨some 26, .call { callee := .value (.func 15), args := #[.tmp 24, .tmp 25], argTypes := #[33, 3] }, none, true⟩,
  ⟨some 23, .move (.tmp 26), none, true⟩,
  ⟨some 27, .extract (.tmp 23) 0, none, true⟩,
  ⟨some 28, .extract (.tmp 23) 1, none, true⟩,
  ⟨some 7, .assign (.tmp 27), none, true⟩,
  ⟨some 8, .assign (.tmp 28), none, true⟩] e σ Q := propext ⟨fun h => h, fun h => h⟩
def k4_r6 : List COp := [
  ⟨some 29, .move (.tmp 8), none, true⟩,
  ⟨some 30, .binOp .eql 28 (.tmp 29) (.const (.int .i64 0)) 28, none, true⟩]
theorem k4_r6_e : Eo P pr N k4_r6 e σ Q = Eo P pr N [
  ⟨some 29, .move (.tmp 8), none, true⟩,
  ⟨some 30, .binOp .eql 28 (.tmp 29) (.const (.int .i64 0)) 28, none, true⟩] e σ Q := propext ⟨fun h => h, fun h => h⟩
def k4_r7 : List COp := [
  ⟨some 32, .move (.tmp 7), none, true⟩,
  ⟨some 33, .move (.tmp 1), none, true⟩,
  ⟨some 34, .call { callee := .value (.func 16), args := #[.tmp 32, .tmp 33], argTypes := #[27, 3] }, none, true⟩,
  ⟨some 31, .move (.tmp 34), none, true⟩,
  ⟨some 35, .extract (.tmp 31) 0, none, true⟩,
  ⟨some 36, .extract (.tmp 31) 1, none, true⟩,
  ⟨some 9, .alloc 33, none, true⟩,
  ⟨none, .store 33 (.tmp 9) (.tmp 35), none, true⟩,
  ⟨some 10, .assign (.tmp 36), none, true⟩]
theorem k4_r7_e : Eo P pr N k4_r7 e σ Q = Eo P pr N [
  ⟨some 32, .move (.tmp 7), none, true⟩,
  ⟨some 33, .move (.tmp 1), none, true⟩,
  ⟨some 34, .call { callee := .value (.func 16), args := #[.tmp 32, .tmp 33], argTypes := #[27, 3] }, none, true⟩,
  ⟨some 31, .move (.tmp 34), none, true⟩,
  ⟨some 35, .extract (.tmp 31) 0, none, true⟩,
  ⟨some 36, .extract (.tmp 31) 1, none, true⟩,
  ⟨some 9, .alloc 33, none, true⟩,
  ⟨none, .store 33 (.tmp 9) (.tmp 35), none, true⟩,
  ⟨some 10, .assign (.tmp 36), none, true⟩] e σ Q := propext ⟨fun h => h, fun h => h⟩
def k4_r8 : List COp := [
  ⟨some 37, .move (.tmp 10), none, true⟩,
  ⟨some 38, .binOp .neq 28 (.tmp 37) (.const (.int .i64 0)) 28, none, true⟩,
  ⟨some 39, .move (.tmp 38), none, true⟩,
  ⟨some 40, .load 33 (.tmp 9), some (39, false), true⟩,
  ⟨some 41, .load 33 (.tmp 3), some (39, false), true⟩,
  ⟨some 42, .call { callee := .value (.func 17), args := #[.tmp 40, .tmp 41], argTypes := #[33, 33] }, some (39, false), true⟩,
  ⟨some 43, .unOp .not 4 (.tmp 42), some (39, false), true⟩,
  ⟨some 44, .pick (.tmp 39) (.const (.bool true)) (.tmp 43), none, true⟩]
theorem k4_r8_e : Eo P pr N k4_r8 e σ Q = Eo P pr N [
  ⟨some 37, .move (.tmp 10), none, true⟩,
  ⟨some 38, .binOp .neq 28 (.tmp 37) (.const (.int .i64 0)) 28, none, true⟩,
  ⟨some 39, .move (.tmp 38), none, true⟩,
  ⟨some 40, .load 33 (.tmp 9), some (39, false), true⟩,
  ⟨some 41, .load 33 (.tmp 3), some (39, false), true⟩,
  ⟨some 42, .call { callee := .value (.func 17), args := #[.tmp 40, .tmp 41], argTypes := #[33, 33] }, some (39, false), true⟩,
  ⟨some 43, .unOp .not 4 (.tmp 42), some (39, false), true⟩,
  ⟨some 44, .pick (.tmp 39) (.const (.bool true)) (.tmp 43), none, true⟩] e σ Q := propext ⟨fun h => h, fun h => h⟩
def k4_r9 : List COp := [
  ⟨some 6, .assign (.const (.bool false)), none, true⟩]
theorem k4_r9_e : Eo P pr N k4_r9 e σ Q = Eo P pr N [
  ⟨some 6, .assign (.const (.bool false)), none, true⟩] e σ Q := propext ⟨fun h => h, fun h => h⟩
def k4_r10 : List COp := [
  ⟨some 11, .assign (.const (.int .i64 0)), none, true⟩]
theorem k4_r10_e : Eo P pr N k4_r10 e σ Q = Eo P pr N [
  ⟨some 11, .assign (.const (.int .i64 0)), none, true⟩] e σ Q := propext ⟨fun h => h, fun h => h⟩
def k4_r11 : List COp := [
  ⟨some 45, .move (.tmp 11), none, true⟩,
  ⟨some 46, .move (.tmp 7), none, true⟩,
  ⟨some 47, .call { callee := .builtin .len, args := #[.tmp 46], argTypes := #[27] }, none, true⟩,
  ⟨some 48, .binOp .lss 3 (.tmp 45) (.tmp 47) 3, none, true⟩]
theorem k4_r11_e : Eo P pr N k4_r11 e σ Q = Eo P pr N [
  ⟨some 45, .move (.tmp 11), none, true⟩,
  ⟨some 46, .move (.tmp 7), none, true⟩,
  ⟨some 47, .call { callee := .builtin .len, args := #[.tmp 46], argTypes := #[27] }, none, true⟩,
  ⟨some 48, .binOp .lss 3 (.tmp 45) (.tmp 47) 3, none, true⟩] e σ Q := propext ⟨fun h => h, fun h => h⟩
def k4_r13 : List COp := [
  ⟨some 56, .move (.tmp 7), none, true⟩,
  ⟨some 57, .move (.tmp 11), none, true⟩,
  ⟨some 58, .slice 27 (.tmp 56) .none (some (.tmp 57)) .none, none, true⟩,
  ⟨some 59, .move (.tmp 1), none, true⟩,
  ⟨some 60, .call { callee := .value (.func 16), args := #[.tmp 58, .tmp 59], argTypes := #[27, 3] }, none, true⟩,
  ⟨some 55, .move (.tmp 60), none, true⟩,
  ⟨some 61, .extract (.tmp 55) 0, none, true⟩,
  ⟨some 62, .extract (.tmp 55) 1, none, true⟩,
  ⟨some 10, .assign (.tmp 62), none, true⟩]
theorem k4_r13_e : Eo P pr N k4_r13 e σ Q = Eo P pr N [
  ⟨some 56, .move (.tmp 7), none, true⟩,
  ⟨some 57, .move (.tmp 11), none, true⟩,
  ⟨some 58, .slice 27 (.tmp 56) .none (some (.tmp 57)) .none, none, true⟩,
  ⟨some 59, .move (.tmp 1), none, true⟩,
  ⟨some 60, .call { callee := .value (.func 16), args := #[.tmp 58, .tmp 59], argTypes := #[27, 3] }, none, true⟩,
  ⟨some 55, .move (.tmp 60), none, true⟩,
  ⟨some 61, .extract (.tmp 55) 0, none, true⟩,
  ⟨some 62, .extract (.tmp 55) 1, none, true⟩,
  ⟨some 10, .assign (.tmp 62), none, true⟩] e σ Q := propext ⟨fun h => h, fun h => h⟩
def k4_r14 : List COp := [
  ⟨some 63, .move (.tmp 10), none, true⟩,
  ⟨some 64, .binOp .neq 28 (.tmp 63) (.const (.int .i64 11)) 28, none, true⟩]
theorem k4_r14_e : Eo P pr N k4_r14 e σ Q = Eo P pr N [
  ⟨some 63, .move (.tmp 10), none, true⟩,
  ⟨some 64, .binOp .neq 28 (.tmp 63) (.const (.int .i64 11)) 28, none, true⟩] e σ Q := propext ⟨fun h => h, fun h => h⟩
def k4_r15 : List COp := [
  ⟨some 6, .assign (.const (.bool false)), none, true⟩]
theorem k4_r15_e : Eo P pr N k4_r15 e σ Q = Eo P pr N [
  ⟨some 6, .assign (.const (.bool false)), none, true⟩] e σ Q := propext ⟨fun h => h, fun h => h⟩
def k4_r12 : List COp := [
  ⟨some 49, .move (.tmp 11), none, true⟩,
  ⟨some 50, .move (.tmp 7), none, true⟩,
  ⟨some 51, .call { callee := .builtin .len, args := #[.tmp 50], argTypes := #[27] }, none, true⟩,
  ⟨some 52, .binOp .quo 3 (.tmp 51) (.const (.int .i64 30)) 3, none, true⟩,
  ⟨some 53, .binOp .add 3 (.const (.int .i64 1)) (.tmp 52) 3, none, true⟩,
  ⟨some 54, .binOp .add 3 (.tmp 49) (.tmp 53) 3, none, true⟩,
  ⟨some 11, .assign (.tmp 54), none, true⟩]
theorem k4_r12_e : Eo P pr N k4_r12 e σ Q = Eo P pr N [
  ⟨some 49, .move (.tmp 11), none, true⟩,
  ⟨some 50, .move (.tmp 7), none, true⟩,
  ⟨some 51, .call { callee := .builtin .len, args := #[.tmp 50], argTypes := #[27] }, none, true⟩,
  ⟨some 52, .binOp .quo 3 (.tmp 51) (.const (.int .i64 30)) 3, none, true⟩,
  ⟨some 53, .binOp .add 3 (.const (.int .i64 1)) (.tmp 52) 3, none, true⟩,
  ⟨some 54, .binOp .add 3 (.tmp 49) (.tmp 53) 3, none, true⟩,
  ⟨some 11, .assign (.tmp 54), none, true⟩] e σ Q := propext ⟨fun h => h, fun h => h⟩
def k4_l0 : CC := (.seq (.seq (.region k4_r11) (.cond (.tmp 48) .skip (.exit 0))) (.seq (.block 1 (.seq (.region k4_r13) (.seq (.region k4_r14) (.cond (.tmp 64) (.seq (.region k4_r15) .ret) .skip)))) (.region k4_r12)))
theorem k4_l0_e : Ev P pr N k4_l0 e σ Q = Ev P pr N (.seq (.seq (.region k4_r11) (.cond (.tmp 48) .skip (.exit 0))) (.seq (.block 1 (.seq (.region k4_r13) (.seq (.region k4_r14) (.cond (.tmp 64) (.seq (.region k4_r15) .ret) .skip)))) (.region k4_r12))) e σ Q := propext ⟨fun h => h, fun h => h⟩
def k4_r16 : List COp := [
  ⟨some 66, .buildSlice 27 0 #[], none, true⟩,
  ⟨some 67, .move (.tmp 7), none, true⟩,
  ⟨some 68, .call { callee := .builtin .append, args := #[.tmp 66, .tmp 67], argTypes := #[27, 27] }, none, true⟩,
  ⟨some 69, .buildSlice 27 1 #[(0, .const (.int .u8 0))], none, true⟩,
  ⟨some 70, .call { callee := .builtin .append, args := #[.tmp 68, .tmp 69], argTypes := #[27, 27] }, none, true⟩,
  ⟨some 71, .move (.tmp 1), none, true⟩,
  ⟨some 72, .call { callee := .value (.func 16), args := #[.tmp 70, .tmp 71], argTypes := #[27, 3] }, none, true⟩,
  ⟨some 65, .move (.tmp 72), none, true⟩,
  ⟨some 73, .extract (.tmp 65) 0, none, true⟩,
  ⟨some 74, .extract (.tmp 65) 1, none, true⟩,
  ⟨some 10, .assign (.tmp 74), none, true⟩]
theorem k4_r16_e : Eo P pr N k4_r16 e σ Q = Eo P pr N [
  ⟨some 66, .buildSlice 27 0 #[], none, true⟩,
  ⟨some 67, .move (.tmp 7), none, true⟩,
  ⟨some 68, .call { callee := .builtin .append, args := #[.tmp 66, .tmp 67], argTypes := #[27, 27] }, none, true⟩,
  ⟨some 69, .buildSlice 27 1 #[(0, .const (.int .u8 0))], none, true⟩,
  ⟨some 70, .call { callee := .builtin .append, args := #[.tmp 68, .tmp 69], argTypes := #[27, 27] }, none, true⟩,
  ⟨some 71, .move (.tmp 1), none, true⟩,
  ⟨some 72, .call { callee := .value (.func 16), args := #[.tmp 70, .tmp 71], argTypes := #[27, 3] }, none, true⟩,
  ⟨some 65, .move (.tmp 72), none, true⟩,
  ⟨some 73, .extract (.tmp 65) 0, none, true⟩,
  ⟨some 74, .extract (.tmp 65) 1, none, true⟩,
  ⟨some 10, .assign (.tmp 74), none, true⟩] e σ Q := propext ⟨fun h => h, fun h => h⟩
def k4_r17 : List COp := [
  ⟨some 75, .move (.tmp 10), none, true⟩,
  ⟨some 76, .binOp .neq 28 (.tmp 75) (.const (.int .i64 11)) 28, none, true⟩]
theorem k4_r17_e : Eo P pr N k4_r17 e σ Q = Eo P pr N [
  ⟨some 75, .move (.tmp 10), none, true⟩,
  ⟨some 76, .binOp .neq 28 (.tmp 75) (.const (.int .i64 11)) 28, none, true⟩] e σ Q := propext ⟨fun h => h, fun h => h⟩
def k4_r18 : List COp := [
  ⟨some 6, .assign (.const (.bool false)), none, true⟩]
theorem k4_r18_e : Eo P pr N k4_r18 e σ Q = Eo P pr N [
  ⟨some 6, .assign (.const (.bool false)), none, true⟩] e σ Q := propext ⟨fun h => h, fun h => h⟩
def k4_r19 : List COp := [
  ⟨some 78, .move (.tmp 2), none, true⟩,
  ⟨some 79, .move (.tmp 1), none, true⟩,
  ⟨some 80, .call { callee := .value (.func 16), args := #[.tmp 78, .tmp 79], argTypes := #[27, 3] }, none, true⟩,
  ⟨some 77, .move (.tmp 80), none, true⟩,
  ⟨some 81, .extract (.tmp 77) 0, none, true⟩,
  ⟨some 82, .extract (.tmp 77) 1, none, true⟩,
  ⟨some 12, .alloc 33, none, true⟩,
  ⟨none, .store 33 (.tmp 12) (.tmp 81), none, true⟩,
  ⟨some 8, .assign (.tmp 82), none, true⟩]
theorem k4_r19_e : Eo P pr N k4_r19 e σ Q = Eo P pr N [
  ⟨some 78, .move (.tmp 2), none, true⟩,
  ⟨some 79, .move (.tmp 1), none, true⟩,
  ⟨some 80, .call { callee := .value (.func 16), args := #[.tmp 78, .tmp 79], argTypes := #[27, 3] }, none, true⟩,
  ⟨some 77, .move (.tmp 80), none, true⟩,
  ⟨some 81, .extract (.tmp 77) 0, none, true⟩,
  ⟨some 82, .extract (.tmp 77) 1, none, true⟩,
  ⟨some 12, .alloc 33, none, true⟩,
  ⟨none, .store 33 (.tmp 12) (.tmp 81), none, true⟩,
  ⟨some 8, .assign (.tmp 82), none, true⟩] e σ Q := propext ⟨fun h => h, fun h => h⟩
def k4_r20 : List COp := [
  ⟨some 83, .move (.tmp 8), none, true⟩,
  ⟨some 84, .binOp .neq 28 (.tmp 83) (.const (.int .i64 0)) 28, none, true⟩]
theorem k4_r20_e : Eo P pr N k4_r20 e σ Q = Eo P pr N [
  ⟨some 83, .move (.tmp 8), none, true⟩,
  ⟨some 84, .binOp .neq 28 (.tmp 83) (.const (.int .i64 0)) 28, none, true⟩] e σ Q := propext ⟨fun h => h, fun h => h⟩
def k4_r21 : List COp := [
  ⟨some 85, .fieldAddr 33 (.tmp 12) 0, none, true⟩,
  ⟨some 86, .load 3 (.tmp 85), none, true⟩,
  ⟨some 87, .binOp .eql 3 (.tmp 86) (.const (.int .i64 0)) 3, none, true⟩,
  ⟨some 88, .move (.tmp 87), none, true⟩,
  ⟨some 89, .fieldAddr 33 (.tmp 12) 5, some (88, true), true⟩,
  ⟨some 90, .load 22 (.tmp 89), some (88, true), true⟩,
  ⟨some 91, .call { callee := .builtin .len, args := #[.tmp 90], argTypes := #[22] }, some (88, true), true⟩,
  ⟨some 92, .binOp .eql 3 (.tmp 91) (.const (.int .i64 0)) 3, some (88, true), true⟩,
  ⟨some 93, .pick (.tmp 88) (.tmp 92) (.const (.bool false)), none, true⟩,
  ⟨some 94, .move (.tmp 93), none, true⟩,
  ⟨some 95, .fieldAddr 33 (.tmp 12) 4, some (94, true), true⟩,
  ⟨some 96, .load 9 (.tmp 95), some (94, true), true⟩,
  ⟨some 97, .binOp .eql 9 (.tmp 96) (.const (.string { data := #[] })) 9, some (94, true), true⟩,
  ⟨some 98, .pick (.tmp 94) (.tmp 97) (.const (.bool false)), none, true⟩,
  ⟨some 6, .assign (.tmp 98), none, true⟩]
theorem k4_r21_e : Eo P pr N k4_r21 e σ Q = Eo P pr N [
  ⟨some 85, .fieldAddr 33 (.tmp 12) 0, none, true⟩,
  ⟨some 86, .load 3 (.tmp 85), none, true⟩,
  ⟨some 87, .binOp .eql 3 (.tmp 86) (.const (.int .i64 0)) 3, none, true⟩,
  ⟨some 88, .move (.tmp 87), none, true⟩,
  ⟨some 89, .fieldAddr 33 (.tmp 12) 5, some (88, true), true⟩,
  ⟨some 90, .load 22 (.tmp 89), some (88, true), true⟩,
  ⟨some 91, .call { callee := .builtin .len, args := #[.tmp 90], argTypes := #[22] }, some (88, true), true⟩,
  ⟨some 92, .binOp .eql 3 (.tmp 91) (.const (.int .i64 0)) 3, some (88, true), true⟩,
  ⟨some 93, .pick (.tmp 88) (.tmp 92) (.const (.bool false)), none, true⟩,
  ⟨some 94, .move (.tmp 93), none, true⟩,
  ⟨some 95, .fieldAddr 33 (.tmp 12) 4, some (94, true), true⟩,
  ⟨some 96, .load 9 (.tmp 95), some (94, true), true⟩,
  ⟨some 97, .binOp .eql 9 (.tmp 96) (.const (.string { data := #[] })) 9, some (94, true), true⟩,
  ⟨some 98, .pick (.tmp 94) (.tmp 97) (.const (.bool false)), none, true⟩,
  ⟨some 6, .assign (.tmp 98), none, true⟩] e σ Q := propext ⟨fun h => h, fun h => h⟩
def k4_r22 : List COp := [
  ⟨some 100, .load 33 (.tmp 12), none, true⟩,
  ⟨some 101, .move (.tmp 1), none, true⟩,
  ⟨some 102, .call { callee := .value (.func 15), args := #[.tmp 100, .tmp 101], argTypes := #[33, 3] }, none, true⟩,
  ⟨some 99, .move (.tmp 102), none, true⟩,
  ⟨some 103, .extract (.tmp 99) 0, none, true⟩,
  ⟨some 104, .extract (.tmp 99) 1, none, true⟩,
  ⟨some 13, .assign (.tmp 103), none, true⟩,
  ⟨some 8, .assign (.tmp 104), none, true⟩]
theorem k4_r22_e : Eo P pr N k4_r22 e σ Q = Eo P pr N [
  ⟨some 100, .load 33 (.tmp 12), none, true⟩,
  ⟨some 101, .move (.tmp 1), none, true⟩,
  ⟨some 102, .call { callee := .value (.func 15), args := #[.tmp 100, .tmp 101], argTypes := #[33, 3] }, none, true⟩,
  ⟨some 99, .move (.tmp 102), none, true⟩,
  ⟨some 103, .extract (.tmp 99) 0, none, true⟩,
  ⟨some 104, .extract (.tmp 99) 1, none, true⟩,
  ⟨some 13, .assign (.tmp 103), none, true⟩,
  ⟨some 8, .assign (.tmp 104), none, true⟩] e σ Q := propext ⟨fun h => h, fun h => h⟩
def k4_r23 : List COp := [
  ⟨some 105, .move (.tmp 8), none, true⟩,
  ⟨some 106, .binOp .eql 28 (.tmp 105) (.const (.int .i64 0)) 28, none, true⟩,
  ⟨some 107, .move (.tmp 106), none, true⟩,
  ⟨some 108, .move (.tmp 13), some (107, true), true⟩,
  ⟨some 109, .convert 27 9 (.tmp 108), some (107, true), true⟩,
  ⟨some 110, .move (.tmp 2), some (107, true), true⟩,
  ⟨some 111, .convert 27 9 (.tmp 110), some (107, true), true⟩,
  ⟨some 112, .binOp .eql 9 (.tmp 109) (.tmp 111) 9, some (107, true), true⟩,
  ⟨some 113, .pick (.tmp 107) (.tmp 112) (.const (.bool false)), none, true⟩,
  ⟨some 114, .move (.tmp 113), none, true⟩,
  ⟨some 115, .load 33 (.tmp 12), some (114, true), true⟩,
  ⟨some 116, .move (.tmp 1), some (114, true), true⟩,
  ⟨some 117, .call { callee := .value (.func 18), args := #[.tmp 115, .tmp 116], argTypes := #[33, 3] }, some (114, true), true⟩,
  ⟨some 118, .pick (.tmp 114) (.tmp 117) (.const (.bool false)), none, true⟩,
  ⟨some 6, .assign (.tmp 118), none, true⟩]
theorem k4_r23_e : Eo P pr N k4_r23 e σ Q = Eo P pr N [
  ⟨some 105, .move (.tmp 8), none, true⟩,
  ⟨some 106, .binOp .eql 28 (.tmp 105) (.const (.int .i64 0)) 28, none, true⟩,
  ⟨some 107, .move (.tmp 106), none, true⟩,
  ⟨some 108, .move (.tmp 13), some (107, true), true⟩,
  ⟨some 109, .convert 27 9 (.tmp 108), some (107, true), true⟩,
  ⟨some 110, .move (.tmp 2), some (107, true), true⟩,
  ⟨some 111, .convert 27 9 (.tmp 110), some (107, true), true⟩,
  ⟨some 112, .binOp .eql 9 (.tmp 109) (.tmp 111) 9, some (107, true), true⟩,
  ⟨some 113, .pick (.tmp 107) (.tmp 112) (.const (.bool false)), none, true⟩,
  ⟨some 114, .move (.tmp 113), none, true⟩,
  ⟨some 115, .load 33 (.tmp 12), some (114, true), true⟩,
  ⟨some 116, .move (.tmp 1), some (114, true), true⟩,
  ⟨some 117, .call { callee := .value (.func 18), args := #[.tmp 115, .tmp 116], argTypes := #[33, 3] }, some (114, true), true⟩,
  ⟨some 118, .pick (.tmp 114) (.tmp 117) (.const (.bool false)), none, true⟩,
  ⟨some 6, .assign (.tmp 118), none, true⟩] e σ Q := propext ⟨fun h => h, fun h => h⟩
def k4 : CC := (.seq (.region k4_r0) (.seq (.seq (.region k4_r1) (.cond (.tmp 15) (.seq (.region k4_r2) .ret) .skip)) (.seq (.seq (.region k4_r3) (.cond (.tmp 22) (.seq (.region k4_r4) .ret) .skip)) (.seq (.region k4_r5) (.seq (.seq (.region k4_r6) (.cond (.tmp 30) (.seq (.region k4_r7) (.seq (.seq (.region k4_r8) (.cond (.tmp 44) (.seq (.region k4_r9) .ret) .skip)) (.seq (.seq (.region k4_r10) (.block 0 (.loop k4_l0))) (.seq (.region k4_r16) (.seq (.region k4_r17) (.cond (.tmp 76) (.seq (.region k4_r18) .ret) .skip)))))) .skip)) (.seq (.region k4_r19) (.seq (.seq (.region k4_r20) (.cond (.tmp 84) (.seq (.region k4_r21) .ret) .skip)) (.seq (.region k4_r22) (.seq (.region k4_r23) .ret)))))))))
theorem k4_e : Ev P pr N k4 e σ Q = Ev P pr N (.seq (.region k4_r0) (.seq (.seq (.region k4_r1) (.cond (.tmp 15) (.seq (.region k4_r2) .ret) .skip)) (.seq (.seq (.region k4_r3) (.cond (.tmp 22) (.seq (.region k4_r4) .ret) .skip)) (.seq (.region k4_r5) (.seq (.seq (.region k4_r6) (.cond (.tmp 30) (.seq (.region k4_r7) (.seq (.seq (.region k4_r8) (.cond (.tmp 44) (.seq (.region k4_r9) .ret) .skip)) (.seq (.seq (.region k4_r10) (.block 0 (.loop k4_l0))) (.seq (.region k4_r16) (.seq (.region k4_r17) (.cond (.tmp 76) (.seq (.region k4_r18) .ret) .skip)))))) .skip)) (.seq (.region k4_r19) (.seq (.seq (.region k4_r20) (.cond (.tmp 84) (.seq (.region k4_r21) .ret) .skip)) (.seq (.region k4_r22) (.seq (.region k4_r23) .ret))))))))) e σ Q := propext ⟨fun h => h, fun h => h⟩
/-- quern/quernlaw21.StoreBack -/
theorem k4_is : FnIs Try.prog noPrim 4 119 [ResultVar.tmp 6] k4 := FnIs.of_fn Try.func4 (by kernel_rfl)
def k5_r0 : List COp := [
  ⟨some 3, .box 33 (.tmp 0), none, true⟩,
  ⟨some 6, .assign (.const (.bool false)), none, true⟩]
theorem k5_r0_e : Eo P pr N k5_r0 e σ Q = Eo P pr N [
  ⟨some 3, .box 33 (.tmp 0), none, true⟩,
  ⟨some 6, .assign (.const (.bool false)), none, true⟩] e σ Q := propext ⟨fun h => h, fun h => h⟩
def k5_r1 : List COp := [
  ⟨some 23, .call { callee := .value (.func 13), args := #[], argTypes := #[] }, none, true⟩,
  ⟨some 24, .unOp .not 4 (.tmp 23), none, true⟩]
theorem k5_r1_e : Eo P pr N k5_r1 e σ Q = Eo P pr N [
  ⟨some 23, .call { callee := .value (.func 13), args := #[], argTypes := #[] }, none, true⟩,
  ⟨some 24, .unOp .not 4 (.tmp 23), none, true⟩] e σ Q := propext ⟨fun h => h, fun h => h⟩
def k5_r2 : List COp := [
  ⟨some 6, .assign (.const (.bool false)), none, true⟩]
theorem k5_r2_e : Eo P pr N k5_r2 e σ Q = Eo P pr N [
  ⟨some 6, .assign (.const (.bool false)), none, true⟩] e σ Q := propext ⟨fun h => h, fun h => h⟩
def k5_r3 : List COp := [
  ⟨some 25, .load 33 (.tmp 3), none, true⟩,
  ⟨some 26, .call { callee := .value (.func 14), args := #[.tmp 25], argTypes := #[33] }, none, true⟩,
  ⟨some 27, .move (.tmp 26), none, true⟩,
  ⟨some 28, .move (.tmp 2), some (27, false), true⟩,
  ⟨some 29, .call { callee := .builtin .len, args := #[.tmp 28], argTypes := #[27] }, some (27, false), true⟩,
  ⟨some 30, .binOp .gtr 3 (.tmp 29) (.const (.int .i64 16384)) 3, some (27, false), true⟩,
  ⟨some 31, .pick (.tmp 27) (.const (.bool true)) (.tmp 30), none, true⟩]
theorem k5_r3_e : Eo P pr N k5_r3 e σ Q = Eo P pr N [
  ⟨some 25, .load 33 (.tmp 3), none, true⟩,
  ⟨some 26, .call { callee := .value (.func 14), args := #[.tmp 25], argTypes := #[33] }, none, true⟩,
  ⟨some 27, .move (.tmp 26), none, true⟩,
  ⟨some 28, .move (.tmp 2), some (27, false), true⟩,
  ⟨some 29, .call { callee := .builtin .len, args := #[.tmp 28], argTypes := #[27] }, some (27, false), true⟩,
  ⟨some 30, .binOp .gtr 3 (.tmp 29) (.const (.int .i64 16384)) 3, some (27, false), true⟩,
  ⟨some 31, .pick (.tmp 27) (.const (.bool true)) (.tmp 30), none, true⟩] e σ Q := propext ⟨fun h => h, fun h => h⟩
def k5_r4 : List COp := [
  ⟨some 6, .assign (.const (.bool true)), none, true⟩]
theorem k5_r4_e : Eo P pr N k5_r4 e σ Q = Eo P pr N [
  ⟨some 6, .assign (.const (.bool true)), none, true⟩] e σ Q := propext ⟨fun h => h, fun h => h⟩
def k5_r5 : List COp := [
  ⟨some 33, .load 33 (.tmp 3), none, true⟩,
  ⟨some 34, .move (.tmp 1), none, true⟩,
  ⟨some 35, .call { callee := .value (.func 15), args := #[.tmp 33, .tmp 34], argTypes := #[33, 3] }, none, true⟩,
  ⟨some 32, .move (.tmp 35), none, true⟩,
  ⟨some 36, .extract (.tmp 32) 0, none, true⟩,
  ⟨some 37, .extract (.tmp 32) 1, none, true⟩,
  ⟨some 7, .assign (.tmp 36), none, true⟩,
  ⟨some 8, .assign (.tmp 37), none, true⟩]
theorem k5_r5_e : Eo P pr N k5_r5 e σ Q = Eo P pr N [
  ⟨some 33, .load 33 (.tmp 3), none, true⟩,
  ⟨some 34, .move (.tmp 1), none, true⟩,
  ⟨some 35, .call { callee := .value (.func 15), args := #[.tmp 33, .tmp 34], argTypes := #[33, 3] }, none, true⟩,
  ⟨some 32, .move (.tmp 35), none, true⟩,
  ⟨some 36, .extract (.tmp 32) 0, none, true⟩,
  ⟨some 37, .extract (.tmp 32) 1, none, true⟩,
  ⟨some 7, .assign (.tmp 36), none, true⟩,
  ⟨some 8, .assign (.tmp 37), none, true⟩] e σ Q := propext ⟨fun h => h, fun h => h⟩
def k5_r6 : List COp := [
  ⟨some 39, .load 33 (.tmp 3), none, true⟩,
  ⟨some 40, .move (.tmp 1), none, true⟩,
  ⟨some 41, .call { callee := .value (.func 19), args := #[.tmp 39, .tmp 40], argTypes := #[33, 3] }, none, true⟩,
  ⟨some 38, .move (.tmp 41), none, true⟩,
  ⟨some 42, .extract (.tmp 38) 0, none, true⟩,
  ⟨some 43, .extract (.tmp 38) 1, none, true⟩,
  ⟨some 9, .assign (.tmp 42), none, true⟩,
  ⟨some 10, .assign (.tmp 43), none, true⟩]
theorem k5_r6_e : Eo P pr N k5_r6 e σ Q = Eo P pr N [
  ⟨some 39, .load 33 (.tmp 3), none, true⟩,
  ⟨some 40, .move (.tmp 1), none, true⟩,
  ⟨some 41, .call { callee := .value (.func 19), args := #[.tmp 39, .tmp 40], argTypes := #[33, 3] }, none, true⟩,
  ⟨some 38, .move (.tmp 41), none, true⟩,
  ⟨some 42, .extract (.tmp 38) 0, none, true⟩,
  ⟨some 43, .extract (.tmp 38) 1, none, true⟩,
  ⟨some 9, .assign (.tmp 42), none, true⟩,
  ⟨some 10, .assign (.tmp 43), none, true⟩] e σ Q := propext ⟨fun h => h, fun h => h⟩
def k5_r7 : List COp := [
  ⟨some 45, .move (.tmp 2), none, true⟩,
  ⟨some 46, .move (.tmp 1), none, true⟩,
  ⟨some 47, .call { callee := .value (.func 16), args := #[.tmp 45, .tmp 46], argTypes := #[27, 3] }, none, true⟩,
  ⟨some 44, .move (.tmp 47), none, true⟩,
  ⟨some 48, .extract (.tmp 44) 0, none, true⟩,
  ⟨some 49, .extract (.tmp 44) 1, none, true⟩,
  ⟨some 11, .alloc 33, none, true⟩,
  ⟨none, .store 33 (.tmp 11) (.tmp 48), none, true⟩,
  ⟨some 12, .assign (.tmp 49), none, true⟩]
theorem k5_r7_e : Eo P pr N k5_r7 e σ Q = Eo P pr N [
  ⟨some 45, .move (.tmp 2), none, true⟩,
  ⟨some 46, .move (.tmp 1), none, true⟩,
  ⟨some 47, .call { callee := .value (.func 16), args := #[.tmp 45, .tmp 46], argTypes := #[27, 3] }, none, true⟩,
  ⟨some 44, .move (.tmp 47), none, true⟩,
  ⟨some 48, .extract (.tmp 44) 0, none, true⟩,
  ⟨some 49, .extract (.tmp 44) 1, none, true⟩,
  ⟨some 11, .alloc 33, none, true⟩,
  ⟨none, .store 33 (.tmp 11) (.tmp 48), none, true⟩,
  ⟨some 12, .assign (.tmp 49), none, true⟩] e σ Q := propext ⟨fun h => h, fun h => h⟩
def k5_r8 : List COp := [
  ⟨some 51, .move (.tmp 2), none, true⟩,
  ⟨some 52, .move (.tmp 1), none, true⟩,
  ⟨some 53, .call { callee := .value (.func 20), args := #[.tmp 51, .tmp 52], argTypes := #[27, 3] }, none, true⟩,
  ⟨some 50, .move (.tmp 53), none, true⟩,
  ⟨some 54, .extract (.tmp 50) 0, none, true⟩,
  ⟨some 55, .extract (.tmp 50) 1, none, true⟩,
  ⟨some 13, .alloc 33, none, true⟩,
  ⟨none, .store 33 (.tmp 13) (.tmp 54), none, true⟩,
  ⟨some 14, .assign (.tmp 55), none, true⟩]
theorem k5_r8_e : Eo P pr N k5_r8 e σ Q = Eo P pr N [
  ⟨some 51, .move (.tmp 2), none, true⟩,
  ⟨some 52, .move (.tmp 1), none, true⟩,
  ⟨some 53, .call { callee := .value (.func 20), args := #[.tmp 51, .tmp 52], argTypes := #[27, 3] }, none, true⟩,
  ⟨some 50, .move (.tmp 53), none, true⟩,
  ⟨some 54, .extract (.tmp 50) 0, none, true⟩,
  ⟨some 55, .extract (.tmp 50) 1, none, true⟩,
  ⟨some 13, .alloc 33, none, true⟩,
  ⟨none, .store 33 (.tmp 13) (.tmp 54), none, true⟩,
  ⟨some 14, .assign (.tmp 55), none, true⟩] e σ Q := propext ⟨fun h => h, fun h => h⟩
def k5_r9 : List COp := [
  ⟨some 56, .move (.tmp 7), none, true⟩,
  ⟨some 57, .convert 27 9 (.tmp 56), none, true⟩,
  ⟨some 58, .move (.tmp 9), none, true⟩,
  ⟨some 59, .convert 27 9 (.tmp 58), none, true⟩,
  ⟨some 60, .binOp .neq 9 (.tmp 57) (.tmp 59) 9, none, true⟩,
  ⟨some 61, .move (.tmp 60), none, true⟩,
  ⟨some 62, .move (.tmp 8), some (61, false), true⟩,
  ⟨some 63, .move (.tmp 10), some (61, false), true⟩,
  ⟨some 64, .binOp .neq 28 (.tmp 62) (.tmp 63) 28, some (61, false), true⟩,
  ⟨some 65, .pick (.tmp 61) (.const (.bool true)) (.tmp 64), none, true⟩,
  ⟨some 66, .move (.tmp 65), none, true⟩,
  ⟨some 67, .load 33 (.tmp 11), some (66, false), true⟩,
  ⟨some 68, .load 33 (.tmp 13), some (66, false), true⟩,
  ⟨some 69, .call { callee := .value (.func 17), args := #[.tmp 67, .tmp 68], argTypes := #[33, 33] }, some (66, false), true⟩,
  ⟨some 70, .unOp .not 4 (.tmp 69), some (66, false), true⟩,
  ⟨some 71, .pick (.tmp 66) (.const (.bool true)) (.tmp 70), none, true⟩,
  ⟨some 72, .move (.tmp 71), none, true⟩,
  ⟨some 73, .move (.tmp 12), some (72, false), true⟩,
  ⟨some 74, .move (.tmp 14), some (72, false), true⟩,
  ⟨some 75, .binOp .neq 28 (.tmp 73) (.tmp 74) 28, some (72, false), true⟩,
  ⟨some 76, .pick (.tmp 72) (.const (.bool true)) (.tmp 75), none, true⟩]
theorem k5_r9_e : Eo P pr N k5_r9 e σ Q = Eo P pr N [
  ⟨some 56, .move (.tmp 7), none, true⟩,
  ⟨some 57, .convert 27 9 (.tmp 56), none, true⟩,
  ⟨some 58, .move (.tmp 9), none, true⟩,
  ⟨some 59, .convert 27 9 (.tmp 58), none, true⟩,
  ⟨some 60, .binOp .neq 9 (.tmp 57) (.tmp 59) 9, none, true⟩,
  ⟨some 61, .move (.tmp 60), none, true⟩,
  ⟨some 62, .move (.tmp 8), some (61, false), true⟩,
  ⟨some 63, .move (.tmp 10), some (61, false), true⟩,
  ⟨some 64, .binOp .neq 28 (.tmp 62) (.tmp 63) 28, some (61, false), true⟩,
  ⟨some 65, .pick (.tmp 61) (.const (.bool true)) (.tmp 64), none, true⟩,
  ⟨some 66, .move (.tmp 65), none, true⟩,
  ⟨some 67, .load 33 (.tmp 11), some (66, false), true⟩,
  ⟨some 68, .load 33 (.tmp 13), some (66, false), true⟩,
  ⟨some 69, .call { callee := .value (.func 17), args := #[.tmp 67, .tmp 68], argTypes := #[33, 33] }, some (66, false), true⟩,
  ⟨some 70, .unOp .not 4 (.tmp 69), some (66, false), true⟩,
  ⟨some 71, .pick (.tmp 66) (.const (.bool true)) (.tmp 70), none, true⟩,
  ⟨some 72, .move (.tmp 71), none, true⟩,
  ⟨some 73, .move (.tmp 12), some (72, false), true⟩,
  ⟨some 74, .move (.tmp 14), some (72, false), true⟩,
  ⟨some 75, .binOp .neq 28 (.tmp 73) (.tmp 74) 28, some (72, false), true⟩,
  ⟨some 76, .pick (.tmp 72) (.const (.bool true)) (.tmp 75), none, true⟩] e σ Q := propext ⟨fun h => h, fun h => h⟩
def k5_r10 : List COp := [
  ⟨some 6, .assign (.const (.bool false)), none, true⟩]
theorem k5_r10_e : Eo P pr N k5_r10 e σ Q = Eo P pr N [
  ⟨some 6, .assign (.const (.bool false)), none, true⟩] e σ Q := propext ⟨fun h => h, fun h => h⟩
def k5_r11 : CC := (.wregion [
  (true, ⟨some 77, .move (.tmp 2), none, false⟩),
  (false, ⟨some 78, .fieldAddr 33 (.tmp 3) 5, none, false⟩),
  (false, ⟨some 79, .load 22 (.tmp 78), none, false⟩),
  (false, ⟨some 80, .call { callee := .value (.func 21), args := #[.tmp 77, .tmp 79], argTypes := #[27, 22] }, none, false⟩),
  (true, ⟨some 81, .move (.tmp 2), none, false⟩),
  (false, ⟨some 82, .fieldAddr 33 (.tmp 3) 5, none, true⟩),
  (true, ⟨some 83, .load 22 (.tmp 82), none, true⟩),
  (false, ⟨some 84, .call { callee := .value (.func 22), args := #[.tmp 81, .tmp 83], argTypes := #[27, 22] }, none, true⟩),
  (false, ⟨some 15, .assign (.tmp 80), none, true⟩),
  (false, ⟨some 16, .assign (.tmp 84), none, true⟩)] false [(6, ⟨some 83, .load 22 (.tmp 82), none, true⟩, [0, 4])])
theorem k5_r11_e : Ev P pr N k5_r11 e σ Q = Ev P pr N (.wregion [
  (true, ⟨some 77, .move (.tmp 2), none, false⟩),
  (false, ⟨some 78, .fieldAddr 33 (.tmp 3) 5, none, false⟩),
  (false, ⟨some 79, .load 22 (.tmp 78), none, false⟩),
  (false, ⟨some 80, .call { callee := .value (.func 21), args := #[.tmp 77, .tmp 79], argTypes := #[27, 22] }, none, false⟩),
  (true, ⟨some 81, .move (.tmp 2), none, false⟩),
  (false, ⟨some 82, .fieldAddr 33 (.tmp 3) 5, none, true⟩),
  (true, ⟨some 83, .load 22 (.tmp 82), none, true⟩),
  (false, ⟨some 84, .call { callee := .value (.func 22), args := #[.tmp 81, .tmp 83], argTypes := #[27, 22] }, none, true⟩),
  (false, ⟨some 15, .assign (.tmp 80), none, true⟩),
  (false, ⟨some 16, .assign (.tmp 84), none, true⟩)] false [(6, ⟨some 83, .load 22 (.tmp 82), none, true⟩, [0, 4])]) e σ Q := propext ⟨fun h => h, fun h => h⟩
def k5_r12 : List COp := [
  ⟨some 85, .move (.tmp 15), none, true⟩,
  ⟨some 86, .convert 27 9 (.tmp 85), none, true⟩,
  ⟨some 87, .move (.tmp 16), none, true⟩,
  ⟨some 88, .convert 27 9 (.tmp 87), none, true⟩,
  ⟨some 89, .binOp .neq 9 (.tmp 86) (.tmp 88) 9, none, true⟩]
theorem k5_r12_e : Eo P pr N k5_r12 e σ Q = Eo P pr N [
  ⟨some 85, .move (.tmp 15), none, true⟩,
  ⟨some 86, .convert 27 9 (.tmp 85), none, true⟩,
  ⟨some 87, .move (.tmp 16), none, true⟩,
  ⟨some 88, .convert 27 9 (.tmp 87), none, true⟩,
  ⟨some 89, .binOp .neq 9 (.tmp 86) (.tmp 88) 9, none, true⟩] e σ Q := propext ⟨fun h => h, fun h => h⟩
def k5_r13 : List COp := [
  ⟨some 6, .assign (.const (.bool false)), none, true⟩]
theorem k5_r13_e : Eo P pr N k5_r13 e σ Q = Eo P pr N [
  ⟨some 6, .assign (.const (.bool false)), none, true⟩] e σ Q := propext ⟨fun h => h, fun h => h⟩
def k5_r14 : List COp := [
  ⟨some 90, .move (.tmp 2), none, true⟩,
  ⟨some 91, .call { callee := .value (.func 23), args := #[.tmp 90], argTypes := #[27] }, none, true⟩,
  ⟨some 17, .assign (.tmp 91), none, true⟩]
theorem k5_r14_e : Eo P pr N k5_r14 e σ Q = Eo P pr N [
  ⟨some 90, .move (.tmp 2), none, true⟩,
  ⟨some 91, .call { callee := .value (.func 23), args := #[.tmp 90], argTypes := #[27] }, none, true⟩,
  ⟨some 17, .assign (.tmp 91), none, true⟩] e σ Q := propext ⟨fun h => h, fun h => h⟩
def k5_r15 : List COp := [
  ⟨some 92, .buildSlice 27 0 #[], none, true⟩,
  ⟨some 93, .move (.tmp 2), none, true⟩,
  ⟨some 94, .call { callee := .builtin .append, args := #[.tmp 92, .tmp 93], argTypes := #[27, 27] }, none, true⟩,
  ⟨some 95, .build 46 #[(0, .tmp 94)], none, true⟩,
  ⟨some 96, .box 46 (.tmp 95), none, true⟩,
  ⟨some 18, .assign (.tmp 96), none, true⟩]
theorem k5_r15_e : Eo P pr N k5_r15 e σ Q = Eo P pr N [
  ⟨some 92, .buildSlice 27 0 #[], none, true⟩,
  ⟨some 93, .move (.tmp 2), none, true⟩,
  ⟨some 94, .call { callee := .builtin .append, args := #[.tmp 92, .tmp 93], argTypes := #[27, 27] }, none, true⟩,
  ⟨some 95, .build 46 #[(0, .tmp 94)], none, true⟩,
  ⟨some 96, .box 46 (.tmp 95), none, true⟩,
  ⟨some 18, .assign (.tmp 96), none, true⟩] e σ Q := propext ⟨fun h => h, fun h => h⟩
def k5_r16 : List COp := [
  ⟨some 98, .move (.tmp 17), none, true⟩,
  ⟨some 99, .move (.tmp 1), none, true⟩,
  ⟨some 100, .call { callee := .value (.func 24), args := #[.tmp 98, .tmp 99], argTypes := #[42, 3] }, none, true⟩,
  ⟨some 97, .move (.tmp 100), none, true⟩,
  ⟨some 101, .extract (.tmp 97) 0, none, true⟩,
  ⟨some 102, .extract (.tmp 97) 1, none, true⟩,
  ⟨some 19, .assign (.tmp 101), none, true⟩,
  ⟨some 20, .assign (.tmp 102), none, true⟩]
theorem k5_r16_e : Eo P pr N k5_r16 e σ Q = Eo P pr N [
  ⟨some 98, .move (.tmp 17), none, true⟩,
  ⟨some 99, .move (.tmp 1), none, true⟩,
  ⟨some 100, .call { callee := .value (.func 24), args := #[.tmp 98, .tmp 99], argTypes := #[42, 3] }, none, true⟩,
  ⟨some 97, .move (.tmp 100), none, true⟩,
  ⟨some 101, .extract (.tmp 97) 0, none, true⟩,
  ⟨some 102, .extract (.tmp 97) 1, none, true⟩,
  ⟨some 19, .assign (.tmp 101), none, true⟩,
  ⟨some 20, .assign (.tmp 102), none, true⟩] e σ Q := propext ⟨fun h => h, fun h => h⟩
def k5_r17 : List COp := [
  ⟨some 104, .move (.tmp 18), none, true⟩,
  ⟨some 105, .move (.tmp 1), none, true⟩,
  ⟨some 106, .call { callee := .value (.func 25), args := #[.tmp 104, .tmp 105], argTypes := #[44, 3] }, none, true⟩,
  ⟨some 103, .move (.tmp 106), none, true⟩,
  ⟨some 107, .extract (.tmp 103) 0, none, true⟩,
  ⟨some 108, .extract (.tmp 103) 1, none, true⟩,
  ⟨some 21, .assign (.tmp 107), none, true⟩,
  ⟨some 22, .assign (.tmp 108), none, true⟩]
theorem k5_r17_e : Eo P pr N k5_r17 e σ Q = Eo P pr N [
  ⟨some 104, .move (.tmp 18), none, true⟩,
  ⟨some 105, .move (.tmp 1), none, true⟩,
  ⟨some 106, .call { callee := .value (.func 25), args := #[.tmp 104, .tmp 105], argTypes := #[44, 3] }, none, true⟩,
  ⟨some 103, .move (.tmp 106), none, true⟩,
  ⟨some 107, .extract (.tmp 103) 0, none, true⟩,
  ⟨some 108, .extract (.tmp 103) 1, none, true⟩,
  ⟨some 21, .assign (.tmp 107), none, true⟩,
  ⟨some 22, .assign (.tmp 108), none, true⟩] e σ Q := propext ⟨fun h => h, fun h => h⟩
def k5_r18 : CC := (.wregion [
  (false, ⟨some 109, .move (.tmp 20), none, false⟩),
  (false, ⟨some 110, .move (.tmp 22), none, true⟩),
  (false, ⟨some 111, .binOp .eql 4 (.tmp 109) (.tmp 110) 4, none, true⟩),
  (false, ⟨some 112, .move (.tmp 111), none, true⟩),
  (false, ⟨some 113, .move (.tmp 19), some (112, true), false⟩),
  (false, ⟨some 114, .move (.tmp 21), some (112, true), true⟩),
  (false, ⟨some 115, .call { callee := .value (.func 26), args := #[.tmp 113, .tmp 114], argTypes := #[22, 22] }, some (112, true), true⟩),
  (true, ⟨some 116, .pick (.tmp 112) (.tmp 115) (.const (.bool false)), none, true⟩),
  (false, ⟨some 117, .move (.tmp 116), none, true⟩),
  (false, ⟨some 118, .move (.tmp 20), some (117, true), true⟩),
  (false, ⟨some 119, .unOp .not 4 (.tmp 118), some (117, true), true⟩),
  (false, ⟨some 120, .move (.tmp 119), some (117, true), true⟩),
  (false, ⟨some 121, .move (.tmp 17), some (120, false), false⟩),
  (false, ⟨some 122, .call { callee := .value (.func 27), args := #[.tmp 121], argTypes := #[42] }, some (120, false), false⟩),
  (true, ⟨some 123, .move (.tmp 18), some (120, false), true⟩),
  (false, ⟨some 124, .nilCheck (.tmp 123), some (120, false), true⟩),
  (false, ⟨some 125, .fieldAddr 46 (.tmp 124) 0, some (120, false), true⟩),
  (true, ⟨some 126, .load 27 (.tmp 125), some (120, false), true⟩),
  (false, ⟨some 127, .call { callee := .builtin .len, args := #[.tmp 126], argTypes := #[27] }, some (120, false), true⟩),
  (false, ⟨some 128, .binOp .eql 3 (.tmp 122) (.tmp 127) 3, some (120, false), true⟩),
  (false, ⟨some 129, .pick (.tmp 120) (.const (.bool true)) (.tmp 128), some (117, true), true⟩),
  (false, ⟨some 130, .pick (.tmp 117) (.tmp 129) (.const (.bool false)), none, true⟩),
  (false, ⟨some 6, .assign (.tmp 130), none, true⟩)] false [(17, ⟨some 126, .load 27 (.tmp 125), some (120, false), true⟩, [7, 14])])
theorem k5_r18_e : Ev P pr N k5_r18 e σ Q = Ev P pr N (.wregion [
  (false, ⟨some 109, .move (.tmp 20), none, false⟩),
  (false, ⟨some 110, .move (.tmp 22), none, true⟩),
  (false, ⟨some 111, .binOp .eql 4 (.tmp 109) (.tmp 110) 4, none, true⟩),
  (false, ⟨some 112, .move (.tmp 111), none, true⟩),
  (false, ⟨some 113, .move (.tmp 19), some (112, true), false⟩),
  (false, ⟨some 114, .move (.tmp 21), some (112, true), true⟩),
  (false, ⟨some 115, .call { callee := .value (.func 26), args := #[.tmp 113, .tmp 114], argTypes := #[22, 22] }, some (112, true), true⟩),
  (true, ⟨some 116, .pick (.tmp 112) (.tmp 115) (.const (.bool false)), none, true⟩),
  (false, ⟨some 117, .move (.tmp 116), none, true⟩),
  (false, ⟨some 118, .move (.tmp 20), some (117, true), true⟩),
  (false, ⟨some 119, .unOp .not 4 (.tmp 118), some (117, true), true⟩),
  (false, ⟨some 120, .move (.tmp 119), some (117, true), true⟩),
  (false, ⟨some 121, .move (.tmp 17), some (120, false), false⟩),
  (false, ⟨some 122, .call { callee := .value (.func 27), args := #[.tmp 121], argTypes := #[42] }, some (120, false), false⟩),
  (true, ⟨some 123, .move (.tmp 18), some (120, false), true⟩),
  (false, ⟨some 124, .nilCheck (.tmp 123), some (120, false), true⟩),
  (false, ⟨some 125, .fieldAddr 46 (.tmp 124) 0, some (120, false), true⟩),
  (true, ⟨some 126, .load 27 (.tmp 125), some (120, false), true⟩),
  (false, ⟨some 127, .call { callee := .builtin .len, args := #[.tmp 126], argTypes := #[27] }, some (120, false), true⟩),
  (false, ⟨some 128, .binOp .eql 3 (.tmp 122) (.tmp 127) 3, some (120, false), true⟩),
  (false, ⟨some 129, .pick (.tmp 120) (.const (.bool true)) (.tmp 128), some (117, true), true⟩),
  (false, ⟨some 130, .pick (.tmp 117) (.tmp 129) (.const (.bool false)), none, true⟩),
  (false, ⟨some 6, .assign (.tmp 130), none, true⟩)] false [(17, ⟨some 126, .load 27 (.tmp 125), some (120, false), true⟩, [7, 14])]) e σ Q := propext ⟨fun h => h, fun h => h⟩
def k5 : CC := (.seq (.region k5_r0) (.seq (.seq (.region k5_r1) (.cond (.tmp 24) (.seq (.region k5_r2) .ret) .skip)) (.seq (.seq (.region k5_r3) (.cond (.tmp 31) (.seq (.region k5_r4) .ret) .skip)) (.seq (.region k5_r5) (.seq (.region k5_r6) (.seq (.region k5_r7) (.seq (.region k5_r8) (.seq (.seq (.region k5_r9) (.cond (.tmp 76) (.seq (.region k5_r10) .ret) .skip)) (.seq k5_r11 (.seq (.seq (.region k5_r12) (.cond (.tmp 89) (.seq (.region k5_r13) .ret) .skip)) (.seq (.region k5_r14) (.seq (.region k5_r15) (.seq (.region k5_r16) (.seq (.region k5_r17) (.seq k5_r18 .ret)))))))))))))))
theorem k5_e : Ev P pr N k5 e σ Q = Ev P pr N (.seq (.region k5_r0) (.seq (.seq (.region k5_r1) (.cond (.tmp 24) (.seq (.region k5_r2) .ret) .skip)) (.seq (.seq (.region k5_r3) (.cond (.tmp 31) (.seq (.region k5_r4) .ret) .skip)) (.seq (.region k5_r5) (.seq (.region k5_r6) (.seq (.region k5_r7) (.seq (.region k5_r8) (.seq (.seq (.region k5_r9) (.cond (.tmp 76) (.seq (.region k5_r10) .ret) .skip)) (.seq k5_r11 (.seq (.seq (.region k5_r12) (.cond (.tmp 89) (.seq (.region k5_r13) .ret) .skip)) (.seq (.region k5_r14) (.seq (.region k5_r15) (.seq (.region k5_r16) (.seq (.region k5_r17) (.seq k5_r18 .ret))))))))))))))) e σ Q := propext ⟨fun h => h, fun h => h⟩
/-- quern/quernlaw21.StoreBytes -/
theorem k5_is : FnIs Try.prog noPrim 5 131 [ResultVar.tmp 6] k5 := FnIs.of_fn Try.func5 (by kernel_rfl)
def k6_r0 : List COp := [
  ⟨some 2, .box 24 (.tmp 0), none, true⟩,
  ⟨some 4, .assign (.const (.bool false)), none, true⟩]
theorem k6_r0_e : Eo P pr N k6_r0 e σ Q = Eo P pr N [
  ⟨some 2, .box 24 (.tmp 0), none, true⟩,
  ⟨some 4, .assign (.const (.bool false)), none, true⟩] e σ Q := propext ⟨fun h => h, fun h => h⟩
def k6_r1 : List COp := [
  ⟨some 13, .call { callee := .value (.func 9), args := #[], argTypes := #[] }, none, true⟩,
  ⟨some 14, .unOp .not 4 (.tmp 13), none, true⟩]
theorem k6_r1_e : Eo P pr N k6_r1 e σ Q = Eo P pr N [
  ⟨some 13, .call { callee := .value (.func 9), args := #[], argTypes := #[] }, none, true⟩,
  ⟨some 14, .unOp .not 4 (.tmp 13), none, true⟩] e σ Q := propext ⟨fun h => h, fun h => h⟩
def k6_r2 : List COp := [
  ⟨some 4, .assign (.const (.bool false)), none, true⟩]
theorem k6_r2_e : Eo P pr N k6_r2 e σ Q = Eo P pr N [
  ⟨some 4, .assign (.const (.bool false)), none, true⟩] e σ Q := propext ⟨fun h => h, fun h => h⟩
def k6_r3 : List COp := [
  ⟨some 15, .load 24 (.tmp 2), none, true⟩,
  ⟨some 16, .call { callee := .value (.func 10), args := #[.tmp 15], argTypes := #[24] }, none, true⟩,
  ⟨some 17, .move (.tmp 16), none, true⟩,
  ⟨some 18, .move (.tmp 1), some (17, false), true⟩,
  ⟨some 19, .call { callee := .builtin .len, args := #[.tmp 18], argTypes := #[27] }, some (17, false), true⟩,
  ⟨some 20, .binOp .gtr 3 (.tmp 19) (.const (.int .i64 16384)) 3, some (17, false), true⟩,
  ⟨some 21, .pick (.tmp 17) (.const (.bool true)) (.tmp 20), none, true⟩]
theorem k6_r3_e : Eo P pr N k6_r3 e σ Q = Eo P pr N [
  ⟨some 15, .load 24 (.tmp 2), none, true⟩,
  ⟨some 16, .call { callee := .value (.func 10), args := #[.tmp 15], argTypes := #[24] }, none, true⟩,
  ⟨some 17, .move (.tmp 16), none, true⟩,
  ⟨some 18, .move (.tmp 1), some (17, false), true⟩,
  ⟨some 19, .call { callee := .builtin .len, args := #[.tmp 18], argTypes := #[27] }, some (17, false), true⟩,
  ⟨some 20, .binOp .gtr 3 (.tmp 19) (.const (.int .i64 16384)) 3, some (17, false), true⟩,
  ⟨some 21, .pick (.tmp 17) (.const (.bool true)) (.tmp 20), none, true⟩] e σ Q := propext ⟨fun h => h, fun h => h⟩
def k6_r4 : List COp := [
  ⟨some 4, .assign (.const (.bool true)), none, true⟩]
theorem k6_r4_e : Eo P pr N k6_r4 e σ Q = Eo P pr N [
  ⟨some 4, .assign (.const (.bool true)), none, true⟩] e σ Q := propext ⟨fun h => h, fun h => h⟩
def k6_r5 : List COp := [
  ⟨some 23, .load 24 (.tmp 2), none, true⟩,
  ⟨some 24, .call { callee := .value (.func 11), args := #[.tmp 23], argTypes := #[24] }, none, true⟩,
  ⟨some 22, .move (.tmp 24), none, true⟩,
  ⟨some 25, .extract (.tmp 22) 0, none, true⟩,
  ⟨some 26, .extract (.tmp 22) 1, none, true⟩,
  ⟨some 5, .assign (.tmp 25), none, true⟩,
  ⟨some 6, .assign (.tmp 26), none, true⟩]
theorem k6_r5_e : Eo P pr N k6_r5 e σ Q = Eo P pr N [
  ⟨some 23, .load 24 (.tmp 2), none, true⟩,
  ⟨some 24, .call { callee := .value (.func 11), args := #[.tmp 23], argTypes := #[24] }, none, true⟩,
  ⟨some 22, .move (.tmp 24), none, true⟩,
  ⟨some 25, .extract (.tmp 22) 0, none, true⟩,
  ⟨some 26, .extract (.tmp 22) 1, none, true⟩,
  ⟨some 5, .assign (.tmp 25), none, true⟩,
  ⟨some 6, .assign (.tmp 26), none, true⟩] e σ Q := propext ⟨fun h => h, fun h => h⟩
def k6_r6 : List COp := [
  ⟨some 28, .load 24 (.tmp 2), none, true⟩,
  ⟨some 29, .call { callee := .value (.func 28), args := #[.tmp 28], argTypes := #[24] }, none, true⟩,
  ⟨some 27, .move (.tmp 29), none, true⟩,
  ⟨some 30, .extract (.tmp 27) 0, none, true⟩,
  ⟨some 31, .extract (.tmp 27) 1, none, true⟩,
  ⟨some 7, .assign (.tmp 30), none, true⟩,
  ⟨some 8, .assign (.tmp 31), none, true⟩]
theorem k6_r6_e : Eo P pr N k6_r6 e σ Q = Eo P pr N [
  ⟨some 28, .load 24 (.tmp 2), none, true⟩,
  ⟨some 29, .call { callee := .value (.func 28), args := #[.tmp 28], argTypes := #[24] }, none, true⟩,
  ⟨some 27, .move (.tmp 29), none, true⟩,
  ⟨some 30, .extract (.tmp 27) 0, none, true⟩,
  ⟨some 31, .extract (.tmp 27) 1, none, true⟩,
  ⟨some 7, .assign (.tmp 30), none, true⟩,
  ⟨some 8, .assign (.tmp 31), none, true⟩] e σ Q := propext ⟨fun h => h, fun h => h⟩
def k6_r7 : List COp := [
  ⟨some 33, .move (.tmp 1), none, true⟩,
  ⟨some 34, .call { callee := .value (.func 29), args := #[.tmp 33], argTypes := #[27] }, none, true⟩,
  ⟨some 32, .move (.tmp 34), none, true⟩,
  ⟨some 35, .extract (.tmp 32) 0, none, true⟩,
  ⟨some 36, .extract (.tmp 32) 1, none, true⟩,
  ⟨some 9, .alloc 24, none, true⟩,
  ⟨none, .store 24 (.tmp 9) (.tmp 35), none, true⟩,
  ⟨some 10, .assign (.tmp 36), none, true⟩]
theorem k6_r7_e : Eo P pr N k6_r7 e σ Q = Eo P pr N [
  ⟨some 33, .move (.tmp 1), none, true⟩,
  ⟨some 34, .call { callee := .value (.func 29), args := #[.tmp 33], argTypes := #[27] }, none, true⟩,
  ⟨some 32, .move (.tmp 34), none, true⟩,
  ⟨some 35, .extract (.tmp 32) 0, none, true⟩,
  ⟨some 36, .extract (.tmp 32) 1, none, true⟩,
  ⟨some 9, .alloc 24, none, true⟩,
  ⟨none, .store 24 (.tmp 9) (.tmp 35), none, true⟩,
  ⟨some 10, .assign (.tmp 36), none, true⟩] e σ Q := propext ⟨fun h => h, fun h => h⟩
def k6_r8 : List COp := [
  ⟨some 38, .move (.tmp 1), none, true⟩,
  ⟨some 39, .call { callee := .value (.func 30), args := #[.tmp 38], argTypes := #[27] }, none, true⟩,
  ⟨some 37, .move (.tmp 39), none, true⟩,
  ⟨some 40, .extract (.tmp 37) 0, none, true⟩,
  ⟨some 41, .extract (.tmp 37) 1, none, true⟩,
  ⟨some 11, .alloc 24, none, true⟩,
  ⟨none, .store 24 (.tmp 11) (.tmp 40), none, true⟩,
  ⟨some 12, .assign (.tmp 41), none, true⟩]
theorem k6_r8_e : Eo P pr N k6_r8 e σ Q = Eo P pr N [
  ⟨some 38, .move (.tmp 1), none, true⟩,
  ⟨some 39, .call { callee := .value (.func 30), args := #[.tmp 38], argTypes := #[27] }, none, true⟩,
  ⟨some 37, .move (.tmp 39), none, true⟩,
  ⟨some 40, .extract (.tmp 37) 0, none, true⟩,
  ⟨some 41, .extract (.tmp 37) 1, none, true⟩,
  ⟨some 11, .alloc 24, none, true⟩,
  ⟨none, .store 24 (.tmp 11) (.tmp 40), none, true⟩,
  ⟨some 12, .assign (.tmp 41), none, true⟩] e σ Q := propext ⟨fun h => h, fun h => h⟩
def k6_r9 : CC := (.wregion [
  (true, ⟨some 42, .load 24 (.tmp 2), none, false⟩),
  (false, ⟨some 43, .call { callee := .value (.func 31), args := #[.tmp 42], argTypes := #[24] }, none, false⟩),
  (true, ⟨some 44, .load 24 (.tmp 2), none, true⟩),
  (false, ⟨some 45, .call { callee := .value (.func 32), args := #[.tmp 44], argTypes := #[24] }, none, true⟩),
  (false, ⟨some 46, .binOp .eql 4 (.tmp 43) (.tmp 45) 4, none, true⟩),
  (false, ⟨some 47, .move (.tmp 46), none, true⟩),
  (false, ⟨some 48, .move (.tmp 5), some (47, true), false⟩),
  (false, ⟨some 49, .convert 27 9 (.tmp 48), some (47, true), false⟩),
  (false, ⟨some 50, .move (.tmp 7), some (47, true), true⟩),
  (false, ⟨some 51, .convert 27 9 (.tmp 50), some (47, true), true⟩),
  (false, ⟨some 52, .binOp .eql 9 (.tmp 49) (.tmp 51) 9, some (47, true), true⟩),
  (false, ⟨some 53, .pick (.tmp 47) (.tmp 52) (.const (.bool false)), none, true⟩),
  (false, ⟨some 54, .move (.tmp 53), none, true⟩),
  (false, ⟨some 55, .move (.tmp 6), some (54, true), false⟩),
  (false, ⟨some 56, .move (.tmp 8), some (54, true), true⟩),
  (false, ⟨some 57, .binOp .eql 28 (.tmp 55) (.tmp 56) 28, some (54, true), true⟩),
  (false, ⟨some 58, .pick (.tmp 54) (.tmp 57) (.const (.bool false)), none, true⟩),
  (false, ⟨some 59, .move (.tmp 58), none, true⟩),
  (false, ⟨some 60, .load 24 (.tmp 9), some (59, true), false⟩),
  (false, ⟨some 61, .load 24 (.tmp 11), some (59, true), true⟩),
  (false, ⟨some 62, .call { callee := .value (.func 12), args := #[.tmp 60, .tmp 61], argTypes := #[24, 24] }, some (59, true), true⟩),
  (false, ⟨some 63, .pick (.tmp 59) (.tmp 62) (.const (.bool false)), none, true⟩),
  (false, ⟨some 64, .move (.tmp 63), none, true⟩),
  (false, ⟨some 65, .move (.tmp 10), some (64, true), false⟩),
  (false, ⟨some 66, .move (.tmp 12), some (64, true), true⟩),
  (false, ⟨some 67, .binOp .eql 28 (.tmp 65) (.tmp 66) 28, some (64, true), true⟩),
  (false, ⟨some 68, .pick (.tmp 64) (.tmp 67) (.const (.bool false)), none, true⟩),
  (false, ⟨some 4, .assign (.tmp 68), none, true⟩)] false [(2, ⟨some 44, .load 24 (.tmp 2), none, true⟩, [0, 2])])
theorem k6_r9_e : Ev P pr N k6_r9 e σ Q = Ev P pr N (.wregion [
  (true, ⟨some 42, .load 24 (.tmp 2), none, false⟩),
  (false, ⟨some 43, .call { callee := .value (.func 31), args := #[.tmp 42], argTypes := #[24] }, none, false⟩),
  (true, ⟨some 44, .load 24 (.tmp 2), none, true⟩),
  (false, ⟨some 45, .call { callee := .value (.func 32), args := #[.tmp 44], argTypes := #[24] }, none, true⟩),
  (false, ⟨some 46, .binOp .eql 4 (.tmp 43) (.tmp 45) 4, none, true⟩),
  (false, ⟨some 47, .move (.tmp 46), none, true⟩),
  (false, ⟨some 48, .move (.tmp 5), some (47, true), false⟩),
  (false, ⟨some 49, .convert 27 9 (.tmp 48), some (47, true), false⟩),
  (false, ⟨some 50, .move (.tmp 7), some (47, true), true⟩),
  (false, ⟨some 51, .convert 27 9 (.tmp 50), some (47, true), true⟩),
  (false, ⟨some 52, .binOp .eql 9 (.tmp 49) (.tmp 51) 9, some (47, true), true⟩),
  (false, ⟨some 53, .pick (.tmp 47) (.tmp 52) (.const (.bool false)), none, true⟩),
  (false, ⟨some 54, .move (.tmp 53), none, true⟩),
  (false, ⟨some 55, .move (.tmp 6), some (54, true), false⟩),
  (false, ⟨some 56, .move (.tmp 8), some (54, true), true⟩),
  (false, ⟨some 57, .binOp .eql 28 (.tmp 55) (.tmp 56) 28, some (54, true), true⟩),
  (false, ⟨some 58, .pick (.tmp 54) (.tmp 57) (.const (.bool false)), none, true⟩),
  (false, ⟨some 59, .move (.tmp 58), none, true⟩),
  (false, ⟨some 60, .load 24 (.tmp 9), some (59, true), false⟩),
  (false, ⟨some 61, .load 24 (.tmp 11), some (59, true), true⟩),
  (false, ⟨some 62, .call { callee := .value (.func 12), args := #[.tmp 60, .tmp 61], argTypes := #[24, 24] }, some (59, true), true⟩),
  (false, ⟨some 63, .pick (.tmp 59) (.tmp 62) (.const (.bool false)), none, true⟩),
  (false, ⟨some 64, .move (.tmp 63), none, true⟩),
  (false, ⟨some 65, .move (.tmp 10), some (64, true), false⟩),
  (false, ⟨some 66, .move (.tmp 12), some (64, true), true⟩),
  (false, ⟨some 67, .binOp .eql 28 (.tmp 65) (.tmp 66) 28, some (64, true), true⟩),
  (false, ⟨some 68, .pick (.tmp 64) (.tmp 67) (.const (.bool false)), none, true⟩),
  (false, ⟨some 4, .assign (.tmp 68), none, true⟩)] false [(2, ⟨some 44, .load 24 (.tmp 2), none, true⟩, [0, 2])]) e σ Q := propext ⟨fun h => h, fun h => h⟩
def k6 : CC := (.seq (.region k6_r0) (.seq (.seq (.region k6_r1) (.cond (.tmp 14) (.seq (.region k6_r2) .ret) .skip)) (.seq (.seq (.region k6_r3) (.cond (.tmp 21) (.seq (.region k6_r4) .ret) .skip)) (.seq (.region k6_r5) (.seq (.region k6_r6) (.seq (.region k6_r7) (.seq (.region k6_r8) (.seq k6_r9 .ret))))))))
theorem k6_e : Ev P pr N k6 e σ Q = Ev P pr N (.seq (.region k6_r0) (.seq (.seq (.region k6_r1) (.cond (.tmp 14) (.seq (.region k6_r2) .ret) .skip)) (.seq (.seq (.region k6_r3) (.cond (.tmp 21) (.seq (.region k6_r4) .ret) .skip)) (.seq (.region k6_r5) (.seq (.region k6_r6) (.seq (.region k6_r7) (.seq (.region k6_r8) (.seq k6_r9 .ret)))))))) e σ Q := propext ⟨fun h => h, fun h => h⟩
/-- quern/quernlaw22.NetBytes -/
theorem k6_is : FnIs Try.prog noPrim 6 69 [ResultVar.tmp 4] k6 := FnIs.of_fn Try.func6 (by kernel_rfl)
def k7_r0 : List COp := [
  ⟨some 2, .box 24 (.tmp 0), none, true⟩,
  ⟨some 4, .assign (.const (.bool false)), none, true⟩]
theorem k7_r0_e : Eo P pr N k7_r0 e σ Q = Eo P pr N [
  ⟨some 2, .box 24 (.tmp 0), none, true⟩,
  ⟨some 4, .assign (.const (.bool false)), none, true⟩] e σ Q := propext ⟨fun h => h, fun h => h⟩
def k7_r1 : List COp := [
  ⟨some 12, .call { callee := .value (.func 9), args := #[], argTypes := #[] }, none, true⟩,
  ⟨some 13, .unOp .not 4 (.tmp 12), none, true⟩]
theorem k7_r1_e : Eo P pr N k7_r1 e σ Q = Eo P pr N [
  ⟨some 12, .call { callee := .value (.func 9), args := #[], argTypes := #[] }, none, true⟩,
  ⟨some 13, .unOp .not 4 (.tmp 12), none, true⟩] e σ Q := propext ⟨fun h => h, fun h => h⟩
def k7_r2 : List COp := [
  ⟨some 4, .assign (.const (.bool false)), none, true⟩]
theorem k7_r2_e : Eo P pr N k7_r2 e σ Q = Eo P pr N [
  ⟨some 4, .assign (.const (.bool false)), none, true⟩] e σ Q := propext ⟨fun h => h, fun h => h⟩
def k7_r3 : List COp := [
  ⟨some 14, .load 24 (.tmp 2), none, true⟩,
  ⟨some 15, .call { callee := .value (.func 10), args := #[.tmp 14], argTypes := #[24] }, none, true⟩,
  ⟨some 16, .move (.tmp 15), none, true⟩,
  ⟨some 17, .move (.tmp 1), some (16, false), true⟩,
  ⟨some 18, .call { callee := .builtin .len, args := #[.tmp 17], argTypes := #[27] }, some (16, false), true⟩,
  ⟨some 19, .binOp .gtr 3 (.tmp 18) (.const (.int .i64 16384)) 3, some (16, false), true⟩,
  ⟨some 20, .pick (.tmp 16) (.const (.bool true)) (.tmp 19), none, true⟩]
theorem k7_r3_e : Eo P pr N k7_r3 e σ Q = Eo P pr N [
  ⟨some 14, .load 24 (.tmp 2), none, true⟩,
  ⟨some 15, .call { callee := .value (.func 10), args := #[.tmp 14], argTypes := #[24] }, none, true⟩,
  ⟨some 16, .move (.tmp 15), none, true⟩,
  ⟨some 17, .move (.tmp 1), some (16, false), true⟩,
  ⟨some 18, .call { callee := .builtin .len, args := #[.tmp 17], argTypes := #[27] }, some (16, false), true⟩,
  ⟨some 19, .binOp .gtr 3 (.tmp 18) (.const (.int .i64 16384)) 3, some (16, false), true⟩,
  ⟨some 20, .pick (.tmp 16) (.const (.bool true)) (.tmp 19), none, true⟩] e σ Q := propext ⟨fun h => h, fun h => h⟩
def k7_r4 : List COp := [
  ⟨some 4, .assign (.const (.bool true)), none, true⟩]
theorem k7_r4_e : Eo P pr N k7_r4 e σ Q = Eo P pr N [
  ⟨some 4, .assign (.const (.bool true)), none, true⟩] e σ Q := propext ⟨fun h => h, fun h => h⟩
def k7_r5 : List COp := [
  ⟨some 22, .load 24 (.tmp 2), none, true⟩,
  ⟨some 23, .call { callee := .value (.func 11), args := #[.tmp 22], argTypes := #[24] }, none, true⟩,
  ⟨some 21, .move (.tmp 23), none, true⟩,
  ⟨some 24, .extract (.tmp 21) 0, none, true⟩,
  ⟨some 25, .extract (.tmp 21) 1, none, true⟩,
  ⟨some 5, .assign (.tmp 24), none, true⟩,
  ⟨some 6, .assign (.tmp 25), none, true⟩]
theorem k7_r5_e : Eo P pr N k7_r5 e σ Q = Eo P pr N [
  ⟨some 22, .load 24 (.tmp 2), none, true⟩,
  ⟨some 23, .call { callee := .value (.func 11), args := #[.tmp 22], argTypes := #[24] }, none, true⟩,
  ⟨some 21, .move (.tmp 23), none, true⟩,
  ⟨some 24, .extract (.tmp 21) 0, none, true⟩,
  ⟨some 25, .extract (.tmp 21) 1, none, true⟩,
  ⟨some 5, .assign (.tmp 24), none, true⟩,
  ⟨some 6, .assign (.tmp 25), none, true⟩] e σ Q := propext ⟨fun h => h, fun h => h⟩
def k7_r6 : List COp := [
  ⟨some 26, .move (.tmp 6), none, true⟩,
  ⟨some 27, .binOp .eql 28 (.tmp 26) (.const (.int .i64 0)) 28, none, true⟩]
theorem k7_r6_e : Eo P pr N k7_r6 e σ Q = Eo P pr N [
  ⟨some 26, .move (.tmp 6), none, true⟩,
  ⟨some 27, .binOp .eql 28 (.tmp 26) (.const (.int .i64 0)) 28, none, true⟩] e σ Q := propext ⟨fun h => h, fun h => h⟩
def k7_r7 : List COp := [
  ⟨some 29, .move (.tmp 5), none, true⟩,
  ⟨some 30, .call { callee := .value (.func 29), args := #[.tmp 29], argTypes := #[27] }, none, true⟩,
  ⟨some 28, .move (.tmp 30), none, true⟩,
  ⟨some 31, .extract (.tmp 28) 0, none, true⟩,
  ⟨some 32, .extract (.tmp 28) 1, none, true⟩,
  ⟨some 7, .alloc 24, none, true⟩,
  ⟨none, .store 24 (.tmp 7) (.tmp 31), none, true⟩,
  ⟨some 8, .assign (.tmp 32), none, true⟩]
theorem k7_r7_e : Eo P pr N k7_r7 e σ Q = Eo P pr N [
  ⟨some 29, .move (.tmp 5), none, true⟩,
  ⟨some 30, .call { callee := .value (.func 29), args := #[.tmp 29], argTypes := #[27] }, none, true⟩,
  ⟨some 28, .move (.tmp 30), none, true⟩,
  ⟨some 31, .extract (.tmp 28) 0, none, true⟩,
  ⟨some 32, .extract (.tmp 28) 1, none, true⟩,
  ⟨some 7, .alloc 24, none, true⟩,
  ⟨none, .store 24 (.tmp 7) (.tmp 31), none, true⟩,
  ⟨some 8, .assign (.tmp 32), none, true⟩] e σ Q := propext ⟨fun h => h, fun h => h⟩
def k7_r8 : List COp := [
  ⟨some 33, .move (.tmp 8), none, true⟩,
  ⟨some 34, .binOp .neq 28 (.tmp 33) (.const (.int .i64 0)) 28, none, true⟩,
  ⟨some 35, .move (.tmp 34), none, true⟩,
  ⟨some 36, .load 24 (.tmp 7), some (35, false), true⟩,
  ⟨some 37, .load 24 (.tmp 2), some (35, false), true⟩,
  ⟨some 38, .call { callee := .value (.func 12), args := #[.tmp 36, .tmp 37], argTypes := #[24, 24] }, some (35, false), true⟩,
  ⟨some 39, .unOp .not 4 (.tmp 38), some (35, false), true⟩,
  ⟨some 40, .pick (.tmp 35) (.const (.bool true)) (.tmp 39), none, true⟩]
theorem k7_r8_e : Eo P pr N k7_r8 e σ Q = Eo P pr N [
  ⟨some 33, .move (.tmp 8), none, true⟩,
  ⟨some 34, .binOp .neq 28 (.tmp 33) (.const (.int .i64 0)) 28, none, true⟩,
  ⟨some 35, .move (.tmp 34), none, true⟩,
  ⟨some 36, .load 24 (.tmp 7), some (35, false), true⟩,
  ⟨some 37, .load 24 (.tmp 2), some (35, false), true⟩,
  ⟨some 38, .call { callee := .value (.func 12), args := #[.tmp 36, .tmp 37], argTypes := #[24, 24] }, some (35, false), true⟩,
  ⟨some 39, .unOp .not 4 (.tmp 38), some (35, false), true⟩,
  ⟨some 40, .pick (.tmp 35) (.const (.bool true)) (.tmp 39), none, true⟩] e σ Q := propext ⟨fun h => h, fun h => h⟩
def k7_r9 : List COp := [
  ⟨some 4, .assign (.const (.bool false)), none, true⟩]
theorem k7_r9_e : Eo P pr N k7_r9 e σ Q = Eo P pr N [
  ⟨some 4, .assign (.const (.bool false)), none, true⟩] e σ Q := propext ⟨fun h => h, fun h => h⟩
def k7_r10 : List COp := [
  ⟨some 9, .assign (.const (.int .i64 0)), none, true⟩]
theorem k7_r10_e : Eo P pr N k7_r10 e σ Q = Eo P pr N [
  ⟨some 9, .assign (.const (.int .i64 0)), none, true⟩] e σ Q := propext ⟨fun h => h, fun h => h⟩
def k7_r11 : List COp := [
  ⟨some 41, .move (.tmp 9), none, true⟩,
  ⟨some 42, .move (.tmp 5), none, true⟩,
  ⟨some 43, .call { callee := .builtin .len, args := #[.tmp 42], argTypes := #[27] }, none, true⟩,
  ⟨some 44, .binOp .lss 3 (.tmp 41) (.tmp 43) 3, none, true⟩]
theorem k7_r11_e : Eo P pr N k7_r11 e σ Q = Eo P pr N [
  ⟨some 41, .move (.tmp 9), none, true⟩,
  ⟨some 42, .move (.tmp 5), none, true⟩,
  ⟨some 43, .call { callee := .builtin .len, args := #[.tmp 42], argTypes := #[27] }, none, true⟩,
  ⟨some 44, .binOp .lss 3 (.tmp 41) (.tmp 43) 3, none, true⟩] e σ Q := propext ⟨fun h => h, fun h => h⟩
def k7_r13 : List COp := [
  ⟨some 52, .move (.tmp 5), none, true⟩,
  ⟨some 53, .move (.tmp 9), none, true⟩,
  ⟨some 54, .slice 27 (.tmp 52) .none (some (.tmp 53)) .none, none, true⟩,
  ⟨some 55, .call { callee := .value (.func 29), args := #[.tmp 54], argTypes := #[27] }, none, true⟩,
  ⟨some 51, .move (.tmp 55), none, true⟩,
  ⟨some 56, .extract (.tmp 51) 0, none, true⟩,
  ⟨some 57, .extract (.tmp 51) 1, none, true⟩,
  ⟨some 8, .assign (.tmp 57), none, true⟩]
theorem k7_r13_e : Eo P pr N k7_r13 e σ Q = Eo P pr N [
  ⟨some 52, .move (.tmp 5), none, true⟩,
  ⟨some 53, .move (.tmp 9), none, true⟩,
  ⟨some 54, .slice 27 (.tmp 52) .none (some (.tmp 53)) .none, none, true⟩,
  ⟨some 55, .call { callee := .value (.func 29), args := #[.tmp 54], argTypes := #[27] }, none, true⟩,
  ⟨some 51, .move (.tmp 55), none, true⟩,
  ⟨some 56, .extract (.tmp 51) 0, none, true⟩,
  ⟨some 57, .extract (.tmp 51) 1, none, true⟩,
  ⟨some 8, .assign (.tmp 57), none, true⟩] e σ Q := propext ⟨fun h => h, fun h => h⟩
def k7_r14 : List COp := [
  ⟨some 58, .move (.tmp 8), none, true⟩,
  ⟨some 59, .binOp .neq 28 (.tmp 58) (.const (.int .i64 11)) 28, none, true⟩]
theorem k7_r14_e : Eo P pr N k7_r14 e σ Q = Eo P pr N [
  ⟨some 58, .move (.tmp 8), none, true⟩,
  ⟨some 59, .binOp .neq 28 (.tmp 58) (.const (.int .i64 11)) 28, none, true⟩] e σ Q := propext ⟨fun h => h, fun h => h⟩
def k7_r15 : List COp := [
  ⟨some 4, .assign (.const (.bool false)), none, true⟩]
theorem k7_r15_e : Eo P pr N k7_r15 e σ Q = Eo P pr N [
  ⟨some 4, .assign (.const (.bool false)), none, true⟩] e σ Q := propext ⟨fun h => h, fun h => h⟩
def k7_r12 : List COp := [
  ⟨some 45, .move (.tmp 9), none, true⟩,
  ⟨some 46, .move (.tmp 5), none, true⟩,
  ⟨some 47, .call { callee := .builtin .len, args := #[.tmp 46], argTypes := #[27] }, none, true⟩,
  ⟨some 48, .binOp .quo 3 (.tmp 47) (.const (.int .i64 30)) 3, none, true⟩,
  ⟨some 49, .binOp .add 3 (.const (.int .i64 1)) (.tmp 48) 3, none, true⟩,
  ⟨some 50, .binOp .add 3 (.tmp 45) (.tmp 49) 3, none, true⟩,
  ⟨some 9, .assign (.tmp 50), none, true⟩]
theorem k7_r12_e : Eo P pr N k7_r12 e σ Q = Eo P pr N [
  ⟨some 45, .move (.tmp 9), none, true⟩,
  ⟨some 46, .move (.tmp 5), none, true⟩,
  ⟨some 47, .call { callee := .builtin .len, args := #[.tmp 46], argTypes := #[27] }, none, true⟩,
  ⟨some 48, .binOp .quo 3 (.tmp 47) (.const (.int .i64 30)) 3, none, true⟩,
  ⟨some 49, .binOp .add 3 (.const (.int .i64 1)) (.tmp 48) 3, none, true⟩,
  ⟨some 50, .binOp .add 3 (.tmp 45) (.tmp 49) 3, none, true⟩,
  ⟨some 9, .assign (.tmp 50), none, true⟩] e σ Q := propext ⟨fun h => h, fun h => h⟩
def k7_l0 : CC := (.seq (.seq (.region k7_r11) (.cond (.tmp 44) .skip (.exit 0))) (.seq (.block 1 (.seq (.region k7_r13) (.seq (.region k7_r14) (.cond (.tmp 59) (.seq (.region k7_r15) .ret) .skip)))) (.region k7_r12)))
theorem k7_l0_e : Ev P pr N k7_l0 e σ Q = Ev P pr N (.seq (.seq (.region k7_r11) (.cond (.tmp 44) .skip (.exit 0))) (.seq (.block 1 (.seq (.region k7_r13) (.seq (.region k7_r14) (.cond (.tmp 59) (.seq (.region k7_r15) .ret) .skip)))) (.region k7_r12))) e σ Q := propext ⟨fun h => h, fun h => h⟩
def k7_r16 : List COp := [
  ⟨some 61, .buildSlice 27 0 #[], none, true⟩,
  ⟨some 62, .move (.tmp 5), none, true⟩,
  ⟨some 63, .call { callee := .builtin .append, args := #[.tmp 61, .tmp 62], argTypes := #[27, 27] }, none, true⟩,
  ⟨some 64, .buildSlice 27 1 #[(0, .const (.int .u8 0))], none, true⟩,
  ⟨some 65, .call { callee := .builtin .append, args := #[.tmp 63, .tmp 64], argTypes := #[27, 27] }, none, true⟩,
  ⟨some 66, .call { callee := .value (.func 29), args := #[.tmp 65], argTypes := #[27] }, none, true⟩,
  ⟨some 60, .move (.tmp 66), none, true⟩,
  ⟨some 67, .extract (.tmp 60) 0, none, true⟩,
  ⟨some 68, .extract (.tmp 60) 1, none, true⟩,
  ⟨some 8, .assign (.tmp 68), none, true⟩]
theorem k7_r16_e : Eo P pr N k7_r16 e σ Q = Eo P pr N [
  ⟨some 61, .buildSlice 27 0 #[], none, true⟩,
  ⟨some 62, .move (.tmp 5), none, true⟩,
  ⟨some 63, .call { callee := .builtin .append, args := #[.tmp 61, .tmp 62], argTypes := #[27, 27] }, none, true⟩,
  ⟨some 64, .buildSlice 27 1 #[(0, .const (.int .u8 0))], none, true⟩,
  ⟨some 65, .call { callee := .builtin .append, args := #[.tmp 63, .tmp 64], argTypes := #[27, 27] }, none, true⟩,
  ⟨some 66, .call { callee := .value (.func 29), args := #[.tmp 65], argTypes := #[27] }, none, true⟩,
  ⟨some 60, .move (.tmp 66), none, true⟩,
  ⟨some 67, .extract (.tmp 60) 0, none, true⟩,
  ⟨some 68, .extract (.tmp 60) 1, none, true⟩,
  ⟨some 8, .assign (.tmp 68), none, true⟩] e σ Q := propext ⟨fun h => h, fun h => h⟩
def k7_r17 : List COp := [
  ⟨some 69, .move (.tmp 8), none, true⟩,
  ⟨some 70, .binOp .neq 28 (.tmp 69) (.const (.int .i64 11)) 28, none, true⟩]
theorem k7_r17_e : Eo P pr N k7_r17 e σ Q = Eo P pr N [
  ⟨some 69, .move (.tmp 8), none, true⟩,
  ⟨some 70, .binOp .neq 28 (.tmp 69) (.const (.int .i64 11)) 28, none, true⟩] e σ Q := propext ⟨fun h => h, fun h => h⟩
def k7_r18 : List COp := [
  ⟨some 4, .assign (.const (.bool false)), none, true⟩]
theorem k7_r18_e : Eo P pr N k7_r18 e σ Q = Eo P pr N [
  ⟨some 4, .assign (.const (.bool false)), none, true⟩] e σ Q := propext ⟨fun h => h, fun h => h⟩
def k7_r19 : List COp := [
  ⟨some 72, .move (.tmp 1), none, true⟩,
  ⟨some 73, .call { callee := .value (.func 29), args := #[.tmp 72], argTypes := #[27] }, none, true⟩,
  ⟨some 71, .move (.tmp 73), none, true⟩,
  ⟨some 74, .extract (.tmp 71) 0, none, true⟩,
  ⟨some 75, .extract (.tmp 71) 1, none, true⟩,
  ⟨some 10, .alloc 24, none, true⟩,
  ⟨none, .store 24 (.tmp 10) (.tmp 74), none, true⟩,
  ⟨some 6, .assign (.tmp 75), none, true⟩]
theorem k7_r19_e : Eo P pr N k7_r19 e σ Q = Eo P pr N [
  ⟨some 72, .move (.tmp 1), none, true⟩,
  ⟨some 73, .call { callee := .value (.func 29), args := #[.tmp 72], argTypes := #[27] }, none, true⟩,
  ⟨some 71, .move (.tmp 73), none, true⟩,
  ⟨some 74, .extract (.tmp 71) 0, none, true⟩,
  ⟨some 75, .extract (.tmp 71) 1, none, true⟩,
  ⟨some 10, .alloc 24, none, true⟩,
  ⟨none, .store 24 (.tmp 10) (.tmp 74), none, true⟩,
  ⟨some 6, .assign (.tmp 75), none, true⟩] e σ Q := propext ⟨fun h => h, fun h => h⟩
def k7_r20 : List COp := [
  ⟨some 76, .move (.tmp 6), none, true⟩,
  ⟨some 77, .binOp .neq 28 (.tmp 76) (.const (.int .i64 0)) 28, none, true⟩]
theorem k7_r20_e : Eo P pr N k7_r20 e σ Q = Eo P pr N [
  ⟨some 76, .move (.tmp 6), none, true⟩,
  ⟨some 77, .binOp .neq 28 (.tmp 76) (.const (.int .i64 0)) 28, none, true⟩] e σ Q := propext ⟨fun h => h, fun h => h⟩
def k7_r21 : List COp := [
  ⟨some 78, .move (.tmp 6), none, true⟩,
  ⟨some 79, .binOp .eql 28 (.tmp 78) (.const (.int .i64 11)) 28, none, true⟩,
  ⟨some 80, .move (.tmp 79), none, true⟩,
  ⟨some 81, .load 24 (.tmp 10), some (80, true), true⟩,
  ⟨some 82, .build 24 #[], some (80, true), true⟩,
  ⟨some 83, .call { callee := .value (.func 12), args := #[.tmp 81, .tmp 82], argTypes := #[24, 24] }, some (80, true), true⟩,
  ⟨some 84, .pick (.tmp 80) (.tmp 83) (.const (.bool false)), none, true⟩,
  ⟨some 4, .assign (.tmp 84), none, true⟩]
theorem k7_r21_e : Eo P pr N k7_r21 e σ Q = Eo P pr N [
  ⟨some 78, .move (.tmp 6), none, true⟩,
  ⟨some 79, .binOp .eql 28 (.tmp 78) (.const (.int .i64 11)) 28, none, true⟩,
  ⟨some 80, .move (.tmp 79), none, true⟩,
  ⟨some 81, .load 24 (.tmp 10), some (80, true), true⟩,
  ⟨some 82, .build 24 #[], some (80, true), true⟩,
  ⟨some 83, .call { callee := .value (.func 12), args := #[.tmp 81, .tmp 82], argTypes := #[24, 24] }, some (80, true), true⟩,
  ⟨some 84, .pick (.tmp 80) (.tmp 83) (.const (.bool false)), none, true⟩,
  ⟨some 4, .assign (.tmp 84), none, true⟩] e σ Q := propext ⟨fun h => h, fun h => h⟩
def k7_r22 : List COp := [
  ⟨some 86, .load 24 (.tmp 10), none, true⟩,
  ⟨some 87, .call { callee := .value (.func 11), args := #[.tmp 86], argTypes := #[24] }, none, true⟩,
  ⟨some 85, .move (.tmp 87), none, true⟩,
  ⟨some 88, .extract (.tmp 85) 0, none, true⟩,
  ⟨some 89, .extract (.tmp 85) 1, none, true⟩,
  ⟨some 11, .assign (.tmp 88), none, true⟩,
  ⟨some 6, .assign (.tmp 89), none, true⟩]
theorem k7_r22_e : Eo P pr N k7_r22 e σ Q = Eo P pr N [
  ⟨some 86, .load 24 (.tmp 10), none, true⟩,
  ⟨some 87, .call { callee := .value (.func 11), args := #[.tmp 86], argTypes := #[24] }, none, true⟩,
  ⟨some 85, .move (.tmp 87), none, true⟩,
  ⟨some 88, .extract (.tmp 85) 0, none, true⟩,
  ⟨some 89, .extract (.tmp 85) 1, none, true⟩,
  ⟨some 11, .assign (.tmp 88), none, true⟩,
  ⟨some 6, .assign (.tmp 89), none, true⟩] e σ Q := propext ⟨fun h => h, fun h => h⟩
def k7_r23 : List COp := [
  ⟨some 90, .move (.tmp 6), none, true⟩,
  ⟨some 91, .binOp .eql 28 (.tmp 90) (.const (.int .i64 0)) 28, none, true⟩,
  ⟨some 92, .move (.tmp 91), none, true⟩,
  ⟨some 93, .move (.tmp 11), some (92, true), true⟩,
  ⟨some 94, .convert 27 9 (.tmp 93), some (92, true), true⟩,
  ⟨some 95, .move (.tmp 1), some (92, true), true⟩,
  ⟨some 96, .convert 27 9 (.tmp 95), some (92, true), true⟩,
  ⟨some 97, .binOp .eql 9 (.tmp 94) (.tmp 96) 9, some (92, true), true⟩,
  ⟨some 98, .pick (.tmp 92) (.tmp 97) (.const (.bool false)), none, true⟩,
  ⟨some 4, .assign (.tmp 98), none, true⟩]
theorem k7_r23_e : Eo P pr N k7_r23 e σ Q = Eo P pr N [
  ⟨some 90, .move (.tmp 6), none, true⟩,
  ⟨some 91, .binOp .eql 28 (.tmp 90) (.const (.int .i64 0)) 28, none, true⟩,
  ⟨some 92, .move (.tmp 91), none, true⟩,
  ⟨some 93, .move (.tmp 11), some (92, true), true⟩,
  ⟨some 94, .convert 27 9 (.tmp 93), some (92, true), true⟩,
  ⟨some 95, .move (.tmp 1), some (92, true), true⟩,
  ⟨some 96, .convert 27 9 (.tmp 95), some (92, true), true⟩,
  ⟨some 97, .binOp .eql 9 (.tmp 94) (.tmp 96) 9, some (92, true), true⟩,
  ⟨some 98, .pick (.tmp 92) (.tmp 97) (.const (.bool false)), none, true⟩,
  ⟨some 4, .assign (.tmp 98), none, true⟩] e σ Q := propext ⟨fun h => h, fun h => h⟩
def k7 : CC := (.seq (.region k7_r0) (.seq (.seq (.region k7_r1) (.cond (.tmp 13) (.seq (.region k7_r2) .ret) .skip)) (.seq (.seq (.region k7_r3) (.cond (.tmp 20) (.seq (.region k7_r4) .ret) .skip)) (.seq (.region k7_r5) (.seq (.seq (.region k7_r6) (.cond (.tmp 27) (.seq (.region k7_r7) (.seq (.seq (.region k7_r8) (.cond (.tmp 40) (.seq (.region k7_r9) .ret) .skip)) (.seq (.seq (.region k7_r10) (.block 0 (.loop k7_l0))) (.seq (.region k7_r16) (.seq (.region k7_r17) (.cond (.tmp 70) (.seq (.region k7_r18) .ret) .skip)))))) .skip)) (.seq (.region k7_r19) (.seq (.seq (.region k7_r20) (.cond (.tmp 77) (.seq (.region k7_r21) .ret) .skip)) (.seq (.region k7_r22) (.seq (.region k7_r23) .ret)))))))))
theorem k7_e : Ev P pr N k7 e σ Q = Ev P pr N (.seq (.region k7_r0) (.seq (.seq (.region k7_r1) (.cond (.tmp 13) (.seq (.region k7_r2) .ret) .skip)) (.seq (.seq (.region k7_r3) (.cond (.tmp 20) (.seq (.region k7_r4) .ret) .skip)) (.seq (.region k7_r5) (.seq (.seq (.region k7_r6) (.cond (.tmp 27) (.seq (.region k7_r7) (.seq (.seq (.region k7_r8) (.cond (.tmp 40) (.seq (.region k7_r9) .ret) .skip)) (.seq (.seq (.region k7_r10) (.block 0 (.loop k7_l0))) (.seq (.region k7_r16) (.seq (.region k7_r17) (.cond (.tmp 70) (.seq (.region k7_r18) .ret) .skip)))))) .skip)) (.seq (.region k7_r19) (.seq (.seq (.region k7_r20) (.cond (.tmp 77) (.seq (.region k7_r21) .ret) .skip)) (.seq (.region k7_r22) (.seq (.region k7_r23) .ret))))))))) e σ Q := propext ⟨fun h => h, fun h => h⟩
/-- quern/quernlaw22.NetBack -/
theorem k7_is : FnIs Try.prog noPrim 7 99 [ResultVar.tmp 4] k7 := FnIs.of_fn Try.func7 (by kernel_rfl)
def k9_r0 : List COp := [
  ⟨some 0, .assign (.const (.bool false)), none, true⟩]
theorem k9_r0_e : Eo P pr N k9_r0 e σ Q = Eo P pr N [
  ⟨some 0, .assign (.const (.bool false)), none, true⟩] e σ Q := propext ⟨fun h => h, fun h => h⟩
def k9_r1 : List COp := [
  ⟨some 4, .build 24 #[(0, .const (.int .i64 1)), (1, .const (.int .i64 2)), (2, .const (.int .i64 2)), (3, .const (.int .i64 3)), (7, .const (.bool true))], none, true⟩,
  ⟨some 5, .call { callee := .value (.func 11), args := #[.tmp 4], argTypes := #[24] }, none, true⟩,
  ⟨some 3, .move (.tmp 5), none, true⟩,
  ⟨some 6, .extract (.tmp 3) 0, none, true⟩,
  ⟨some 7, .extract (.tmp 3) 1, none, true⟩,
  ⟨some 1, .assign (.tmp 6), none, true⟩,
  ⟨some 2, .assign (.tmp 7), none, true⟩]
theorem k9_r1_e : Eo P pr N k9_r1 e σ Q = Eo P pr N [
  ⟨some 4, .build 24 #[(0, .const (.int .i64 1)), (1, .const (.int .i64 2)), (2, .const (.int .i64 2)), (3, .const (.int .i64 3)), (7, .const (.bool true))], none, true⟩,
  ⟨some 5, .call { callee := .value (.func 11), args := #[.tmp 4], argTypes := #[24] }, none, true⟩,
  ⟨some 3, .move (.tmp 5), none, true⟩,
  ⟨some 6, .extract (.tmp 3) 0, none, true⟩,
  ⟨some 7, .extract (.tmp 3) 1, none, true⟩,
  ⟨some 1, .assign (.tmp 6), none, true⟩,
  ⟨some 2, .assign (.tmp 7), none, true⟩] e σ Q := propext ⟨fun h => h, fun h => h⟩
def k9_r2 : List COp := [
  ⟨some 8, .move (.tmp 2), none, true⟩,
  ⟨some 9, .binOp .eql 28 (.tmp 8) (.const (.int .i64 0)) 28, none, true⟩,
  ⟨some 10, .move (.tmp 9), none, true⟩,
  ⟨some 11, .move (.tmp 1), some (10, true), true⟩,
  ⟨some 12, .convert 27 9 (.tmp 11), some (10, true), true⟩,
  ⟨some 13, .binOp .eql 9 (.tmp 12) (.const (.string { data := #[1, 2, 2, 3, 0, 0, 0, 1, 0, 0] })) 9, some (10, true), true⟩,
  ⟨some 14, .pick (.tmp 10) (.tmp 13) (.const (.bool false)), none, true⟩,
  ⟨some 0, .assign (.tmp 14), none, true⟩]
theorem k9_r2_e : Eo P pr N k9_r2 e σ Q = Eo P pr N [
  ⟨some 8, .move (.tmp 2), none, true⟩,
  ⟨some 9, .binOp .eql 28 (.tmp 8) (.const (.int .i64 0)) 28, none, true⟩,
  ⟨some 10, .move (.tmp 9), none, true⟩,
  ⟨some 11, .move (.tmp 1), some (10, true), true⟩,
  ⟨some 12, .convert 27 9 (.tmp 11), some (10, true), true⟩,
  ⟨some 13, .binOp .eql 9 (.tmp 12) (.const (.string { data := #[1, 2, 2, 3, 0, 0, 0, 1, 0, 0] })) 9, some (10, true), true⟩,
  ⟨some 14, .pick (.tmp 10) (.tmp 13) (.const (.bool false)), none, true⟩,
  ⟨some 0, .assign (.tmp 14), none, true⟩] e σ Q := propext ⟨fun h => h, fun h => h⟩
def k9 : CC := (.seq (.region k9_r0) (.seq (.region k9_r1) (.seq (.region k9_r2) .ret)))
theorem k9_e : Ev P pr N k9 e σ Q = Ev P pr N (.seq (.region k9_r0) (.seq (.region k9_r1) (.seq (.region k9_r2) .ret))) e σ Q := propext ⟨fun h => h, fun h => h⟩
/-- quern/quernlaw22.wakes -/
theorem k9_is : FnIs Try.prog noPrim 9 15 [ResultVar.tmp 0] k9 := FnIs.of_fn Try.func9 (by kernel_rfl)
def k10_r0 : List COp := [
  ⟨some 1, .box 24 (.tmp 0), none, true⟩,
  ⟨some 2, .assign (.const (.bool false)), none, true⟩]
theorem k10_r0_e : Eo P pr N k10_r0 e σ Q = Eo P pr N [
  ⟨some 1, .box 24 (.tmp 0), none, true⟩,
  ⟨some 2, .assign (.const (.bool false)), none, true⟩] e σ Q := propext ⟨fun h => h, fun h => h⟩
def k10_r1 : List COp := [
  ⟨some 6, .fieldAddr 24 (.tmp 1) 9, none, true⟩,
  ⟨some 7, .load 9 (.tmp 6), none, true⟩,
  ⟨some 8, .call { callee := .builtin .len, args := #[.tmp 7], argTypes := #[9] }, none, true⟩,
  ⟨some 3, .assign (.tmp 8), none, true⟩]
theorem k10_r1_e : Eo P pr N k10_r1 e σ Q = Eo P pr N [
  ⟨some 6, .fieldAddr 24 (.tmp 1) 9, none, true⟩,
  ⟨some 7, .load 9 (.tmp 6), none, true⟩,
  ⟨some 8, .call { callee := .builtin .len, args := #[.tmp 7], argTypes := #[9] }, none, true⟩,
  ⟨some 3, .assign (.tmp 8), none, true⟩] e σ Q := propext ⟨fun h => h, fun h => h⟩
def k10_r2 : List COp := [
  ⟨some 9, .fieldAddr 24 (.tmp 1) 8, none, true⟩,
  ⟨some 10, .load 22 (.tmp 9), none, true⟩,
  ⟨some 11, .call { callee := .builtin .len, args := #[.tmp 10], argTypes := #[22] }, none, true⟩,
  ⟨some 12, .move (.const (.int .i64 0)), none, true⟩]
theorem k10_r2_e : Eo P pr N k10_r2 e σ Q = Eo P pr N [
  ⟨some 9, .fieldAddr 24 (.tmp 1) 8, none, true⟩,
  ⟨some 10, .load 22 (.tmp 9), none, true⟩,
  ⟨some 11, .call { callee := .builtin .len, args := #[.tmp 10], argTypes := #[22] }, none, true⟩,
  ⟨some 12, .move (.const (.int .i64 0)), none, true⟩] e σ Q := propext ⟨fun h => h, fun h => h⟩
def k10_r3 : List COp := [
  ⟨some 13, .binOp .lss 3 (.tmp 12) (.tmp 11) 3, none, true⟩]
theorem k10_r3_e : Eo P pr N k10_r3 e σ Q = Eo P pr N [
  ⟨some 13, .binOp .lss 3 (.tmp 12) (.tmp 11) 3, none, true⟩] e σ Q := propext ⟨fun h => h, fun h => h⟩
def k10_r4 : List COp := [
  ⟨some 14, .indexAddr 22 (.tmp 10) (.tmp 12), none, true⟩,
  ⟨some 15, .load 66 (.tmp 14), none, true⟩,
  ⟨some 5, .alloc 66, none, true⟩,
  ⟨none, .store 66 (.tmp 5) (.tmp 15), none, true⟩]
theorem k10_r4_e : Eo P pr N k10_r4 e σ Q = Eo P pr N [
  ⟨some 14, .indexAddr 22 (.tmp 10) (.tmp 12), none, true⟩,
  ⟨some 15, .load 66 (.tmp 14), none, true⟩,
  ⟨some 5, .alloc 66, none, true⟩,
  ⟨none, .store 66 (.tmp 5) (.tmp 15), none, true⟩] e σ Q := propext ⟨fun h => h, fun h => h⟩
def k10_r5 : List COp := [
  ⟨some 16, .move (.tmp 3), none, true⟩,
  ⟨some 17, .fieldAddr 66 (.tmp 5) 1, none, true⟩,
  ⟨some 18, .fieldAddr 64 (.tmp 17) 4, none, true⟩,
  ⟨some 19, .load 9 (.tmp 18), none, true⟩,
  ⟨some 20, .call { callee := .builtin .len, args := #[.tmp 19], argTypes := #[9] }, none, true⟩,
  ⟨some 21, .binOp .add 3 (.const (.int .i64 1)) (.tmp 20) 3, none, true⟩,
  ⟨some 22, .binOp .add 3 (.tmp 16) (.tmp 21) 3, none, true⟩,
  ⟨some 3, .assign (.tmp 22), none, true⟩]
theorem k10_r5_e : Eo P pr N k10_r5 e σ Q = Eo P pr N [
  ⟨some 16, .move (.tmp 3), none, true⟩,
  ⟨some 17, .fieldAddr 66 (.tmp 5) 1, none, true⟩,
  ⟨some 18, .fieldAddr 64 (.tmp 17) 4, none, true⟩,
  ⟨some 19, .load 9 (.tmp 18), none, true⟩,
  ⟨some 20, .call { callee := .builtin .len, args := #[.tmp 19], argTypes := #[9] }, none, true⟩,
  ⟨some 21, .binOp .add 3 (.const (.int .i64 1)) (.tmp 20) 3, none, true⟩,
  ⟨some 22, .binOp .add 3 (.tmp 16) (.tmp 21) 3, none, true⟩,
  ⟨some 3, .assign (.tmp 22), none, true⟩] e σ Q := propext ⟨fun h => h, fun h => h⟩
def k10_r6 : List COp := [
  ⟨some 23, .move (.tmp 3), none, true⟩,
  ⟨some 24, .binOp .gtr 3 (.tmp 23) (.const (.int .i64 16384)) 3, none, true⟩]
theorem k10_r6_e : Eo P pr N k10_r6 e σ Q = Eo P pr N [
  ⟨some 23, .move (.tmp 3), none, true⟩,
  ⟨some 24, .binOp .gtr 3 (.tmp 23) (.const (.int .i64 16384)) 3, none, true⟩] e σ Q := propext ⟨fun h => h, fun h => h⟩
def k10_r7 : List COp := [
  ⟨some 2, .assign (.const (.bool true)), none, true⟩]
theorem k10_r7_e : Eo P pr N k10_r7 e σ Q = Eo P pr N [
  ⟨some 2, .assign (.const (.bool true)), none, true⟩] e σ Q := propext ⟨fun h => h, fun h => h⟩
def k10_r8 : List COp := [
  ⟨some 25, .binOp .add 3 (.tmp 12) (.const (.int .i64 1)) 3, none, true⟩,
  ⟨some 12, .move (.tmp 25), none, true⟩]
theorem k10_r8_e : Eo P pr N k10_r8 e σ Q = Eo P pr N [
  ⟨some 25, .binOp .add 3 (.tmp 12) (.const (.int .i64 1)) 3, none, true⟩,
  ⟨some 12, .move (.tmp 25), none, true⟩] e σ Q := propext ⟨fun h => h, fun h => h⟩
def k10_l0 : CC := (.seq (.region k10_r3) (.seq (.cond (.tmp 13) .skip (.exit 0)) (.seq (.block 1 (.seq (.region k10_r4) (.seq (.region k10_r5) (.seq (.region k10_r6) (.cond (.tmp 24) (.seq (.region k10_r7) .ret) .skip))))) (.region k10_r8))))
theorem k10_l0_e : Ev P pr N k10_l0 e σ Q = Ev P pr N (.seq (.region k10_r3) (.seq (.cond (.tmp 13) .skip (.exit 0)) (.seq (.block 1 (.seq (.region k10_r4) (.seq (.region k10_r5) (.seq (.region k10_r6) (.cond (.tmp 24) (.seq (.region k10_r7) .ret) .skip))))) (.region k10_r8)))) e σ Q := propext ⟨fun h => h, fun h => h⟩
def k10_r9 : List COp := [
  ⟨some 26, .move (.tmp 3), none, true⟩,
  ⟨some 27, .binOp .gtr 3 (.tmp 26) (.const (.int .i64 16384)) 3, none, true⟩,
  ⟨some 2, .assign (.tmp 27), none, true⟩]
theorem k10_r9_e : Eo P pr N k10_r9 e σ Q = Eo P pr N [
  ⟨some 26, .move (.tmp 3), none, true⟩,
  ⟨some 27, .binOp .gtr 3 (.tmp 26) (.const (.int .i64 16384)) 3, none, true⟩,
  ⟨some 2, .assign (.tmp 27), none, true⟩] e σ Q := propext ⟨fun h => h, fun h => h⟩
def k10 : CC := (.seq (.region k10_r0) (.seq (.region k10_r1) (.seq (.seq (.region k10_r2) (.block 0 (.loop k10_l0))) (.seq (.region k10_r9) .ret))))
theorem k10_e : Ev P pr N k10 e σ Q = Ev P pr N (.seq (.region k10_r0) (.seq (.region k10_r1) (.seq (.seq (.region k10_r2) (.block 0 (.loop k10_l0))) (.seq (.region k10_r9) .ret)))) e σ Q := propext ⟨fun h => h, fun h => h⟩
/-- quern/quernlaw22.heavy -/
theorem k10_is : FnIs Try.prog noPrim 10 28 [ResultVar.tmp 2] k10 := FnIs.of_fn Try.func10 (by kernel_rfl)
def k11_r0 : List COp := [
  ⟨some 1, .box 24 (.tmp 0), none, true⟩,
  ⟨some 2, .assign (.const (.slice .none 0 0)), none, true⟩,
  ⟨some 3, .assign (.const (.int .i64 0)), none, true⟩]
theorem k11_r0_e : Eo P pr N k11_r0 e σ Q = Eo P pr N [
  ⟨some 1, .box 24 (.tmp 0), none, true⟩,
  ⟨some 2, .assign (.const (.slice .none 0 0)), none, true⟩,
  ⟨some 3, .assign (.const (.int .i64 0)), none, true⟩] e σ Q := propext ⟨fun h => h, fun h => h⟩
def k11_r1 : List COp := [
  ⟨some 5, .load 24 (.tmp 1), none, true⟩,
  ⟨some 6, .call { callee := .value (.func 31), args := #[.tmp 5], argTypes := #[24] }, none, true⟩,
  ⟨some 7, .unOp .not 4 (.tmp 6), none, true⟩]
theorem k11_r1_e : Eo P pr N k11_r1 e σ Q = Eo P pr N [
  ⟨some 5, .load 24 (.tmp 1), none, true⟩,
  ⟨some 6, .call { callee := .value (.func 31), args := #[.tmp 5], argTypes := #[24] }, none, true⟩,
  ⟨some 7, .unOp .not 4 (.tmp 6), none, true⟩] e σ Q := propext ⟨fun h => h, fun h => h⟩
def k11_r2 : List COp := [
  ⟨some 2, .assign (.const (.slice .none 0 0)), none, true⟩,
  ⟨some 3, .assign (.const (.int .i64 1)), none, true⟩]
theorem k11_r2_e : Eo P pr N k11_r2 e σ Q = Eo P pr N [
  ⟨some 2, .assign (.const (.slice .none 0 0)), none, true⟩,
  ⟨some 3, .assign (.const (.int .i64 1)), none, true⟩] e σ Q := propext ⟨fun h => h, fun h => h⟩
def k11_r3 : CC := (.wregion [
  (true, ⟨some 8, .fieldAddr 24 (.tmp 1) 0, none, false⟩),
  (true, ⟨some 9, .load 3 (.tmp 8), none, false⟩),
  (false, ⟨some 10, .fieldAddr 24 (.tmp 1) 1, none, false⟩),
  (true, ⟨some 11, .load 3 (.tmp 10), none, false⟩),
  (false, ⟨some 12, .fieldAddr 24 (.tmp 1) 2, none, false⟩),
  (true, ⟨some 13, .load 3 (.tmp 12), none, false⟩),
  (false, ⟨some 14, .fieldAddr 24 (.tmp 1) 3, none, false⟩),
  (true, ⟨some 15, .load 3 (.tmp 14), none, false⟩),
  (false, ⟨some 16, .fieldAddr 24 (.tmp 1) 4, none, false⟩),
  (true, ⟨some 17, .load 3 (.tmp 16), none, false⟩),
  (false, ⟨some 18, .fieldAddr 24 (.tmp 1) 5, none, false⟩),
  (true, ⟨some 19, .load 3 (.tmp 18), none, false⟩),
  (false, ⟨some 20, .fieldAddr 24 (.tmp 1) 6, none, false⟩),
  (true, ⟨some 21, .load 3 (.tmp 20), none, false⟩),
  (false, ⟨some 22, .fieldAddr 24 (.tmp 1) 7, none, false⟩),
  (false, ⟨some 23, .load 4 (.tmp 22), none, false⟩),
  (false, ⟨some 24, .call { callee := .value (.func 41), args := #[.tmp 23], argTypes := #[4] }, none, false⟩),
  (true, ⟨some 25, .fieldAddr 24 (.tmp 1) 9, none, true⟩),
  (true, ⟨some 26, .load 9 (.tmp 25), none, true⟩),
  (false, ⟨some 27, .call { callee := .builtin .len, args := #[.tmp 26], argTypes := #[9] }, none, true⟩),
  (false, ⟨some 28, .buildSlice 81 9 #[(0, .tmp 9), (1, .tmp 11), (2, .tmp 13), (3, .tmp 15), (4, .tmp 17), (5, .tmp 19), (6, .tmp 21), (7, .tmp 24), (8, .tmp 27)], none, true⟩),
  (false, ⟨some 29, .call { callee := .value (.func 40), args := #[.const (.slice .none 0 0), .tmp 28], argTypes := #[27, 81] }, none, true⟩),
  (false, ⟨some 4, .assign (.tmp 29), none, true⟩)] false [(1, ⟨some 9, .load 3 (.tmp 8), none, false⟩, [0, 17]), (3, ⟨some 11, .load 3 (.tmp 10), none, false⟩, [0, 17]), (5, ⟨some 13, .load 3 (.tmp 12), none, false⟩, [0, 17]), (7, ⟨some 15, .load 3 (.tmp 14), none, false⟩, [0, 17]), (9, ⟨some 17, .load 3 (.tmp 16), none, false⟩, [0, 17]), (11, ⟨some 19, .load 3 (.tmp 18), none, false⟩, [0, 17]), (13, ⟨some 21, .load 3 (.tmp 20), none, false⟩, [0, 17]), (18, ⟨some 26, .load 9 (.tmp 25), none, true⟩, [0, 17])])
theorem k11_r3_e : Ev P pr N k11_r3 e σ Q = Ev P pr N (.wregion [
  (true, ⟨some 8, .fieldAddr 24 (.tmp 1) 0, none, false⟩),
  (true, ⟨some 9, .load 3 (.tmp 8), none, false⟩),
  (false, ⟨some 10, .fieldAddr 24 (.tmp 1) 1, none, false⟩),
  (true, ⟨some 11, .load 3 (.tmp 10), none, false⟩),
  (false, ⟨some 12, .fieldAddr 24 (.tmp 1) 2, none, false⟩),
  (true, ⟨some 13, .load 3 (.tmp 12), none, false⟩),
  (false, ⟨some 14, .fieldAddr 24 (.tmp 1) 3, none, false⟩),
  (true, ⟨some 15, .load 3 (.tmp 14), none, false⟩),
  (false, ⟨some 16, .fieldAddr 24 (.tmp 1) 4, none, false⟩),
  (true, ⟨some 17, .load 3 (.tmp 16), none, false⟩),
  (false, ⟨some 18, .fieldAddr 24 (.tmp 1) 5, none, false⟩),
  (true, ⟨some 19, .load 3 (.tmp 18), none, false⟩),
  (false, ⟨some 20, .fieldAddr 24 (.tmp 1) 6, none, false⟩),
  (true, ⟨some 21, .load 3 (.tmp 20), none, false⟩),
  (false, ⟨some 22, .fieldAddr 24 (.tmp 1) 7, none, false⟩),
  (false, ⟨some 23, .load 4 (.tmp 22), none, false⟩),
  (false, ⟨some 24, .call { callee := .value (.func 41), args := #[.tmp 23], argTypes := #[4] }, none, false⟩),
  (true, ⟨some 25, .fieldAddr 24 (.tmp 1) 9, none, true⟩),
  (true, ⟨some 26, .load 9 (.tmp 25), none, true⟩),
  (false, ⟨some 27, .call { callee := .builtin .len, args := #[.tmp 26], argTypes := #[9] }, none, true⟩),
  (false, ⟨some 28, .buildSlice 81 9 #[(0, .tmp 9), (1, .tmp 11), (2, .tmp 13), (3, .tmp 15), (4, .tmp 17), (5, .tmp 19), (6, .tmp 21), (7, .tmp 24), (8, .tmp 27)], none, true⟩),
  (false, ⟨some 29, .call { callee := .value (.func 40), args := #[.const (.slice .none 0 0), .tmp 28], argTypes := #[27, 81] }, none, true⟩),
  (false, ⟨some 4, .assign (.tmp 29), none, true⟩)] false [(1, ⟨some 9, .load 3 (.tmp 8), none, false⟩, [0, 17]), (3, ⟨some 11, .load 3 (.tmp 10), none, false⟩, [0, 17]), (5, ⟨some 13, .load 3 (.tmp 12), none, false⟩, [0, 17]), (7, ⟨some 15, .load 3 (.tmp 14), none, false⟩, [0, 17]), (9, ⟨some 17, .load 3 (.tmp 16), none, false⟩, [0, 17]), (11, ⟨some 19, .load 3 (.tmp 18), none, false⟩, [0, 17]), (13, ⟨some 21, .load 3 (.tmp 20), none, false⟩, [0, 17]), (18, ⟨some 26, .load 9 (.tmp 25), none, true⟩, [0, 17])]) e σ Q := propext ⟨fun h => h, fun h => h⟩
def k11_r4 : CC := (.wregion [
  (true, ⟨some 30, .move (.tmp 4), none, false⟩),
  (false, ⟨some 31, .fieldAddr 24 (.tmp 1) 9, none, false⟩),
  (false, ⟨some 32, .load 9 (.tmp 31), none, false⟩),
  (false, ⟨some 33, .call { callee := .builtin .append, args := #[.tmp 30, .tmp 32], argTypes := #[27, 9] }, none, false⟩),
  (true, ⟨some 34, .fieldAddr 24 (.tmp 1) 8, none, true⟩),
  (true, ⟨some 35, .load 22 (.tmp 34), none, true⟩),
  (false, ⟨some 36, .call { callee := .value (.func 21), args := #[.tmp 33, .tmp 35], argTypes := #[27, 22] }, none, true⟩),
  (false, ⟨some 2, .assign (.tmp 36), none, true⟩),
  (false, ⟨some 3, .assign (.const (.int .i64 0)), none, true⟩)] false [(5, ⟨some 35, .load 22 (.tmp 34), none, true⟩, [0, 4])])
theorem k11_r4_e : Ev P pr N k11_r4 e σ Q = Ev P pr N (.wregion [
  (true, ⟨some 30, .move (.tmp 4), none, false⟩),
  (false, ⟨some 31, .fieldAddr 24 (.tmp 1) 9, none, false⟩),
  (false, ⟨some 32, .load 9 (.tmp 31), none, false⟩),
  (false, ⟨some 33, .call { callee := .builtin .append, args := #[.tmp 30, .tmp 32], argTypes := #[27, 9] }, none, false⟩),
  (true, ⟨some 34, .fieldAddr 24 (.tmp 1) 8, none, true⟩),
  (true, ⟨some 35, .load 22 (.tmp 34), none, true⟩),
  (false, ⟨some 36, .call { callee := .value (.func 21), args := #[.tmp 33, .tmp 35], argTypes := #[27, 22] }, none, true⟩),
  (false, ⟨some 2, .assign (.tmp 36), none, true⟩),
  (false, ⟨some 3, .assign (.const (.int .i64 0)), none, true⟩)] false [(5, ⟨some 35, .load 22 (.tmp 34), none, true⟩, [0, 4])]) e σ Q := propext ⟨fun h => h, fun h => h⟩
def k11 : CC := (.seq (.region k11_r0) (.seq (.seq (.region k11_r1) (.cond (.tmp 7) (.seq (.region k11_r2) .ret) .skip)) (.seq k11_r3 (.seq k11_r4 .ret))))
theorem k11_e : Ev P pr N k11 e σ Q = Ev P pr N (.seq (.region k11_r0) (.seq (.seq (.region k11_r1) (.cond (.tmp 7) (.seq (.region k11_r2) .ret) .skip)) (.seq k11_r3 (.seq k11_r4 .ret)))) e σ Q := propext ⟨fun h => h, fun h => h⟩
/-- quern/net.Encode -/
theorem k11_is : FnIs Try.prog noPrim 11 37 [ResultVar.tmp 2, ResultVar.tmp 3] k11 := FnIs.of_fn Try.func11 (by kernel_rfl)
def k12_r0 : List COp := [
  ⟨some 2, .box 24 (.tmp 0), none, true⟩,
  ⟨some 3, .box 24 (.tmp 1), none, true⟩,
  ⟨some 4, .assign (.const (.bool false)), none, true⟩]
theorem k12_r0_e : Eo P pr N k12_r0 e σ Q = Eo P pr N [
  ⟨some 2, .box 24 (.tmp 0), none, true⟩,
  ⟨some 3, .box 24 (.tmp 1), none, true⟩,
  ⟨some 4, .assign (.const (.bool false)), none, true⟩] e σ Q := propext ⟨fun h => h, fun h => h⟩
def k12_r1 : List COp := [
  ⟨some 5, .fieldAddr 24 (.tmp 2) 0, none, true⟩,
  ⟨some 6, .load 3 (.tmp 5), none, true⟩,
  ⟨some 7, .fieldAddr 24 (.tmp 3) 0, none, true⟩,
  ⟨some 8, .load 3 (.tmp 7), none, true⟩,
  ⟨some 9, .binOp .eql 3 (.tmp 6) (.tmp 8) 3, none, true⟩,
  ⟨some 10, .move (.tmp 9), none, true⟩,
  ⟨some 11, .fieldAddr 24 (.tmp 2) 1, some (10, true), true⟩,
  ⟨some 12, .load 3 (.tmp 11), some (10, true), true⟩,
  ⟨some 13, .fieldAddr 24 (.tmp 3) 1, some (10, true), true⟩,
  ⟨some 14, .load 3 (.tmp 13), some (10, true), true⟩,
  ⟨some 15, .binOp .eql 3 (.tmp 12) (.tmp 14) 3, some (10, true), true⟩,
  ⟨some 16, .pick (.tmp 10) (.tmp 15) (.const (.bool false)), none, true⟩,
  ⟨some 17, .move (.tmp 16), none, true⟩,
  ⟨some 18, .fieldAddr 24 (.tmp 2) 2, some (17, true), true⟩,
  ⟨some 19, .load 3 (.tmp 18), some (17, true), true⟩,
  ⟨some 20, .fieldAddr 24 (.tmp 3) 2, some (17, true), true⟩,
  ⟨some 21, .load 3 (.tmp 20), some (17, true), true⟩,
  ⟨some 22, .binOp .eql 3 (.tmp 19) (.tmp 21) 3, some (17, true), true⟩,
  ⟨some 23, .pick (.tmp 17) (.tmp 22) (.const (.bool false)), none, true⟩,
  ⟨some 24, .move (.tmp 23), none, true⟩,
  ⟨some 25, .fieldAddr 24 (.tmp 2) 3, some (24, true), true⟩,
  ⟨some 26, .load 3 (.tmp 25), some (24, true), true⟩,
  ⟨some 27, .fieldAddr 24 (.tmp 3) 3, some (24, true), true⟩,
  ⟨some 28, .load 3 (.tmp 27), some (24, true), true⟩,
  ⟨some 29, .binOp .eql 3 (.tmp 26) (.tmp 28) 3, some (24, true), true⟩,
  ⟨some 30, .pick (.tmp 24) (.tmp 29) (.const (.bool false)), none, true⟩,
  ⟨some 31, .move (.tmp 30), none, true⟩,
  ⟨some 32, .fieldAddr 24 (.tmp 2) 4, some (31, true), true⟩,
  ⟨some 33, .load 3 (.tmp 32), some (31, true), true⟩,
  ⟨some 34, .fieldAddr 24 (.tmp 3) 4, some (31, true), true⟩,
  ⟨some 35, .load 3 (.tmp 34), some (31, true), true⟩,
  ⟨some 36, .binOp .eql 3 (.tmp 33) (.tmp 35) 3, some (31, true), true⟩,
  ⟨some 37, .pick (.tmp 31) (.tmp 36) (.const (.bool false)), none, true⟩,
  ⟨some 38, .move (.tmp 37), none, true⟩,
  ⟨some 39, .fieldAddr 24 (.tmp 2) 5, some (38, true), true⟩,
  ⟨some 40, .load 3 (.tmp 39), some (38, true), true⟩,
  ⟨some 41, .fieldAddr 24 (.tmp 3) 5, some (38, true), true⟩,
  ⟨some 42, .load 3 (.tmp 41), some (38, true), true⟩,
  ⟨some 43, .binOp .eql 3 (.tmp 40) (.tmp 42) 3, some (38, true), true⟩,
  ⟨some 44, .pick (.tmp 38) (.tmp 43) (.const (.bool false)), none, true⟩,
  ⟨some 45, .move (.tmp 44), none, true⟩,
  ⟨some 46, .fieldAddr 24 (.tmp 2) 6, some (45, true), true⟩,
  ⟨some 47, .load 3 (.tmp 46), some (45, true), true⟩,
  ⟨some 48, .fieldAddr 24 (.tmp 3) 6, some (45, true), true⟩,
  ⟨some 49, .load 3 (.tmp 48), some (45, true), true⟩,
  ⟨some 50, .binOp .eql 3 (.tmp 47) (.tmp 49) 3, some (45, true), true⟩,
  ⟨some 51, .pick (.tmp 45) (.tmp 50) (.const (.bool false)), none, true⟩,
  ⟨some 52, .move (.tmp 51), none, true⟩,
  ⟨some 53, .fieldAddr 24 (.tmp 2) 7, some (52, true), true⟩,
  ⟨some 54, .load 4 (.tmp 53), some (52, true), true⟩,
  ⟨some 55, .fieldAddr 24 (.tmp 3) 7, some (52, true), true⟩,
  ⟨some 56, .load 4 (.tmp 55), some (52, true), true⟩,
  ⟨some 57, .binOp .eql 4 (.tmp 54) (.tmp 56) 4, some (52, true), true⟩,
  ⟨some 58, .pick (.tmp 52) (.tmp 57) (.const (.bool false)), none, true⟩,
  ⟨some 59, .move (.tmp 58), none, true⟩,
  ⟨some 60, .fieldAddr 24 (.tmp 2) 9, some (59, true), true⟩,
  ⟨some 61, .load 9 (.tmp 60), some (59, true), true⟩,
  ⟨some 62, .fieldAddr 24 (.tmp 3) 9, some (59, true), true⟩,
  ⟨some 63, .load 9 (.tmp 62), some (59, true), true⟩,
  ⟨some 64, .binOp .eql 9 (.tmp 61) (.tmp 63) 9, some (59, true), true⟩,
  ⟨some 65, .pick (.tmp 59) (.tmp 64) (.const (.bool false)), none, true⟩,
  ⟨some 66, .move (.tmp 65), none, true⟩,
  ⟨some 67, .fieldAddr 24 (.tmp 2) 8, some (66, true), true⟩,
  ⟨some 68, .load 22 (.tmp 67), some (66, true), true⟩,
  ⟨some 69, .fieldAddr 24 (.tmp 3) 8, some (66, true), true⟩,
  ⟨some 70, .load 22 (.tmp 69), some (66, true), true⟩,
  ⟨some 71, .call { callee := .value (.func 26), args := #[.tmp 68, .tmp 70], argTypes := #[22, 22] }, some (66, true), true⟩,
  ⟨some 72, .pick (.tmp 66) (.tmp 71) (.const (.bool false)), none, true⟩,
  ⟨some 4, .assign (.tmp 72), none, true⟩]
theorem k12_r1_e : Eo P pr N k12_r1 e σ Q = Eo P pr N [
  ⟨some 5, .fieldAddr 24 (.tmp 2) 0, none, true⟩,
  ⟨some 6, .load 3 (.tmp 5), none, true⟩,
  ⟨some 7, .fieldAddr 24 (.tmp 3) 0, none, true⟩,
  ⟨some 8, .load 3 (.tmp 7), none, true⟩,
  ⟨some 9, .binOp .eql 3 (.tmp 6) (.tmp 8) 3, none, true⟩,
  ⟨some 10, .move (.tmp 9), none, true⟩,
  ⟨some 11, .fieldAddr 24 (.tmp 2) 1, some (10, true), true⟩,
  ⟨some 12, .load 3 (.tmp 11), some (10, true), true⟩,
  ⟨some 13, .fieldAddr 24 (.tmp 3) 1, some (10, true), true⟩,
  ⟨some 14, .load 3 (.tmp 13), some (10, true), true⟩,
  ⟨some 15, .binOp .eql 3 (.tmp 12) (.tmp 14) 3, some (10, true), true⟩,
  ⟨some 16, .pick (.tmp 10) (.tmp 15) (.const (.bool false)), none, true⟩,
  ⟨some 17, .move (.tmp 16), none, true⟩,
  ⟨some 18, .fieldAddr 24 (.tmp 2) 2, some (17, true), true⟩,
  ⟨some 19, .load 3 (.tmp 18), some (17, true), true⟩,
  ⟨some 20, .fieldAddr 24 (.tmp 3) 2, some (17, true), true⟩,
  ⟨some 21, .load 3 (.tmp 20), some (17, true), true⟩,
  ⟨some 22, .binOp .eql 3 (.tmp 19) (.tmp 21) 3, some (17, true), true⟩,
  ⟨some 23, .pick (.tmp 17) (.tmp 22) (.const (.bool false)), none, true⟩,
  ⟨some 24, .move (.tmp 23), none, true⟩,
  ⟨some 25, .fieldAddr 24 (.tmp 2) 3, some (24, true), true⟩,
  ⟨some 26, .load 3 (.tmp 25), some (24, true), true⟩,
  ⟨some 27, .fieldAddr 24 (.tmp 3) 3, some (24, true), true⟩,
  ⟨some 28, .load 3 (.tmp 27), some (24, true), true⟩,
  ⟨some 29, .binOp .eql 3 (.tmp 26) (.tmp 28) 3, some (24, true), true⟩,
  ⟨some 30, .pick (.tmp 24) (.tmp 29) (.const (.bool false)), none, true⟩,
  ⟨some 31, .move (.tmp 30), none, true⟩,
  ⟨some 32, .fieldAddr 24 (.tmp 2) 4, some (31, true), true⟩,
  ⟨some 33, .load 3 (.tmp 32), some (31, true), true⟩,
  ⟨some 34, .fieldAddr 24 (.tmp 3) 4, some (31, true), true⟩,
  ⟨some 35, .load 3 (.tmp 34), some (31, true), true⟩,
  ⟨some 36, .binOp .eql 3 (.tmp 33) (.tmp 35) 3, some (31, true), true⟩,
  ⟨some 37, .pick (.tmp 31) (.tmp 36) (.const (.bool false)), none, true⟩,
  ⟨some 38, .move (.tmp 37), none, true⟩,
  ⟨some 39, .fieldAddr 24 (.tmp 2) 5, some (38, true), true⟩,
  ⟨some 40, .load 3 (.tmp 39), some (38, true), true⟩,
  ⟨some 41, .fieldAddr 24 (.tmp 3) 5, some (38, true), true⟩,
  ⟨some 42, .load 3 (.tmp 41), some (38, true), true⟩,
  ⟨some 43, .binOp .eql 3 (.tmp 40) (.tmp 42) 3, some (38, true), true⟩,
  ⟨some 44, .pick (.tmp 38) (.tmp 43) (.const (.bool false)), none, true⟩,
  ⟨some 45, .move (.tmp 44), none, true⟩,
  ⟨some 46, .fieldAddr 24 (.tmp 2) 6, some (45, true), true⟩,
  ⟨some 47, .load 3 (.tmp 46), some (45, true), true⟩,
  ⟨some 48, .fieldAddr 24 (.tmp 3) 6, some (45, true), true⟩,
  ⟨some 49, .load 3 (.tmp 48), some (45, true), true⟩,
  ⟨some 50, .binOp .eql 3 (.tmp 47) (.tmp 49) 3, some (45, true), true⟩,
  ⟨some 51, .pick (.tmp 45) (.tmp 50) (.const (.bool false)), none, true⟩,
  ⟨some 52, .move (.tmp 51), none, true⟩,
  ⟨some 53, .fieldAddr 24 (.tmp 2) 7, some (52, true), true⟩,
  ⟨some 54, .load 4 (.tmp 53), some (52, true), true⟩,
  ⟨some 55, .fieldAddr 24 (.tmp 3) 7, some (52, true), true⟩,
  ⟨some 56, .load 4 (.tmp 55), some (52, true), true⟩,
  ⟨some 57, .binOp .eql 4 (.tmp 54) (.tmp 56) 4, some (52, true), true⟩,
  ⟨some 58, .pick (.tmp 52) (.tmp 57) (.const (.bool false)), none, true⟩,
  ⟨some 59, .move (.tmp 58), none, true⟩,
  ⟨some 60, .fieldAddr 24 (.tmp 2) 9, some (59, true), true⟩,
  ⟨some 61, .load 9 (.tmp 60), some (59, true), true⟩,
  ⟨some 62, .fieldAddr 24 (.tmp 3) 9, some (59, true), true⟩,
  ⟨some 63, .load 9 (.tmp 62), some (59, true), true⟩,
  ⟨some 64, .binOp .eql 9 (.tmp 61) (.tmp 63) 9, some (59, true), true⟩,
  ⟨some 65, .pick (.tmp 59) (.tmp 64) (.const (.bool false)), none, true⟩,
  ⟨some 66, .move (.tmp 65), none, true⟩,
  ⟨some 67, .fieldAddr 24 (.tmp 2) 8, some (66, true), true⟩,
  ⟨some 68, .load 22 (.tmp 67), some (66, true), true⟩,
  ⟨some 69, .fieldAddr 24 (.tmp 3) 8, some (66, true), true⟩,
  ⟨some 70, .load 22 (.tmp 69), some (66, true), true⟩,
  ⟨some 71, .call { callee := .value (.func 26), args := #[.tmp 68, .tmp 70], argTypes := #[22, 22] }, some (66, true), true⟩,
  ⟨some 72, .pick (.tmp 66) (.tmp 71) (.const (.bool false)), none, true⟩,
  ⟨some 4, .assign (.tmp 72), none, true⟩] e σ Q := propext ⟨fun h => h, fun h => h⟩
def k12 : CC := (.seq (.region k12_r0) (.seq (.region k12_r1) .ret))
theorem k12_e : Ev P pr N k12 e σ Q = Ev P pr N (.seq (.region k12_r0) (.seq (.region k12_r1) .ret)) e σ Q := propext ⟨fun h => h, fun h => h⟩
/-- quern/quernref20.SameMessage -/
theorem k12_is : FnIs Try.prog noPrim 12 73 [ResultVar.tmp 4] k12 := FnIs.of_fn Try.func12 (by kernel_rfl)
def k13_r0 : List COp := [
  ⟨some 0, .assign (.const (.bool false)), none, true⟩]
theorem k13_r0_e : Eo P pr N k13_r0 e σ Q = Eo P pr N [
  ⟨some 0, .assign (.const (.bool false)), none, true⟩] e σ Q := propext ⟨fun h => h, fun h => h⟩
def k13_r1 : List COp := [
  ⟨some 6, .call { callee := .value (.func 42), args := #[], argTypes := #[] }, none, true⟩,
  ⟨some 7, .call { callee := .value (.func 15), args := #[.tmp 6, .const (.int .i64 3)], argTypes := #[33, 3] }, none, true⟩,
  ⟨some 5, .move (.tmp 7), none, true⟩,
  ⟨some 8, .extract (.tmp 5) 0, none, true⟩,
  ⟨some 9, .extract (.tmp 5) 1, none, true⟩,
  ⟨some 1, .assign (.tmp 8), none, true⟩,
  ⟨some 2, .assign (.tmp 9), none, true⟩]
theorem k13_r1_e : Eo P pr N k13_r1 e σ Q = Eo P pr N [
  ⟨some 6, .call { callee := .value (.func 42), args := #[], argTypes := #[] }, none, true⟩,
  ⟨some 7, .call { callee := .value (.func 15), args := #[.tmp 6, .const (.int .i64 3)], argTypes := #[33, 3] }, none, true⟩,
  ⟨some 5, .move (.tmp 7), none, true⟩,
  ⟨some 8, .extract (.tmp 5) 0, none, true⟩,
  ⟨some 9, .extract (.tmp 5) 1, none, true⟩,
  ⟨some 1, .assign (.tmp 8), none, true⟩,
  ⟨some 2, .assign (.tmp 9), none, true⟩] e σ Q := propext ⟨fun h => h, fun h => h⟩
def k13_r2 : List COp := [
  ⟨some 11, .build 33 #[(0, .const (.int .i64 2)), (1, .const (.int .i64 1))], none, true⟩,
  ⟨some 12, .call { callee := .value (.func 15), args := #[.tmp 11, .const (.int .i64 3)], argTypes := #[33, 3] }, none, true⟩,
  ⟨some 10, .move (.tmp 12), none, true⟩,
  ⟨some 13, .extract (.tmp 10) 0, none, true⟩,
  ⟨some 14, .extract (.tmp 10) 1, none, true⟩,
  ⟨some 3, .assign (.tmp 13), none, true⟩,
  ⟨some 4, .assign (.tmp 14), none, true⟩]
theorem k13_r2_e : Eo P pr N k13_r2 e σ Q = Eo P pr N [
  ⟨some 11, .build 33 #[(0, .const (.int .i64 2)), (1, .const (.int .i64 1))], none, true⟩,
  ⟨some 12, .call { callee := .value (.func 15), args := #[.tmp 11, .const (.int .i64 3)], argTypes := #[33, 3] }, none, true⟩,
  ⟨some 10, .move (.tmp 12), none, true⟩,
  ⟨some 13, .extract (.tmp 10) 0, none, true⟩,
  ⟨some 14, .extract (.tmp 10) 1, none, true⟩,
  ⟨some 3, .assign (.tmp 13), none, true⟩,
  ⟨some 4, .assign (.tmp 14), none, true⟩] e σ Q := propext ⟨fun h => h, fun h => h⟩
def k13_r3 : List COp := [
  ⟨some 15, .move (.tmp 2), none, true⟩,
  ⟨some 16, .binOp .eql 28 (.tmp 15) (.const (.int .i64 0)) 28, none, true⟩,
  ⟨some 17, .move (.tmp 16), none, true⟩,
  ⟨some 18, .move (.tmp 4), some (17, true), true⟩,
  ⟨some 19, .binOp .eql 28 (.tmp 18) (.const (.int .i64 0)) 28, some (17, true), true⟩,
  ⟨some 20, .pick (.tmp 17) (.tmp 19) (.const (.bool false)), none, true⟩,
  ⟨some 21, .move (.tmp 20), none, true⟩,
  ⟨some 22, .move (.tmp 1), some (21, true), true⟩,
  ⟨some 23, .convert 27 9 (.tmp 22), some (21, true), true⟩,
  ⟨some 24, .binOp .eql 9 (.tmp 23) (.const (.string { data := #[0, 0, 0, 0, 0, 0] })) 9, some (21, true), true⟩,
  ⟨some 25, .pick (.tmp 21) (.tmp 24) (.const (.bool false)), none, true⟩,
  ⟨some 26, .move (.tmp 25), none, true⟩,
  ⟨some 27, .move (.tmp 3), some (26, true), true⟩,
  ⟨some 28, .convert 27 9 (.tmp 27), some (26, true), true⟩,
  ⟨some 29, .binOp .eql 9 (.tmp 28) (.const (.string { data := #[2, 2, 0, 0, 0, 0] })) 9, some (26, true), true⟩,
  ⟨some 30, .pick (.tmp 26) (.tmp 29) (.const (.bool false)), none, true⟩,
  ⟨some 0, .assign (.tmp 30), none, true⟩]
theorem k13_r3_e : Eo P pr N k13_r3 e σ Q = Eo P pr N [
  ⟨some 15, .move (.tmp 2), none, true⟩,
  ⟨some 16, .binOp .eql 28 (.tmp 15) (.const (.int .i64 0)) 28, none, true⟩,
  ⟨some 17, .move (.tmp 16), none, true⟩,
  ⟨some 18, .move (.tmp 4), some (17, true), true⟩,
  ⟨some 19, .binOp .eql 28 (.tmp 18) (.const (.int .i64 0)) 28, some (17, true), true⟩,
  ⟨some 20, .pick (.tmp 17) (.tmp 19) (.const (.bool false)), none, true⟩,
  ⟨some 21, .move (.tmp 20), none, true⟩,
  ⟨some 22, .move (.tmp 1), some (21, true), true⟩,
  ⟨some 23, .convert 27 9 (.tmp 22), some (21, true), true⟩,
  ⟨some 24, .binOp .eql 9 (.tmp 23) (.const (.string { data := #[0, 0, 0, 0, 0, 0] })) 9, some (21, true), true⟩,
  ⟨some 25, .pick (.tmp 21) (.tmp 24) (.const (.bool false)), none, true⟩,
  ⟨some 26, .move (.tmp 25), none, true⟩,
  ⟨some 27, .move (.tmp 3), some (26, true), true⟩,
  ⟨some 28, .convert 27 9 (.tmp 27), some (26, true), true⟩,
  ⟨some 29, .binOp .eql 9 (.tmp 28) (.const (.string { data := #[2, 2, 0, 0, 0, 0] })) 9, some (26, true), true⟩,
  ⟨some 30, .pick (.tmp 26) (.tmp 29) (.const (.bool false)), none, true⟩,
  ⟨some 0, .assign (.tmp 30), none, true⟩] e σ Q := propext ⟨fun h => h, fun h => h⟩
def k13 : CC := (.seq (.region k13_r0) (.seq (.region k13_r1) (.seq (.region k13_r2) (.seq (.region k13_r3) .ret))))
theorem k13_e : Ev P pr N k13 e σ Q = Ev P pr N (.seq (.region k13_r0) (.seq (.region k13_r1) (.seq (.region k13_r2) (.seq (.region k13_r3) .ret)))) e σ Q := propext ⟨fun h => h, fun h => h⟩
/-- quern/quernlaw21.wakes -/
theorem k13_is : FnIs Try.prog noPrim 13 31 [ResultVar.tmp 0] k13 := FnIs.of_fn Try.func13 (by kernel_rfl)
def k14_r0 : List COp := [
  ⟨some 1, .box 33 (.tmp 0), none, true⟩,
  ⟨some 2, .assign (.const (.bool false)), none, true⟩]
theorem k14_r0_e : Eo P pr N k14_r0 e σ Q = Eo P pr N [
  ⟨some 1, .box 33 (.tmp 0), none, true⟩,
  ⟨some 2, .assign (.const (.bool false)), none, true⟩] e σ Q := propext ⟨fun h => h, fun h => h⟩
def k14_r1 : List COp := [
  ⟨some 6, .fieldAddr 33 (.tmp 1) 4, none, true⟩,
  ⟨some 7, .load 9 (.tmp 6), none, true⟩,
  ⟨some 8, .call { callee := .builtin .len, args := #[.tmp 7], argTypes := #[9] }, none, true⟩,
  ⟨some 3, .assign (.tmp 8), none, true⟩]
theorem k14_r1_e : Eo P pr N k14_r1 e σ Q = Eo P pr N [
  ⟨some 6, .fieldAddr 33 (.tmp 1) 4, none, true⟩,
  ⟨some 7, .load 9 (.tmp 6), none, true⟩,
  ⟨some 8, .call { callee := .builtin .len, args := #[.tmp 7], argTypes := #[9] }, none, true⟩,
  ⟨some 3, .assign (.tmp 8), none, true⟩] e σ Q := propext ⟨fun h => h, fun h => h⟩
def k14_r2 : List COp := [
  ⟨some 9, .fieldAddr 33 (.tmp 1) 5, none, true⟩,
  ⟨some 10, .load 22 (.tmp 9), none, true⟩,
  ⟨some 11, .call { callee := .builtin .len, args := #[.tmp 10], argTypes := #[22] }, none, true⟩,
  ⟨some 12, .move (.const (.int .i64 0)), none, true⟩]
theorem k14_r2_e : Eo P pr N k14_r2 e σ Q = Eo P pr N [
  ⟨some 9, .fieldAddr 33 (.tmp 1) 5, none, true⟩,
  ⟨some 10, .load 22 (.tmp 9), none, true⟩,
  ⟨some 11, .call { callee := .builtin .len, args := #[.tmp 10], argTypes := #[22] }, none, true⟩,
  ⟨some 12, .move (.const (.int .i64 0)), none, true⟩] e σ Q := propext ⟨fun h => h, fun h => h⟩
def k14_r3 : List COp := [
  ⟨some 13, .binOp .lss 3 (.tmp 12) (.tmp 11) 3, none, true⟩]
theorem k14_r3_e : Eo P pr N k14_r3 e σ Q = Eo P pr N [
  ⟨some 13, .binOp .lss 3 (.tmp 12) (.tmp 11) 3, none, true⟩] e σ Q := propext ⟨fun h => h, fun h => h⟩
def k14_r4 : List COp := [
  ⟨some 14, .indexAddr 22 (.tmp 10) (.tmp 12), none, true⟩,
  ⟨some 15, .load 66 (.tmp 14), none, true⟩,
  ⟨some 5, .alloc 66, none, true⟩,
  ⟨none, .store 66 (.tmp 5) (.tmp 15), none, true⟩]
theorem k14_r4_e : Eo P pr N k14_r4 e σ Q = Eo P pr N [
  ⟨some 14, .indexAddr 22 (.tmp 10) (.tmp 12), none, true⟩,
  ⟨some 15, .load 66 (.tmp 14), none, true⟩,
  ⟨some 5, .alloc 66, none, true⟩,
  ⟨none, .store 66 (.tmp 5) (.tmp 15), none, true⟩] e σ Q := propext ⟨fun h => h, fun h => h⟩
def k14_r5 : List COp := [
  ⟨some 16, .move (.tmp 3), none, true⟩,
  ⟨some 17, .fieldAddr 66 (.tmp 5) 1, none, true⟩,
  ⟨some 18, .fieldAddr 64 (.tmp 17) 4, none, true⟩,
  ⟨some 19, .load 9 (.tmp 18), none, true⟩,
  ⟨some 20, .call { callee := .builtin .len, args := #[.tmp 19], argTypes := #[9] }, none, true⟩,
  ⟨some 21, .binOp .add 3 (.const (.int .i64 1)) (.tmp 20) 3, none, true⟩,
  ⟨some 22, .binOp .add 3 (.tmp 16) (.tmp 21) 3, none, true⟩,
  ⟨some 3, .assign (.tmp 22), none, true⟩]
theorem k14_r5_e : Eo P pr N k14_r5 e σ Q = Eo P pr N [
  ⟨some 16, .move (.tmp 3), none, true⟩,
  ⟨some 17, .fieldAddr 66 (.tmp 5) 1, none, true⟩,
  ⟨some 18, .fieldAddr 64 (.tmp 17) 4, none, true⟩,
  ⟨some 19, .load 9 (.tmp 18), none, true⟩,
  ⟨some 20, .call { callee := .builtin .len, args := #[.tmp 19], argTypes := #[9] }, none, true⟩,
  ⟨some 21, .binOp .add 3 (.const (.int .i64 1)) (.tmp 20) 3, none, true⟩,
  ⟨some 22, .binOp .add 3 (.tmp 16) (.tmp 21) 3, none, true⟩,
  ⟨some 3, .assign (.tmp 22), none, true⟩] e σ Q := propext ⟨fun h => h, fun h => h⟩
def k14_r6 : List COp := [
  ⟨some 23, .move (.tmp 3), none, true⟩,
  ⟨some 24, .binOp .gtr 3 (.tmp 23) (.const (.int .i64 16384)) 3, none, true⟩]
theorem k14_r6_e : Eo P pr N k14_r6 e σ Q = Eo P pr N [
  ⟨some 23, .move (.tmp 3), none, true⟩,
  ⟨some 24, .binOp .gtr 3 (.tmp 23) (.const (.int .i64 16384)) 3, none, true⟩] e σ Q := propext ⟨fun h => h, fun h => h⟩
def k14_r7 : List COp := [
  ⟨some 2, .assign (.const (.bool true)), none, true⟩]
theorem k14_r7_e : Eo P pr N k14_r7 e σ Q = Eo P pr N [
  ⟨some 2, .assign (.const (.bool true)), none, true⟩] e σ Q := propext ⟨fun h => h, fun h => h⟩
def k14_r8 : List COp := [
  ⟨some 25, .binOp .add 3 (.tmp 12) (.const (.int .i64 1)) 3, none, true⟩,
  ⟨some 12, .move (.tmp 25), none, true⟩]
theorem k14_r8_e : Eo P pr N k14_r8 e σ Q = Eo P pr N [
  ⟨some 25, .binOp .add 3 (.tmp 12) (.const (.int .i64 1)) 3, none, true⟩,
  ⟨some 12, .move (.tmp 25), none, true⟩] e σ Q := propext ⟨fun h => h, fun h => h⟩
def k14_l0 : CC := (.seq (.region k14_r3) (.seq (.cond (.tmp 13) .skip (.exit 0)) (.seq (.block 1 (.seq (.region k14_r4) (.seq (.region k14_r5) (.seq (.region k14_r6) (.cond (.tmp 24) (.seq (.region k14_r7) .ret) .skip))))) (.region k14_r8))))
theorem k14_l0_e : Ev P pr N k14_l0 e σ Q = Ev P pr N (.seq (.region k14_r3) (.seq (.cond (.tmp 13) .skip (.exit 0)) (.seq (.block 1 (.seq (.region k14_r4) (.seq (.region k14_r5) (.seq (.region k14_r6) (.cond (.tmp 24) (.seq (.region k14_r7) .ret) .skip))))) (.region k14_r8)))) e σ Q := propext ⟨fun h => h, fun h => h⟩
def k14_r9 : List COp := [
  ⟨some 26, .move (.tmp 3), none, true⟩,
  ⟨some 27, .binOp .gtr 3 (.tmp 26) (.const (.int .i64 16384)) 3, none, true⟩,
  ⟨some 2, .assign (.tmp 27), none, true⟩]
theorem k14_r9_e : Eo P pr N k14_r9 e σ Q = Eo P pr N [
  ⟨some 26, .move (.tmp 3), none, true⟩,
  ⟨some 27, .binOp .gtr 3 (.tmp 26) (.const (.int .i64 16384)) 3, none, true⟩,
  ⟨some 2, .assign (.tmp 27), none, true⟩] e σ Q := propext ⟨fun h => h, fun h => h⟩
def k14 : CC := (.seq (.region k14_r0) (.seq (.region k14_r1) (.seq (.seq (.region k14_r2) (.block 0 (.loop k14_l0))) (.seq (.region k14_r9) .ret))))
theorem k14_e : Ev P pr N k14 e σ Q = Ev P pr N (.seq (.region k14_r0) (.seq (.region k14_r1) (.seq (.seq (.region k14_r2) (.block 0 (.loop k14_l0))) (.seq (.region k14_r9) .ret)))) e σ Q := propext ⟨fun h => h, fun h => h⟩
/-- quern/quernlaw21.heavy -/
theorem k14_is : FnIs Try.prog noPrim 14 28 [ResultVar.tmp 2] k14 := FnIs.of_fn Try.func14 (by kernel_rfl)
def k15_r0 : List COp := [
  ⟨some 2, .box 33 (.tmp 0), none, true⟩,
  ⟨some 4, .assign (.const (.slice .none 0 0)), none, true⟩,
  ⟨some 5, .assign (.const (.int .i64 0)), none, true⟩]
theorem k15_r0_e : Eo P pr N k15_r0 e σ Q = Eo P pr N [
  ⟨some 2, .box 33 (.tmp 0), none, true⟩,
  ⟨some 4, .assign (.const (.slice .none 0 0)), none, true⟩,
  ⟨some 5, .assign (.const (.int .i64 0)), none, true⟩] e σ Q := propext ⟨fun h => h, fun h => h⟩
def k15_r1 : List COp := [
  ⟨some 6, .move (.tmp 1), none, true⟩,
  ⟨some 7, .binOp .lss 3 (.tmp 6) (.const (.int .i64 1)) 3, none, true⟩,
  ⟨some 8, .move (.tmp 7), none, true⟩,
  ⟨some 9, .move (.tmp 1), some (8, false), true⟩,
  ⟨some 10, .binOp .gtr 3 (.tmp 9) (.const (.int .i64 7)) 3, some (8, false), true⟩,
  ⟨some 11, .pick (.tmp 8) (.const (.bool true)) (.tmp 10), none, true⟩,
  ⟨some 12, .move (.tmp 11), none, true⟩,
  ⟨some 13, .load 33 (.tmp 2), some (12, false), true⟩,
  ⟨some 14, .move (.tmp 1), some (12, false), true⟩,
  ⟨some 15, .call { callee := .value (.func 18), args := #[.tmp 13, .tmp 14], argTypes := #[33, 3] }, some (12, false), true⟩,
  ⟨some 16, .unOp .not 4 (.tmp 15), some (12, false), true⟩,
  ⟨some 17, .pick (.tmp 12) (.const (.bool true)) (.tmp 16), none, true⟩]
theorem k15_r1_e : Eo P pr N k15_r1 e σ Q = Eo P pr N [
  ⟨some 6, .move (.tmp 1), none, true⟩,
  ⟨some 7, .binOp .lss 3 (.tmp 6) (.const (.int .i64 1)) 3, none, true⟩,
  ⟨some 8, .move (.tmp 7), none, true⟩,
  ⟨some 9, .move (.tmp 1), some (8, false), true⟩,
  ⟨some 10, .binOp .gtr 3 (.tmp 9) (.const (.int .i64 7)) 3, some (8, false), true⟩,
  ⟨some 11, .pick (.tmp 8) (.const (.bool true)) (.tmp 10), none, true⟩,
  ⟨some 12, .move (.tmp 11), none, true⟩,
  ⟨some 13, .load 33 (.tmp 2), some (12, false), true⟩,
  ⟨some 14, .move (.tmp 1), some (12, false), true⟩,
  ⟨some 15, .call { callee := .value (.func 18), args := #[.tmp 13, .tmp 14], argTypes := #[33, 3] }, some (12, false), true⟩,
  ⟨some 16, .unOp .not 4 (.tmp 15), some (12, false), true⟩,
  ⟨some 17, .pick (.tmp 12) (.const (.bool true)) (.tmp 16), none, true⟩] e σ Q := propext ⟨fun h => h, fun h => h⟩
def k15_r2 : List COp := [
  ⟨some 4, .assign (.const (.slice .none 0 0)), none, true⟩,
  ⟨some 5, .assign (.const (.int .i64 1)), none, true⟩]
theorem k15_r2_e : Eo P pr N k15_r2 e σ Q = Eo P pr N [
  ⟨some 4, .assign (.const (.slice .none 0 0)), none, true⟩,
  ⟨some 5, .assign (.const (.int .i64 1)), none, true⟩] e σ Q := propext ⟨fun h => h, fun h => h⟩
def k15_r3 : CC := (.wregion [
  (true, ⟨some 18, .fieldAddr 33 (.tmp 2) 0, none, false⟩),
  (false, ⟨some 19, .load 3 (.tmp 18), none, false⟩),
  (false, ⟨some 20, .fieldAddr 33 (.tmp 2) 1, none, false⟩),
  (false, ⟨some 21, .load 3 (.tmp 20), none, false⟩),
  (false, ⟨some 22, .binOp .add 3 (.tmp 21) (.const (.int .i64 1)) 3, none, false⟩),
  (false, ⟨some 23, .fieldAddr 33 (.tmp 2) 2, none, false⟩),
  (false, ⟨some 24, .load 3 (.tmp 23), none, false⟩),
  (false, ⟨some 25, .fieldAddr 33 (.tmp 2) 3, none, false⟩),
  (false, ⟨some 26, .load 3 (.tmp 25), none, false⟩),
  (false, ⟨some 27, .buildSlice 81 4 #[(0, .tmp 19), (1, .tmp 22), (2, .tmp 24), (3, .tmp 26)], none, false⟩),
  (false, ⟨some 28, .call { callee := .value (.func 40), args := #[.const (.slice .none 0 0), .tmp 27], argTypes := #[27, 81] }, none, false⟩),
  (true, ⟨some 29, .fieldAddr 33 (.tmp 2) 4, none, false⟩),
  (true, ⟨some 30, .load 9 (.tmp 29), none, false⟩),
  (false, ⟨some 31, .call { callee := .value (.func 43), args := #[.tmp 28, .tmp 30], argTypes := #[27, 9] }, none, false⟩),
  (true, ⟨some 32, .fieldAddr 33 (.tmp 2) 5, none, true⟩),
  (true, ⟨some 33, .load 22 (.tmp 32), none, true⟩),
  (false, ⟨some 34, .call { callee := .value (.func 21), args := #[.tmp 31, .tmp 33], argTypes := #[27, 22] }, none, true⟩),
  (false, ⟨some 4, .assign (.tmp 34), none, true⟩),
  (false, ⟨some 5, .assign (.const (.int .i64 0)), none, true⟩)] false [(12, ⟨some 30, .load 9 (.tmp 29), none, false⟩, [0, 11]), (15, ⟨some 33, .load 22 (.tmp 32), none, true⟩, [0, 11, 14])])
theorem k15_r3_e : Ev P pr N k15_r3 e σ Q = Ev P pr N (.wregion [
  (true, ⟨some 18, .fieldAddr 33 (.tmp 2) 0, none, false⟩),
  (false, ⟨some 19, .load 3 (.tmp 18), none, false⟩),
  (false, ⟨some 20, .fieldAddr 33 (.tmp 2) 1, none, false⟩),
  (false, ⟨some 21, .load 3 (.tmp 20), none, false⟩),
  (false, ⟨some 22, .binOp .add 3 (.tmp 21) (.const (.int .i64 1)) 3, none, false⟩),
  (false, ⟨some 23, .fieldAddr 33 (.tmp 2) 2, none, false⟩),
  (false, ⟨some 24, .load 3 (.tmp 23), none, false⟩),
  (false, ⟨some 25, .fieldAddr 33 (.tmp 2) 3, none, false⟩),
  (false, ⟨some 26, .load 3 (.tmp 25), none, false⟩),
  (false, ⟨some 27, .buildSlice 81 4 #[(0, .tmp 19), (1, .tmp 22), (2, .tmp 24), (3, .tmp 26)], none, false⟩),
  (false, ⟨some 28, .call { callee := .value (.func 40), args := #[.const (.slice .none 0 0), .tmp 27], argTypes := #[27, 81] }, none, false⟩),
  (true, ⟨some 29, .fieldAddr 33 (.tmp 2) 4, none, false⟩),
  (true, ⟨some 30, .load 9 (.tmp 29), none, false⟩),
  (false, ⟨some 31, .call { callee := .value (.func 43), args := #[.tmp 28, .tmp 30], argTypes := #[27, 9] }, none, false⟩),
  (true, ⟨some 32, .fieldAddr 33 (.tmp 2) 5, none, true⟩),
  (true, ⟨some 33, .load 22 (.tmp 32), none, true⟩),
  (false, ⟨some 34, .call { callee := .value (.func 21), args := #[.tmp 31, .tmp 33], argTypes := #[27, 22] }, none, true⟩),
  (false, ⟨some 4, .assign (.tmp 34), none, true⟩),
  (false, ⟨some 5, .assign (.const (.int .i64 0)), none, true⟩)] false [(12, ⟨some 30, .load 9 (.tmp 29), none, false⟩, [0, 11]), (15, ⟨some 33, .load 22 (.tmp 32), none, true⟩, [0, 11, 14])]) e σ Q := propext ⟨fun h => h, fun h => h⟩
def k15 : CC := (.seq (.region k15_r0) (.seq (.seq (.region k15_r1) (.cond (.tmp 17) (.seq (.region k15_r2) .ret) .skip)) (.seq k15_r3 .ret)))
theorem k15_e : Ev P pr N k15 e σ Q = Ev P pr N (.seq (.region k15_r0) (.seq (.seq (.region k15_r1) (.cond (.tmp 17) (.seq (.region k15_r2) .ret) .skip)) (.seq k15_r3 .ret))) e σ Q := propext ⟨fun h => h, fun h => h⟩
/-- quern/store.Encode -/
theorem k15_is : FnIs Try.prog noPrim 15 35 [ResultVar.tmp 4, ResultVar.tmp 5] k15 := FnIs.of_fn Try.func15 (by kernel_rfl)
def k16_r0 : List COp := [
  ⟨some 4, .alloc 33, none, true⟩,
  ⟨some 5, .assign (.const (.int .i64 0)), none, true⟩]
theorem k16_r0_e : Eo P pr N k16_r0 e σ Q = Eo P pr N [
  ⟨some 4, .alloc 33, none, true⟩,
  ⟨some 5, .assign (.const (.int .i64 0)), none, true⟩] e σ Q := propext ⟨fun h => h, fun h => h⟩
def k16_r1 : List COp := [
  ⟨some 10, .move (.tmp 1), none, true⟩,
  ⟨some 11, .binOp .lss 3 (.tmp 10) (.const (.int .i64 1)) 3, none, true⟩,
  ⟨some 12, .move (.tmp 11), none, true⟩,
  ⟨some 13, .move (.tmp 1), some (12, false), true⟩,
  ⟨some 14, .binOp .gtr 3 (.tmp 13) (.const (.int .i64 7)) 3, some (12, false), true⟩,
  ⟨some 15, .pick (.tmp 12) (.const (.bool true)) (.tmp 14), none, true⟩]
theorem k16_r1_e : Eo P pr N k16_r1 e σ Q = Eo P pr N [
  ⟨some 10, .move (.tmp 1), none, true⟩,
  ⟨some 11, .binOp .lss 3 (.tmp 10) (.const (.int .i64 1)) 3, none, true⟩,
  ⟨some 12, .move (.tmp 11), none, true⟩,
  ⟨some 13, .move (.tmp 1), some (12, false), true⟩,
  ⟨some 14, .binOp .gtr 3 (.tmp 13) (.const (.int .i64 7)) 3, some (12, false), true⟩,
  ⟨some 15, .pick (.tmp 12) (.const (.bool true)) (.tmp 14), none, true⟩] e σ Q := propext ⟨fun h => h, fun h => h⟩
def k16_r2 : List COp := [
  ⟨some 16, .build 33 #[], none, true⟩,
  ⟨none, .store 33 (.tmp 4) (.tmp 16), none, true⟩,
  ⟨some 5, .assign (.const (.int .i64 1)), none, true⟩]
theorem k16_r2_e : Eo P pr N k16_r2 e σ Q = Eo P pr N [
  ⟨some 16, .build 33 #[], none, true⟩,
  ⟨none, .store 33 (.tmp 4) (.tmp 16), none, true⟩,
  ⟨some 5, .assign (.const (.int .i64 1)), none, true⟩] e σ Q := propext ⟨fun h => h, fun h => h⟩
def k16_r3 : List COp := [
  ⟨some 17, .move (.tmp 0), none, true⟩,
  ⟨some 18, .call { callee := .value (.func 23), args := #[.tmp 17], argTypes := #[27] }, none, true⟩,
  ⟨some 6, .assign (.tmp 18), none, true⟩]
theorem k16_r3_e : Eo P pr N k16_r3 e σ Q = Eo P pr N [
  ⟨some 17, .move (.tmp 0), none, true⟩,
  ⟨some 18, .call { callee := .value (.func 23), args := #[.tmp 17], argTypes := #[27] }, none, true⟩,
  ⟨some 6, .assign (.tmp 18), none, true⟩] e σ Q := propext ⟨fun h => h, fun h => h⟩
def k16_r4 : List COp := [
  ⟨some 19, .move (.tmp 6), none, true⟩,
  ⟨some 20, .call { callee := .value (.func 44), args := #[.tmp 19], argTypes := #[42] }, none, true⟩,
  ⟨some 21, .move (.tmp 6), none, true⟩,
  ⟨some 22, .call { callee := .value (.func 44), args := #[.tmp 21], argTypes := #[42] }, none, true⟩,
  ⟨some 23, .binOp .sub 3 (.tmp 22) (.const (.int .i64 1)) 3, none, true⟩,
  ⟨some 24, .move (.tmp 6), none, true⟩,
  ⟨some 25, .call { callee := .value (.func 44), args := #[.tmp 24], argTypes := #[42] }, none, true⟩,
  ⟨some 26, .move (.tmp 6), none, true⟩,
  ⟨some 27, .call { callee := .value (.func 44), args := #[.tmp 26], argTypes := #[42] }, none, true⟩,
  ⟨some 28, .build 33 #[(0, .tmp 20), (1, .tmp 23), (2, .tmp 25), (3, .tmp 27)], none, true⟩,
  ⟨some 7, .alloc 33, none, true⟩,
  ⟨none, .store 33 (.tmp 7) (.tmp 28), none, true⟩]
theorem k16_r4_e : Eo P pr N k16_r4 e σ Q = Eo P pr N [
  ⟨some 19, .move (.tmp 6), none, true⟩,
  ⟨some 20, .call { callee := .value (.func 44), args := #[.tmp 19], argTypes := #[42] }, none, true⟩,
  ⟨some 21, .move (.tmp 6), none, true⟩,
  ⟨some 22, .call { callee := .value (.func 44), args := #[.tmp 21], argTypes := #[42] }, none, true⟩,
  ⟨some 23, .binOp .sub 3 (.tmp 22) (.const (.int .i64 1)) 3, none, true⟩,
  ⟨some 24, .move (.tmp 6), none, true⟩,
  ⟨some 25, .call { callee := .value (.func 44), args := #[.tmp 24], argTypes := #[42] }, none, true⟩,
  ⟨some 26, .move (.tmp 6), none, true⟩,
  ⟨some 27, .call { callee := .value (.func 44), args := #[.tmp 26], argTypes := #[42] }, none, true⟩,
  ⟨some 28, .build 33 #[(0, .tmp 20), (1, .tmp 23), (2, .tmp 25), (3, .tmp 27)], none, true⟩,
  ⟨some 7, .alloc 33, none, true⟩,
  ⟨none, .store 33 (.tmp 7) (.tmp 28), none, true⟩] e σ Q := propext ⟨fun h => h, fun h => h⟩
def k16_r5 : List COp := [
  ⟨some 29, .move (.tmp 6), none, true⟩,
  ⟨some 30, .move (.tmp 6), none, true⟩,
  ⟨some 31, .call { callee := .value (.func 44), args := #[.tmp 30], argTypes := #[42] }, none, true⟩,
  ⟨some 32, .call { callee := .value (.func 45), args := #[.tmp 29, .tmp 31], argTypes := #[42, 3] }, none, true⟩,
  ⟨some 33, .convert 27 9 (.tmp 32), none, true⟩,
  ⟨some 34, .fieldAddr 33 (.tmp 7) 4, none, true⟩,
  ⟨none, .store 9 (.tmp 34) (.tmp 33), none, true⟩]
theorem k16_r5_e : Eo P pr N k16_r5 e σ Q = Eo P pr N [
  ⟨some 29, .move (.tmp 6), none, true⟩,
  ⟨some 30, .move (.tmp 6), none, true⟩,
  ⟨some 31, .call { callee := .value (.func 44), args := #[.tmp 30], argTypes := #[42] }, none, true⟩,
  ⟨some 32, .call { callee := .value (.func 45), args := #[.tmp 29, .tmp 31], argTypes := #[42, 3] }, none, true⟩,
  ⟨some 33, .convert 27 9 (.tmp 32), none, true⟩,
  ⟨some 34, .fieldAddr 33 (.tmp 7) 4, none, true⟩,
  ⟨none, .store 9 (.tmp 34) (.tmp 33), none, true⟩] e σ Q := propext ⟨fun h => h, fun h => h⟩
def k16_r6 : List COp := [
  ⟨some 36, .move (.tmp 6), none, true⟩,
  ⟨some 37, .call { callee := .value (.func 24), args := #[.tmp 36, .const (.int .i64 256)], argTypes := #[42, 3] }, none, true⟩,
  ⟨some 35, .move (.tmp 37), none, true⟩,
  ⟨some 38, .extract (.tmp 35) 0, none, true⟩,
  ⟨some 39, .extract (.tmp 35) 1, none, true⟩,
  ⟨some 8, .assign (.tmp 38), none, true⟩,
  ⟨some 9, .assign (.tmp 39), none, true⟩]
theorem k16_r6_e : Eo P pr N k16_r6 e σ Q = Eo P pr N [
  ⟨some 36, .move (.tmp 6), none, true⟩,
  ⟨some 37, .call { callee := .value (.func 24), args := #[.tmp 36, .const (.int .i64 256)], argTypes := #[42, 3] }, none, true⟩,
  ⟨some 35, .move (.tmp 37), none, true⟩,
  ⟨some 38, .extract (.tmp 35) 0, none, true⟩,
  ⟨some 39, .extract (.tmp 35) 1, none, true⟩,
  ⟨some 8, .assign (.tmp 38), none, true⟩,
  ⟨some 9, .assign (.tmp 39), none, true⟩] e σ Q := propext ⟨fun h => h, fun h => h⟩
def k16_r7 : List COp := [
  ⟨some 40, .move (.tmp 8), none, true⟩,
  ⟨some 41, .fieldAddr 33 (.tmp 7) 5, none, true⟩,
  ⟨none, .store 22 (.tmp 41) (.tmp 40), none, true⟩]
theorem k16_r7_e : Eo P pr N k16_r7 e σ Q = Eo P pr N [
  ⟨some 40, .move (.tmp 8), none, true⟩,
  ⟨some 41, .fieldAddr 33 (.tmp 7) 5, none, true⟩,
  ⟨none, .store 22 (.tmp 41) (.tmp 40), none, true⟩] e σ Q := propext ⟨fun h => h, fun h => h⟩
def k16_r8 : List COp := [
  ⟨some 42, .move (.tmp 9), none, true⟩,
  ⟨some 43, .unOp .not 4 (.tmp 42), none, true⟩,
  ⟨some 44, .move (.tmp 43), none, true⟩,
  ⟨some 45, .move (.tmp 6), some (44, false), true⟩,
  ⟨some 46, .call { callee := .value (.func 46), args := #[.tmp 45], argTypes := #[42] }, some (44, false), true⟩,
  ⟨some 47, .unOp .not 4 (.tmp 46), some (44, false), true⟩,
  ⟨some 48, .pick (.tmp 44) (.const (.bool true)) (.tmp 47), none, true⟩,
  ⟨some 49, .move (.tmp 48), none, true⟩,
  ⟨some 50, .load 33 (.tmp 7), some (49, false), true⟩,
  ⟨some 51, .move (.tmp 1), some (49, false), true⟩,
  ⟨some 52, .call { callee := .value (.func 18), args := #[.tmp 50, .tmp 51], argTypes := #[33, 3] }, some (49, false), true⟩,
  ⟨some 53, .unOp .not 4 (.tmp 52), some (49, false), true⟩,
  ⟨some 54, .pick (.tmp 49) (.const (.bool true)) (.tmp 53), none, true⟩]
theorem k16_r8_e : Eo P pr N k16_r8 e σ Q = Eo P pr N [
  ⟨some 42, .move (.tmp 9), none, true⟩,
  ⟨some 43, .unOp .not 4 (.tmp 42), none, true⟩,
  ⟨some 44, .move (.tmp 43), none, true⟩,
  ⟨some 45, .move (.tmp 6), some (44, false), true⟩,
  ⟨some 46, .call { callee := .value (.func 46), args := #[.tmp 45], argTypes := #[42] }, some (44, false), true⟩,
  ⟨some 47, .unOp .not 4 (.tmp 46), some (44, false), true⟩,
  ⟨some 48, .pick (.tmp 44) (.const (.bool true)) (.tmp 47), none, true⟩,
  ⟨some 49, .move (.tmp 48), none, true⟩,
  ⟨some 50, .load 33 (.tmp 7), some (49, false), true⟩,
  ⟨some 51, .move (.tmp 1), some (49, false), true⟩,
  ⟨some 52, .call { callee := .value (.func 18), args := #[.tmp 50, .tmp 51], argTypes := #[33, 3] }, some (49, false), true⟩,
  ⟨some 53, .unOp .not 4 (.tmp 52), some (49, false), true⟩,
  ⟨some 54, .pick (.tmp 49) (.const (.bool true)) (.tmp 53), none, true⟩] e σ Q := propext ⟨fun h => h, fun h => h⟩
def k16_r9 : List COp := [
  ⟨some 55, .build 33 #[], none, true⟩,
  ⟨none, .store 33 (.tmp 4) (.tmp 55), none, true⟩,
  ⟨some 5, .assign (.const (.int .i64 11)), none, true⟩]
theorem k16_r9_e : Eo P pr N k16_r9 e σ Q = Eo P pr N [
  ⟨some 55, .build 33 #[], none, true⟩,
  ⟨none, .store 33 (.tmp 4) (.tmp 55), none, true⟩,
  ⟨some 5, .assign (.const (.int .i64 11)), none, true⟩] e σ Q := propext ⟨fun h => h, fun h => h⟩
def k16_r10 : List COp := [
  ⟨some 56, .load 33 (.tmp 7), none, true⟩,
  ⟨none, .store 33 (.tmp 4) (.tmp 56), none, true⟩,
  ⟨some 5, .assign (.const (.int .i64 0)), none, true⟩]
theorem k16_r10_e : Eo P pr N k16_r10 e σ Q = Eo P pr N [
  ⟨some 56, .load 33 (.tmp 7), none, true⟩,
  ⟨none, .store 33 (.tmp 4) (.tmp 56), none, true⟩,
  ⟨some 5, .assign (.const (.int .i64 0)), none, true⟩] e σ Q := propext ⟨fun h => h, fun h => h⟩
def k16 : CC := (.seq (.region k16_r0) (.seq (.seq (.region k16_r1) (.cond (.tmp 15) (.seq (.region k16_r2) .ret) .skip)) (.seq (.region k16_r3) (.seq (.region k16_r4) (.seq (.region k16_r5) (.seq (.region k16_r6) (.seq (.region k16_r7) (.seq (.seq (.region k16_r8) (.cond (.tmp 54) (.seq (.region k16_r9) .ret) .skip)) (.seq (.region k16_r10) .ret)))))))))
theorem k16_e : Ev P pr N k16 e σ Q = Ev P pr N (.seq (.region k16_r0) (.seq (.seq (.region k16_r1) (.cond (.tmp 15) (.seq (.region k16_r2) .ret) .skip)) (.seq (.region k16_r3) (.seq (.region k16_r4) (.seq (.region k16_r5) (.seq (.region k16_r6) (.seq (.region k16_r7) (.seq (.seq (.region k16_r8) (.cond (.tmp 54) (.seq (.region k16_r9) .ret) .skip)) (.seq (.region k16_r10) .ret))))))))) e σ Q := propext ⟨fun h => h, fun h => h⟩
/-- quern/store.Decode -/
theorem k16_is : FnIs Try.prog noPrim 16 57 [ResultVar.cell 4 33, ResultVar.tmp 5] k16 := FnIs.of_fn Try.func16 (by kernel_rfl)
def k17_r0 : List COp := [
  ⟨some 2, .box 33 (.tmp 0), none, true⟩,
  ⟨some 3, .box 33 (.tmp 1), none, true⟩,
  ⟨some 4, .assign (.const (.bool false)), none, true⟩]
theorem k17_r0_e : Eo P pr N k17_r0 e σ Q = Eo P pr N [
  ⟨some 2, .box 33 (.tmp 0), none, true⟩,
  ⟨some 3, .box 33 (.tmp 1), none, true⟩,
  ⟨some 4, .assign (.const (.bool false)), none, true⟩] e σ Q := propext ⟨fun h => h, fun h => h⟩
def k17_r1 : List COp := [
  ⟨some 5, .fieldAddr 33 (.tmp 2) 0, none, true⟩,
  ⟨some 6, .load 3 (.tmp 5), none, true⟩,
  ⟨some 7, .fieldAddr 33 (.tmp 3) 0, none, true⟩,
  ⟨some 8, .load 3 (.tmp 7), none, true⟩,
  ⟨some 9, .binOp .eql 3 (.tmp 6) (.tmp 8) 3, none, true⟩,
  ⟨some 10, .move (.tmp 9), none, true⟩,
  ⟨some 11, .fieldAddr 33 (.tmp 2) 1, some (10, true), true⟩,
  ⟨some 12, .load 3 (.tmp 11), some (10, true), true⟩,
  ⟨some 13, .fieldAddr 33 (.tmp 3) 1, some (10, true), true⟩,
  ⟨some 14, .load 3 (.tmp 13), some (10, true), true⟩,
  ⟨some 15, .binOp .eql 3 (.tmp 12) (.tmp 14) 3, some (10, true), true⟩,
  ⟨some 16, .pick (.tmp 10) (.tmp 15) (.const (.bool false)), none, true⟩,
  ⟨some 17, .move (.tmp 16), none, true⟩,
  ⟨some 18, .fieldAddr 33 (.tmp 2) 2, some (17, true), true⟩,
  ⟨some 19, .load 3 (.tmp 18), some (17, true), true⟩,
  ⟨some 20, .fieldAddr 33 (.tmp 3) 2, some (17, true), true⟩,
  ⟨some 21, .load 3 (.tmp 20), some (17, true), true⟩,
  ⟨some 22, .binOp .eql 3 (.tmp 19) (.tmp 21) 3, some (17, true), true⟩,
  ⟨some 23, .pick (.tmp 17) (.tmp 22) (.const (.bool false)), none, true⟩,
  ⟨some 24, .move (.tmp 23), none, true⟩,
  ⟨some 25, .fieldAddr 33 (.tmp 2) 3, some (24, true), true⟩,
  ⟨some 26, .load 3 (.tmp 25), some (24, true), true⟩,
  ⟨some 27, .fieldAddr 33 (.tmp 3) 3, some (24, true), true⟩,
  ⟨some 28, .load 3 (.tmp 27), some (24, true), true⟩,
  ⟨some 29, .binOp .eql 3 (.tmp 26) (.tmp 28) 3, some (24, true), true⟩,
  ⟨some 30, .pick (.tmp 24) (.tmp 29) (.const (.bool false)), none, true⟩,
  ⟨some 31, .move (.tmp 30), none, true⟩,
  ⟨some 32, .fieldAddr 33 (.tmp 2) 4, some (31, true), true⟩,
  ⟨some 33, .load 9 (.tmp 32), some (31, true), true⟩,
  ⟨some 34, .fieldAddr 33 (.tmp 3) 4, some (31, true), true⟩,
  ⟨some 35, .load 9 (.tmp 34), some (31, true), true⟩,
  ⟨some 36, .binOp .eql 9 (.tmp 33) (.tmp 35) 9, some (31, true), true⟩,
  ⟨some 37, .pick (.tmp 31) (.tmp 36) (.const (.bool false)), none, true⟩,
  ⟨some 38, .move (.tmp 37), none, true⟩,
  ⟨some 39, .fieldAddr 33 (.tmp 2) 5, some (38, true), true⟩,
  ⟨some 40, .load 22 (.tmp 39), some (38, true), true⟩,
  ⟨some 41, .fieldAddr 33 (.tmp 3) 5, some (38, true), true⟩,
  ⟨some 42, .load 22 (.tmp 41), some (38, true), true⟩,
  ⟨some 43, .call { callee := .value (.func 26), args := #[.tmp 40, .tmp 42], argTypes := #[22, 22] }, some (38, true), true⟩,
  ⟨some 44, .pick (.tmp 38) (.tmp 43) (.const (.bool false)), none, true⟩,
  ⟨some 4, .assign (.tmp 44), none, true⟩]
theorem k17_r1_e : Eo P pr N k17_r1 e σ Q = Eo P pr N [
  ⟨some 5, .fieldAddr 33 (.tmp 2) 0, none, true⟩,
  ⟨some 6, .load 3 (.tmp 5), none, true⟩,
  ⟨some 7, .fieldAddr 33 (.tmp 3) 0, none, true⟩,
  ⟨some 8, .load 3 (.tmp 7), none, true⟩,
  ⟨some 9, .binOp .eql 3 (.tmp 6) (.tmp 8) 3, none, true⟩,
  ⟨some 10, .move (.tmp 9), none, true⟩,
  ⟨some 11, .fieldAddr 33 (.tmp 2) 1, some (10, true), true⟩,
  ⟨some 12, .load 3 (.tmp 11), some (10, true), true⟩,
  ⟨some 13, .fieldAddr 33 (.tmp 3) 1, some (10, true), true⟩,
  ⟨some 14, .load 3 (.tmp 13), some (10, true), true⟩,
  ⟨some 15, .binOp .eql 3 (.tmp 12) (.tmp 14) 3, some (10, true), true⟩,
  ⟨some 16, .pick (.tmp 10) (.tmp 15) (.const (.bool false)), none, true⟩,
  ⟨some 17, .move (.tmp 16), none, true⟩,
  ⟨some 18, .fieldAddr 33 (.tmp 2) 2, some (17, true), true⟩,
  ⟨some 19, .load 3 (.tmp 18), some (17, true), true⟩,
  ⟨some 20, .fieldAddr 33 (.tmp 3) 2, some (17, true), true⟩,
  ⟨some 21, .load 3 (.tmp 20), some (17, true), true⟩,
  ⟨some 22, .binOp .eql 3 (.tmp 19) (.tmp 21) 3, some (17, true), true⟩,
  ⟨some 23, .pick (.tmp 17) (.tmp 22) (.const (.bool false)), none, true⟩,
  ⟨some 24, .move (.tmp 23), none, true⟩,
  ⟨some 25, .fieldAddr 33 (.tmp 2) 3, some (24, true), true⟩,
  ⟨some 26, .load 3 (.tmp 25), some (24, true), true⟩,
  ⟨some 27, .fieldAddr 33 (.tmp 3) 3, some (24, true), true⟩,
  ⟨some 28, .load 3 (.tmp 27), some (24, true), true⟩,
  ⟨some 29, .binOp .eql 3 (.tmp 26) (.tmp 28) 3, some (24, true), true⟩,
  ⟨some 30, .pick (.tmp 24) (.tmp 29) (.const (.bool false)), none, true⟩,
  ⟨some 31, .move (.tmp 30), none, true⟩,
  ⟨some 32, .fieldAddr 33 (.tmp 2) 4, some (31, true), true⟩,
  ⟨some 33, .load 9 (.tmp 32), some (31, true), true⟩,
  ⟨some 34, .fieldAddr 33 (.tmp 3) 4, some (31, true), true⟩,
  ⟨some 35, .load 9 (.tmp 34), some (31, true), true⟩,
  ⟨some 36, .binOp .eql 9 (.tmp 33) (.tmp 35) 9, some (31, true), true⟩,
  ⟨some 37, .pick (.tmp 31) (.tmp 36) (.const (.bool false)), none, true⟩,
  ⟨some 38, .move (.tmp 37), none, true⟩,
  ⟨some 39, .fieldAddr 33 (.tmp 2) 5, some (38, true), true⟩,
  ⟨some 40, .load 22 (.tmp 39), some (38, true), true⟩,
  ⟨some 41, .fieldAddr 33 (.tmp 3) 5, some (38, true), true⟩,
  ⟨some 42, .load 22 (.tmp 41), some (38, true), true⟩,
  ⟨some 43, .call { callee := .value (.func 26), args := #[.tmp 40, .tmp 42], argTypes := #[22, 22] }, some (38, true), true⟩,
  ⟨some 44, .pick (.tmp 38) (.tmp 43) (.const (.bool false)), none, true⟩,
  ⟨some 4, .assign (.tmp 44), none, true⟩] e σ Q := propext ⟨fun h => h, fun h => h⟩
def k17 : CC := (.seq (.region k17_r0) (.seq (.region k17_r1) .ret))
theorem k17_e : Ev P pr N k17 e σ Q = Ev P pr N (.seq (.region k17_r0) (.seq (.region k17_r1) .ret)) e σ Q := propext ⟨fun h => h, fun h => h⟩
/-- quern/quernref20.SameLog -/
theorem k17_is : FnIs Try.prog noPrim 17 45 [ResultVar.tmp 4] k17 := FnIs.of_fn Try.func17 (by kernel_rfl)
def k18_r0 : List COp := [
  ⟨some 2, .box 33 (.tmp 0), none, true⟩,
  ⟨some 4, .assign (.const (.bool false)), none, true⟩]
theorem k18_r0_e : Eo P pr N k18_r0 e σ Q = Eo P pr N [
  ⟨some 2, .box 33 (.tmp 0), none, true⟩,
  ⟨some 4, .assign (.const (.bool false)), none, true⟩] e σ Q := propext ⟨fun h => h, fun h => h⟩
def k18_r1 : List COp := [
  ⟨some 8, .fieldAddr 33 (.tmp 2) 0, none, true⟩,
  ⟨some 9, .load 3 (.tmp 8), none, true⟩,
  ⟨some 10, .binOp .lss 3 (.tmp 9) (.const (.int .i64 0)) 3, none, true⟩,
  ⟨some 11, .move (.tmp 10), none, true⟩,
  ⟨some 12, .fieldAddr 33 (.tmp 2) 0, some (11, false), true⟩,
  ⟨some 13, .load 3 (.tmp 12), some (11, false), true⟩,
  ⟨some 14, .binOp .gtr 3 (.tmp 13) (.const (.int .i64 1099511627776)) 3, some (11, false), true⟩,
  ⟨some 15, .pick (.tmp 11) (.const (.bool true)) (.tmp 14), none, true⟩,
  ⟨some 16, .move (.tmp 15), none, true⟩,
  ⟨some 17, .fieldAddr 33 (.tmp 2) 1, some (16, false), true⟩,
  ⟨some 18, .load 3 (.tmp 17), some (16, false), true⟩,
  ⟨some 19, .binOp .lss 3 (.tmp 18) (.const (.int .i64 (-1))) 3, some (16, false), true⟩,
  ⟨some 20, .pick (.tmp 16) (.const (.bool true)) (.tmp 19), none, true⟩,
  ⟨some 21, .move (.tmp 20), none, true⟩,
  ⟨some 22, .fieldAddr 33 (.tmp 2) 1, some (21, false), true⟩,
  ⟨some 23, .load 3 (.tmp 22), some (21, false), true⟩,
  ⟨some 24, .move (.tmp 1), some (21, false), true⟩,
  ⟨some 25, .binOp .geq 3 (.tmp 23) (.tmp 24) 3, some (21, false), true⟩,
  ⟨some 26, .pick (.tmp 21) (.const (.bool true)) (.tmp 25), none, true⟩,
  ⟨some 27, .move (.tmp 26), none, true⟩,
  ⟨some 28, .fieldAddr 33 (.tmp 2) 2, some (27, false), true⟩,
  ⟨some 29, .load 3 (.tmp 28), some (27, false), true⟩,
  ⟨some 30, .binOp .lss 3 (.tmp 29) (.const (.int .i64 0)) 3, some (27, false), true⟩,
  ⟨some 31, .pick (.tmp 27) (.const (.bool true)) (.tmp 30), none, true⟩,
  ⟨some 32, .move (.tmp 31), none, true⟩,
  ⟨some 33, .fieldAddr 33 (.tmp 2) 2, some (32, false), true⟩,
  ⟨some 34, .load 3 (.tmp 33), some (32, false), true⟩,
  ⟨some 35, .binOp .gtr 3 (.tmp 34) (.const (.int .i64 1099511627776)) 3, some (32, false), true⟩,
  ⟨some 36, .pick (.tmp 32) (.const (.bool true)) (.tmp 35), none, true⟩,
  ⟨some 37, .move (.tmp 36), none, true⟩,
  ⟨some 38, .fieldAddr 33 (.tmp 2) 3, some (37, false), true⟩,
  ⟨some 39, .load 3 (.tmp 38), some (37, false), true⟩,
  ⟨some 40, .binOp .lss 3 (.tmp 39) (.const (.int .i64 0)) 3, some (37, false), true⟩,
  ⟨some 41, .pick (.tmp 37) (.const (.bool true)) (.tmp 40), none, true⟩,
  ⟨some 42, .move (.tmp 41), none, true⟩,
  ⟨some 43, .fieldAddr 33 (.tmp 2) 5, some (42, false), true⟩,
  ⟨some 44, .load 22 (.tmp 43), some (42, false), true⟩,
  ⟨some 45, .call { callee := .builtin .len, args := #[.tmp 44], argTypes := #[22] }, some (42, false), true⟩,
  ⟨some 46, .binOp .gtr 3 (.tmp 45) (.const (.int .i64 256)) 3, some (42, false), true⟩,
  ⟨some 47, .pick (.tmp 42) (.const (.bool true)) (.tmp 46), none, true⟩]
theorem k18_r1_e : Eo P pr N k18_r1 e σ Q = Eo P pr N [
  ⟨some 8, .fieldAddr 33 (.tmp 2) 0, none, true⟩,
  ⟨some 9, .load 3 (.tmp 8), none, true⟩,
  ⟨some 10, .binOp .lss 3 (.tmp 9) (.const (.int .i64 0)) 3, none, true⟩,
  ⟨some 11, .move (.tmp 10), none, true⟩,
  ⟨some 12, .fieldAddr 33 (.tmp 2) 0, some (11, false), true⟩,
  ⟨some 13, .load 3 (.tmp 12), some (11, false), true⟩,
  ⟨some 14, .binOp .gtr 3 (.tmp 13) (.const (.int .i64 1099511627776)) 3, some (11, false), true⟩,
  ⟨some 15, .pick (.tmp 11) (.const (.bool true)) (.tmp 14), none, true⟩,
  ⟨some 16, .move (.tmp 15), none, true⟩,
  ⟨some 17, .fieldAddr 33 (.tmp 2) 1, some (16, false), true⟩,
  ⟨some 18, .load 3 (.tmp 17), some (16, false), true⟩,
  ⟨some 19, .binOp .lss 3 (.tmp 18) (.const (.int .i64 (-1))) 3, some (16, false), true⟩,
  ⟨some 20, .pick (.tmp 16) (.const (.bool true)) (.tmp 19), none, true⟩,
  ⟨some 21, .move (.tmp 20), none, true⟩,
  ⟨some 22, .fieldAddr 33 (.tmp 2) 1, some (21, false), true⟩,
  ⟨some 23, .load 3 (.tmp 22), some (21, false), true⟩,
  ⟨some 24, .move (.tmp 1), some (21, false), true⟩,
  ⟨some 25, .binOp .geq 3 (.tmp 23) (.tmp 24) 3, some (21, false), true⟩,
  ⟨some 26, .pick (.tmp 21) (.const (.bool true)) (.tmp 25), none, true⟩,
  ⟨some 27, .move (.tmp 26), none, true⟩,
  ⟨some 28, .fieldAddr 33 (.tmp 2) 2, some (27, false), true⟩,
  ⟨some 29, .load 3 (.tmp 28), some (27, false), true⟩,
  ⟨some 30, .binOp .lss 3 (.tmp 29) (.const (.int .i64 0)) 3, some (27, false), true⟩,
  ⟨some 31, .pick (.tmp 27) (.const (.bool true)) (.tmp 30), none, true⟩,
  ⟨some 32, .move (.tmp 31), none, true⟩,
  ⟨some 33, .fieldAddr 33 (.tmp 2) 2, some (32, false), true⟩,
  ⟨some 34, .load 3 (.tmp 33), some (32, false), true⟩,
  ⟨some 35, .binOp .gtr 3 (.tmp 34) (.const (.int .i64 1099511627776)) 3, some (32, false), true⟩,
  ⟨some 36, .pick (.tmp 32) (.const (.bool true)) (.tmp 35), none, true⟩,
  ⟨some 37, .move (.tmp 36), none, true⟩,
  ⟨some 38, .fieldAddr 33 (.tmp 2) 3, some (37, false), true⟩,
  ⟨some 39, .load 3 (.tmp 38), some (37, false), true⟩,
  ⟨some 40, .binOp .lss 3 (.tmp 39) (.const (.int .i64 0)) 3, some (37, false), true⟩,
  ⟨some 41, .pick (.tmp 37) (.const (.bool true)) (.tmp 40), none, true⟩,
  ⟨some 42, .move (.tmp 41), none, true⟩,
  ⟨some 43, .fieldAddr 33 (.tmp 2) 5, some (42, false), true⟩,
  ⟨some 44, .load 22 (.tmp 43), some (42, false), true⟩,
  ⟨some 45, .call { callee := .builtin .len, args := #[.tmp 44], argTypes := #[22] }, some (42, false), true⟩,
  ⟨some 46, .binOp .gtr 3 (.tmp 45) (.const (.int .i64 256)) 3, some (42, false), true⟩,
  ⟨some 47, .pick (.tmp 42) (.const (.bool true)) (.tmp 46), none, true⟩] e σ Q := propext ⟨fun h => h, fun h => h⟩
def k18_r2 : List COp := [
  ⟨some 4, .assign (.const (.bool false)), none, true⟩]
theorem k18_r2_e : Eo P pr N k18_r2 e σ Q = Eo P pr N [
  ⟨some 4, .assign (.const (.bool false)), none, true⟩] e σ Q := propext ⟨fun h => h, fun h => h⟩
def k18_r3 : List COp := [
  ⟨some 48, .fieldAddr 33 (.tmp 2) 3, none, true⟩,
  ⟨some 49, .load 3 (.tmp 48), none, true⟩,
  ⟨some 5, .assign (.tmp 49), none, true⟩]
theorem k18_r3_e : Eo P pr N k18_r3 e σ Q = Eo P pr N [
  ⟨some 48, .fieldAddr 33 (.tmp 2) 3, none, true⟩,
  ⟨some 49, .load 3 (.tmp 48), none, true⟩,
  ⟨some 5, .assign (.tmp 49), none, true⟩] e σ Q := propext ⟨fun h => h, fun h => h⟩
def k18_r4 : List COp := [
  ⟨some 50, .fieldAddr 33 (.tmp 2) 5, none, true⟩,
  ⟨some 51, .load 22 (.tmp 50), none, true⟩,
  ⟨some 52, .call { callee := .builtin .len, args := #[.tmp 51], argTypes := #[22] }, none, true⟩,
  ⟨some 53, .move (.const (.int .i64 0)), none, true⟩]
theorem k18_r4_e : Eo P pr N k18_r4 e σ Q = Eo P pr N [
  ⟨some 50, .fieldAddr 33 (.tmp 2) 5, none, true⟩,
  ⟨some 51, .load 22 (.tmp 50), none, true⟩,
  ⟨some 52, .call { callee := .builtin .len, args := #[.tmp 51], argTypes := #[22] }, none, true⟩,
  ⟨some 53, .move (.const (.int .i64 0)), none, true⟩] e σ Q := propext ⟨fun h => h, fun h => h⟩
def k18_r5 : List COp := [
  ⟨some 54, .binOp .lss 3 (.tmp 53) (.tmp 52) 3, none, true⟩]
theorem k18_r5_e : Eo P pr N k18_r5 e σ Q = Eo P pr N [
  ⟨some 54, .binOp .lss 3 (.tmp 53) (.tmp 52) 3, none, true⟩] e σ Q := propext ⟨fun h => h, fun h => h⟩
def k18_r6 : List COp := [
  ⟨some 55, .indexAddr 22 (.tmp 51) (.tmp 53), none, true⟩,
  ⟨some 56, .load 66 (.tmp 55), none, true⟩,
  ⟨some 7, .alloc 66, none, true⟩,
  ⟨none, .store 66 (.tmp 7) (.tmp 56), none, true⟩]
theorem k18_r6_e : Eo P pr N k18_r6 e σ Q = Eo P pr N [
  ⟨some 55, .indexAddr 22 (.tmp 51) (.tmp 53), none, true⟩,
  ⟨some 56, .load 66 (.tmp 55), none, true⟩,
  ⟨some 7, .alloc 66, none, true⟩,
  ⟨none, .store 66 (.tmp 7) (.tmp 56), none, true⟩] e σ Q := propext ⟨fun h => h, fun h => h⟩
def k18_r7 : List COp := [
  ⟨some 57, .fieldAddr 66 (.tmp 7) 0, none, true⟩,
  ⟨some 58, .load 3 (.tmp 57), none, true⟩,
  ⟨some 59, .move (.tmp 5), none, true⟩,
  ⟨some 60, .binOp .lss 3 (.tmp 58) (.tmp 59) 3, none, true⟩,
  ⟨some 61, .move (.tmp 60), none, true⟩,
  ⟨some 62, .fieldAddr 66 (.tmp 7) 1, some (61, false), true⟩,
  ⟨some 63, .load 64 (.tmp 62), some (61, false), true⟩,
  ⟨some 64, .call { callee := .value (.func 47), args := #[.tmp 63], argTypes := #[64] }, some (61, false), true⟩,
  ⟨some 65, .unOp .not 4 (.tmp 64), some (61, false), true⟩,
  ⟨some 66, .pick (.tmp 61) (.const (.bool true)) (.tmp 65), none, true⟩]
theorem k18_r7_e : Eo P pr N k18_r7 e σ Q = Eo P pr N [
  ⟨some 57, .fieldAddr 66 (.tmp 7) 0, none, true⟩,
  ⟨some 58, .load 3 (.tmp 57), none, true⟩,
  ⟨some 59, .move (.tmp 5), none, true⟩,
  ⟨some 60, .binOp .lss 3 (.tmp 58) (.tmp 59) 3, none, true⟩,
  ⟨some 61, .move (.tmp 60), none, true⟩,
  ⟨some 62, .fieldAddr 66 (.tmp 7) 1, some (61, false), true⟩,
  ⟨some 63, .load 64 (.tmp 62), some (61, false), true⟩,
  ⟨some 64, .call { callee := .value (.func 47), args := #[.tmp 63], argTypes := #[64] }, some (61, false), true⟩,
  ⟨some 65, .unOp .not 4 (.tmp 64), some (61, false), true⟩,
  ⟨some 66, .pick (.tmp 61) (.const (.bool true)) (.tmp 65), none, true⟩] e σ Q := propext ⟨fun h => h, fun h => h⟩
def k18_r8 : List COp := [
  ⟨some 4, .assign (.const (.bool false)), none, true⟩]
theorem k18_r8_e : Eo P pr N k18_r8 e σ Q = Eo P pr N [
  ⟨some 4, .assign (.const (.bool false)), none, true⟩] e σ Q := propext ⟨fun h => h, fun h => h⟩
def k18_r9 : List COp := [
  ⟨some 67, .fieldAddr 66 (.tmp 7) 0, none, true⟩,
  ⟨some 68, .load 3 (.tmp 67), none, true⟩,
  ⟨some 5, .assign (.tmp 68), none, true⟩]
theorem k18_r9_e : Eo P pr N k18_r9 e σ Q = Eo P pr N [
  ⟨some 67, .fieldAddr 66 (.tmp 7) 0, none, true⟩,
  ⟨some 68, .load 3 (.tmp 67), none, true⟩,
  ⟨some 5, .assign (.tmp 68), none, true⟩] e σ Q := propext ⟨fun h => h, fun h => h⟩
def k18_r10 : List COp := [
  ⟨some 69, .binOp .add 3 (.tmp 53) (.const (.int .i64 1)) 3, none, true⟩,
  ⟨some 53, .move (.tmp 69), none, true⟩]
theorem k18_r10_e : Eo P pr N k18_r10 e σ Q = Eo P pr N [
  ⟨some 69, .binOp .add 3 (.tmp 53) (.const (.int .i64 1)) 3, none, true⟩,
  ⟨some 53, .move (.tmp 69), none, true⟩] e σ Q := propext ⟨fun h => h, fun h => h⟩
def k18_l0 : CC := (.seq (.region k18_r5) (.seq (.cond (.tmp 54) .skip (.exit 0)) (.seq (.block 1 (.seq (.region k18_r6) (.seq (.seq (.region k18_r7) (.cond (.tmp 66) (.seq (.region k18_r8) .ret) .skip)) (.region k18_r9)))) (.region k18_r10))))
theorem k18_l0_e : Ev P pr N k18_l0 e σ Q = Ev P pr N (.seq (.region k18_r5) (.seq (.cond (.tmp 54) .skip (.exit 0)) (.seq (.block 1 (.seq (.region k18_r6) (.seq (.seq (.region k18_r7) (.cond (.tmp 66) (.seq (.region k18_r8) .ret) .skip)) (.region k18_r9)))) (.region k18_r10)))) e σ Q := propext ⟨fun h => h, fun h => h⟩
def k18_r11 : List COp := [
  ⟨some 70, .move (.tmp 5), none, true⟩,
  ⟨some 71, .fieldAddr 33 (.tmp 2) 0, none, true⟩,
  ⟨some 72, .load 3 (.tmp 71), none, true⟩,
  ⟨some 73, .binOp .leq 3 (.tmp 70) (.tmp 72) 3, none, true⟩,
  ⟨some 4, .assign (.tmp 73), none, true⟩]
theorem k18_r11_e : Eo P pr N k18_r11 e σ Q = Eo P pr N [
  ⟨some 70, .move (.tmp 5), none, true⟩,
  ⟨some 71, .fieldAddr 33 (.tmp 2) 0, none, true⟩,
  ⟨some 72, .load 3 (.tmp 71), none, true⟩,
  ⟨some 73, .binOp .leq 3 (.tmp 70) (.tmp 72) 3, none, true⟩,
  ⟨some 4, .assign (.tmp 73), none, true⟩] e σ Q := propext ⟨fun h => h, fun h => h⟩
def k18 : CC := (.seq (.region k18_r0) (.seq (.seq (.region k18_r1) (.cond (.tmp 47) (.seq (.region k18_r2) .ret) .skip)) (.seq (.region k18_r3) (.seq (.seq (.region k18_r4) (.block 0 (.loop k18_l0))) (.seq (.region k18_r11) .ret)))))
theorem k18_e : Ev P pr N k18 e σ Q = Ev P pr N (.seq (.region k18_r0) (.seq (.seq (.region k18_r1) (.cond (.tmp 47) (.seq (.region k18_r2) .ret) .skip)) (.seq (.region k18_r3) (.seq (.seq (.region k18_r4) (.block 0 (.loop k18_l0))) (.seq (.region k18_r11) .ret))))) e σ Q := propext ⟨fun h => h, fun h => h⟩
/-- quern/raft.GoodLog -/
theorem k18_is : FnIs Try.prog noPrim 18 74 [ResultVar.tmp 4] k18 := FnIs.of_fn Try.func18 (by kernel_rfl)
def k19_r0 : List COp := [
  ⟨some 2, .box 33 (.tmp 0), none, true⟩,
  ⟨some 4, .assign (.const (.slice .none 0 0)), none, true⟩,
  ⟨some 5, .assign (.const (.int .i64 0)), none, true⟩]
theorem k19_r0_e : Eo P pr N k19_r0 e σ Q = Eo P pr N [
  ⟨some 2, .box 33 (.tmp 0), none, true⟩,
  ⟨some 4, .assign (.const (.slice .none 0 0)), none, true⟩,
  ⟨some 5, .assign (.const (.int .i64 0)), none, true⟩] e σ Q := propext ⟨fun h => h, fun h => h⟩
def k19_r1 : List COp := [
  ⟨some 7, .move (.tmp 1), none, true⟩,
  ⟨some 8, .binOp .lss 3 (.tmp 7) (.const (.int .i64 1)) 3, none, true⟩,
  ⟨some 9, .move (.tmp 8), none, true⟩,
  ⟨some 10, .move (.tmp 1), some (9, false), true⟩,
  ⟨some 11, .binOp .gtr 3 (.tmp 10) (.const (.int .i64 7)) 3, some (9, false), true⟩,
  ⟨some 12, .pick (.tmp 9) (.const (.bool true)) (.tmp 11), none, true⟩,
  ⟨some 13, .move (.tmp 12), none, true⟩,
  ⟨some 14, .load 33 (.tmp 2), some (13, false), true⟩,
  ⟨some 15, .move (.tmp 1), some (13, false), true⟩,
  ⟨some 16, .call { callee := .value (.func 48), args := #[.tmp 14, .tmp 15], argTypes := #[33, 3] }, some (13, false), true⟩,
  ⟨some 17, .unOp .not 4 (.tmp 16), some (13, false), true⟩,
  ⟨some 18, .pick (.tmp 13) (.const (.bool true)) (.tmp 17), none, true⟩]
theorem k19_r1_e : Eo P pr N k19_r1 e σ Q = Eo P pr N [
  ⟨some 7, .move (.tmp 1), none, true⟩,
  ⟨some 8, .binOp .lss 3 (.tmp 7) (.const (.int .i64 1)) 3, none, true⟩,
  ⟨some 9, .move (.tmp 8), none, true⟩,
  ⟨some 10, .move (.tmp 1), some (9, false), true⟩,
  ⟨some 11, .binOp .gtr 3 (.tmp 10) (.const (.int .i64 7)) 3, some (9, false), true⟩,
  ⟨some 12, .pick (.tmp 9) (.const (.bool true)) (.tmp 11), none, true⟩,
  ⟨some 13, .move (.tmp 12), none, true⟩,
  ⟨some 14, .load 33 (.tmp 2), some (13, false), true⟩,
  ⟨some 15, .move (.tmp 1), some (13, false), true⟩,
  ⟨some 16, .call { callee := .value (.func 48), args := #[.tmp 14, .tmp 15], argTypes := #[33, 3] }, some (13, false), true⟩,
  ⟨some 17, .unOp .not 4 (.tmp 16), some (13, false), true⟩,
  ⟨some 18, .pick (.tmp 13) (.const (.bool true)) (.tmp 17), none, true⟩] e σ Q := propext ⟨fun h => h, fun h => h⟩
def k19_r2 : List COp := [
  ⟨some 4, .assign (.const (.slice .none 0 0)), none, true⟩,
  ⟨some 5, .assign (.const (.int .i64 1)), none, true⟩]
theorem k19_r2_e : Eo P pr N k19_r2 e σ Q = Eo P pr N [
  ⟨some 4, .assign (.const (.slice .none 0 0)), none, true⟩,
  ⟨some 5, .assign (.const (.int .i64 1)), none, true⟩] e σ Q := propext ⟨fun h => h, fun h => h⟩
def k19_r3 : List COp := [
  ⟨some 19, .fieldAddr 33 (.tmp 2) 0, none, true⟩,
  ⟨some 20, .load 3 (.tmp 19), none, true⟩,
  ⟨some 21, .call { callee := .value (.func 49), args := #[.const (.slice .none 0 0), .tmp 20], argTypes := #[27, 3] }, none, true⟩,
  ⟨some 6, .assign (.tmp 21), none, true⟩]
theorem k19_r3_e : Eo P pr N k19_r3 e σ Q = Eo P pr N [
  ⟨some 19, .fieldAddr 33 (.tmp 2) 0, none, true⟩,
  ⟨some 20, .load 3 (.tmp 19), none, true⟩,
  ⟨some 21, .call { callee := .value (.func 49), args := #[.const (.slice .none 0 0), .tmp 20], argTypes := #[27, 3] }, none, true⟩,
  ⟨some 6, .assign (.tmp 21), none, true⟩] e σ Q := propext ⟨fun h => h, fun h => h⟩
def k19_r4 : List COp := [
  ⟨some 22, .move (.tmp 6), none, true⟩,
  ⟨some 23, .fieldAddr 33 (.tmp 2) 1, none, true⟩,
  ⟨some 24, .load 3 (.tmp 23), none, true⟩,
  ⟨some 25, .binOp .add 3 (.tmp 24) (.const (.int .i64 1)) 3, none, true⟩,
  ⟨some 26, .call { callee := .value (.func 49), args := #[.tmp 22, .tmp 25], argTypes := #[27, 3] }, none, true⟩,
  ⟨some 6, .assign (.tmp 26), none, true⟩]
theorem k19_r4_e : Eo P pr N k19_r4 e σ Q = Eo P pr N [
  ⟨some 22, .move (.tmp 6), none, true⟩,
  ⟨some 23, .fieldAddr 33 (.tmp 2) 1, none, true⟩,
  ⟨some 24, .load 3 (.tmp 23), none, true⟩,
  ⟨some 25, .binOp .add 3 (.tmp 24) (.const (.int .i64 1)) 3, none, true⟩,
  ⟨some 26, .call { callee := .value (.func 49), args := #[.tmp 22, .tmp 25], argTypes := #[27, 3] }, none, true⟩,
  ⟨some 6, .assign (.tmp 26), none, true⟩] e σ Q := propext ⟨fun h => h, fun h => h⟩
def k19_r5 : List COp := [
  ⟨some 27, .move (.tmp 6), none, true⟩,
  ⟨some 28, .fieldAddr 33 (.tmp 2) 2, none, true⟩,
  ⟨some 29, .load 3 (.tmp 28), none, true⟩,
  ⟨some 30, .call { callee := .value (.func 49), args := #[.tmp 27, .tmp 29], argTypes := #[27, 3] }, none, true⟩,
  ⟨some 6, .assign (.tmp 30), none, true⟩]
theorem k19_r5_e : Eo P pr N k19_r5 e σ Q = Eo P pr N [
  ⟨some 27, .move (.tmp 6), none, true⟩,
  ⟨some 28, .fieldAddr 33 (.tmp 2) 2, none, true⟩,
  ⟨some 29, .load 3 (.tmp 28), none, true⟩,
  ⟨some 30, .call { callee := .value (.func 49), args := #[.tmp 27, .tmp 29], argTypes := #[27, 3] }, none, true⟩,
  ⟨some 6, .assign (.tmp 30), none, true⟩] e σ Q := propext ⟨fun h => h, fun h => h⟩
def k19_r6 : List COp := [
  ⟨some 31, .move (.tmp 6), none, true⟩,
  ⟨some 32, .fieldAddr 33 (.tmp 2) 3, none, true⟩,
  ⟨some 33, .load 3 (.tmp 32), none, true⟩,
  ⟨some 34, .call { callee := .value (.func 49), args := #[.tmp 31, .tmp 33], argTypes := #[27, 3] }, none, true⟩,
  ⟨some 6, .assign (.tmp 34), none, true⟩]
theorem k19_r6_e : Eo P pr N k19_r6 e σ Q = Eo P pr N [
  ⟨some 31, .move (.tmp 6), none, true⟩,
  ⟨some 32, .fieldAddr 33 (.tmp 2) 3, none, true⟩,
  ⟨some 33, .load 3 (.tmp 32), none, true⟩,
  ⟨some 34, .call { callee := .value (.func 49), args := #[.tmp 31, .tmp 33], argTypes := #[27, 3] }, none, true⟩,
  ⟨some 6, .assign (.tmp 34), none, true⟩] e σ Q := propext ⟨fun h => h, fun h => h⟩
def k19_r7 : CC := (.wregion [
  (true, ⟨some 35, .move (.tmp 6), none, false⟩),
  (false, ⟨some 36, .fieldAddr 33 (.tmp 2) 4, none, false⟩),
  (false, ⟨some 37, .load 9 (.tmp 36), none, false⟩),
  (false, ⟨some 38, .call { callee := .value (.func 50), args := #[.tmp 35, .tmp 37], argTypes := #[27, 9] }, none, false⟩),
  (true, ⟨some 39, .fieldAddr 33 (.tmp 2) 5, none, true⟩),
  (true, ⟨some 40, .load 22 (.tmp 39), none, true⟩),
  (false, ⟨some 41, .call { callee := .value (.func 22), args := #[.tmp 38, .tmp 40], argTypes := #[27, 22] }, none, true⟩),
  (false, ⟨some 4, .assign (.tmp 41), none, true⟩),
  (false, ⟨some 5, .assign (.const (.int .i64 0)), none, true⟩)] false [(5, ⟨some 40, .load 22 (.tmp 39), none, true⟩, [0, 4])])
theorem k19_r7_e : Ev P pr N k19_r7 e σ Q = Ev P pr N (.wregion [
  (true, ⟨some 35, .move (.tmp 6), none, false⟩),
  (false, ⟨some 36, .fieldAddr 33 (.tmp 2) 4, none, false⟩),
  (false, ⟨some 37, .load 9 (.tmp 36), none, false⟩),
  (false, ⟨some 38, .call { callee := .value (.func 50), args := #[.tmp 35, .tmp 37], argTypes := #[27, 9] }, none, false⟩),
  (true, ⟨some 39, .fieldAddr 33 (.tmp 2) 5, none, true⟩),
  (true, ⟨some 40, .load 22 (.tmp 39), none, true⟩),
  (false, ⟨some 41, .call { callee := .value (.func 22), args := #[.tmp 38, .tmp 40], argTypes := #[27, 22] }, none, true⟩),
  (false, ⟨some 4, .assign (.tmp 41), none, true⟩),
  (false, ⟨some 5, .assign (.const (.int .i64 0)), none, true⟩)] false [(5, ⟨some 40, .load 22 (.tmp 39), none, true⟩, [0, 4])]) e σ Q := propext ⟨fun h => h, fun h => h⟩
def k19 : CC := (.seq (.region k19_r0) (.seq (.seq (.region k19_r1) (.cond (.tmp 18) (.seq (.region k19_r2) .ret) .skip)) (.seq (.region k19_r3) (.seq (.region k19_r4) (.seq (.region k19_r5) (.seq (.region k19_r6) (.seq k19_r7 .ret)))))))
theorem k19_e : Ev P pr N k19 e σ Q = Ev P pr N (.seq (.region k19_r0) (.seq (.seq (.region k19_r1) (.cond (.tmp 18) (.seq (.region k19_r2) .ret) .skip)) (.seq (.region k19_r3) (.seq (.region k19_r4) (.seq (.region k19_r5) (.seq (.region k19_r6) (.seq k19_r7 .ret))))))) e σ Q := propext ⟨fun h => h, fun h => h⟩
/-- quern/quernref21.Encode -/
theorem k19_is : FnIs Try.prog noPrim 19 42 [ResultVar.tmp 4, ResultVar.tmp 5] k19 := FnIs.of_fn Try.func19 (by kernel_rfl)
def k20_r0 : List COp := [
  ⟨some 4, .alloc 33, none, true⟩,
  ⟨some 5, .assign (.const (.int .i64 0)), none, true⟩]
theorem k20_r0_e : Eo P pr N k20_r0 e σ Q = Eo P pr N [
  ⟨some 4, .alloc 33, none, true⟩,
  ⟨some 5, .assign (.const (.int .i64 0)), none, true⟩] e σ Q := propext ⟨fun h => h, fun h => h⟩
def k20_r1 : List COp := [
  ⟨some 10, .move (.tmp 1), none, true⟩,
  ⟨some 11, .binOp .lss 3 (.tmp 10) (.const (.int .i64 1)) 3, none, true⟩,
  ⟨some 12, .move (.tmp 11), none, true⟩,
  ⟨some 13, .move (.tmp 1), some (12, false), true⟩,
  ⟨some 14, .binOp .gtr 3 (.tmp 13) (.const (.int .i64 7)) 3, some (12, false), true⟩,
  ⟨some 15, .pick (.tmp 12) (.const (.bool true)) (.tmp 14), none, true⟩]
theorem k20_r1_e : Eo P pr N k20_r1 e σ Q = Eo P pr N [
  ⟨some 10, .move (.tmp 1), none, true⟩,
  ⟨some 11, .binOp .lss 3 (.tmp 10) (.const (.int .i64 1)) 3, none, true⟩,
  ⟨some 12, .move (.tmp 11), none, true⟩,
  ⟨some 13, .move (.tmp 1), some (12, false), true⟩,
  ⟨some 14, .binOp .gtr 3 (.tmp 13) (.const (.int .i64 7)) 3, some (12, false), true⟩,
  ⟨some 15, .pick (.tmp 12) (.const (.bool true)) (.tmp 14), none, true⟩] e σ Q := propext ⟨fun h => h, fun h => h⟩
def k20_r2 : List COp := [
  ⟨some 16, .build 33 #[], none, true⟩,
  ⟨none, .store 33 (.tmp 4) (.tmp 16), none, true⟩,
  ⟨some 5, .assign (.const (.int .i64 1)), none, true⟩]
theorem k20_r2_e : Eo P pr N k20_r2 e σ Q = Eo P pr N [
  ⟨some 16, .build 33 #[], none, true⟩,
  ⟨none, .store 33 (.tmp 4) (.tmp 16), none, true⟩,
  ⟨some 5, .assign (.const (.int .i64 1)), none, true⟩] e σ Q := propext ⟨fun h => h, fun h => h⟩
def k20_r3 : List COp := [
  ⟨some 17, .buildSlice 27 0 #[], none, true⟩,
  ⟨some 18, .move (.tmp 0), none, true⟩,
  ⟨some 19, .call { callee := .builtin .append, args := #[.tmp 17, .tmp 18], argTypes := #[27, 27] }, none, true⟩,
  ⟨some 20, .build 46 #[(0, .tmp 19)], none, true⟩,
  ⟨some 21, .box 46 (.tmp 20), none, true⟩,
  ⟨some 6, .assign (.tmp 21), none, true⟩]
theorem k20_r3_e : Eo P pr N k20_r3 e σ Q = Eo P pr N [
  ⟨some 17, .buildSlice 27 0 #[], none, true⟩,
  ⟨some 18, .move (.tmp 0), none, true⟩,
  ⟨some 19, .call { callee := .builtin .append, args := #[.tmp 17, .tmp 18], argTypes := #[27, 27] }, none, true⟩,
  ⟨some 20, .build 46 #[(0, .tmp 19)], none, true⟩,
  ⟨some 21, .box 46 (.tmp 20), none, true⟩,
  ⟨some 6, .assign (.tmp 21), none, true⟩] e σ Q := propext ⟨fun h => h, fun h => h⟩
def k20_r4 : List COp := [
  ⟨some 22, .move (.tmp 6), none, true⟩,
  ⟨some 23, .call { callee := .value (.func 51), args := #[.tmp 22], argTypes := #[44] }, none, true⟩,
  ⟨some 24, .build 33 #[(0, .tmp 23)], none, true⟩,
  ⟨some 7, .alloc 33, none, true⟩,
  ⟨none, .store 33 (.tmp 7) (.tmp 24), none, true⟩]
theorem k20_r4_e : Eo P pr N k20_r4 e σ Q = Eo P pr N [
  ⟨some 22, .move (.tmp 6), none, true⟩,
  ⟨some 23, .call { callee := .value (.func 51), args := #[.tmp 22], argTypes := #[44] }, none, true⟩,
  ⟨some 24, .build 33 #[(0, .tmp 23)], none, true⟩,
  ⟨some 7, .alloc 33, none, true⟩,
  ⟨none, .store 33 (.tmp 7) (.tmp 24), none, true⟩] e σ Q := propext ⟨fun h => h, fun h => h⟩
def k20_r5 : List COp := [
  ⟨some 25, .move (.tmp 6), none, true⟩,
  ⟨some 26, .call { callee := .value (.func 51), args := #[.tmp 25], argTypes := #[44] }, none, true⟩,
  ⟨some 27, .binOp .sub 3 (.tmp 26) (.const (.int .i64 1)) 3, none, true⟩,
  ⟨some 28, .fieldAddr 33 (.tmp 7) 1, none, true⟩,
  ⟨none, .store 3 (.tmp 28) (.tmp 27), none, true⟩]
theorem k20_r5_e : Eo P pr N k20_r5 e σ Q = Eo P pr N [
  ⟨some 25, .move (.tmp 6), none, true⟩,
  ⟨some 26, .call { callee := .value (.func 51), args := #[.tmp 25], argTypes := #[44] }, none, true⟩,
  ⟨some 27, .binOp .sub 3 (.tmp 26) (.const (.int .i64 1)) 3, none, true⟩,
  ⟨some 28, .fieldAddr 33 (.tmp 7) 1, none, true⟩,
  ⟨none, .store 3 (.tmp 28) (.tmp 27), none, true⟩] e σ Q := propext ⟨fun h => h, fun h => h⟩
def k20_r6 : List COp := [
  ⟨some 29, .move (.tmp 6), none, true⟩,
  ⟨some 30, .call { callee := .value (.func 51), args := #[.tmp 29], argTypes := #[44] }, none, true⟩,
  ⟨some 31, .fieldAddr 33 (.tmp 7) 2, none, true⟩,
  ⟨none, .store 3 (.tmp 31) (.tmp 30), none, true⟩]
theorem k20_r6_e : Eo P pr N k20_r6 e σ Q = Eo P pr N [
  ⟨some 29, .move (.tmp 6), none, true⟩,
  ⟨some 30, .call { callee := .value (.func 51), args := #[.tmp 29], argTypes := #[44] }, none, true⟩,
  ⟨some 31, .fieldAddr 33 (.tmp 7) 2, none, true⟩,
  ⟨none, .store 3 (.tmp 31) (.tmp 30), none, true⟩] e σ Q := propext ⟨fun h => h, fun h => h⟩
def k20_r7 : List COp := [
  ⟨some 32, .move (.tmp 6), none, true⟩,
  ⟨some 33, .call { callee := .value (.func 51), args := #[.tmp 32], argTypes := #[44] }, none, true⟩,
  ⟨some 34, .fieldAddr 33 (.tmp 7) 3, none, true⟩,
  ⟨none, .store 3 (.tmp 34) (.tmp 33), none, true⟩]
theorem k20_r7_e : Eo P pr N k20_r7 e σ Q = Eo P pr N [
  ⟨some 32, .move (.tmp 6), none, true⟩,
  ⟨some 33, .call { callee := .value (.func 51), args := #[.tmp 32], argTypes := #[44] }, none, true⟩,
  ⟨some 34, .fieldAddr 33 (.tmp 7) 3, none, true⟩,
  ⟨none, .store 3 (.tmp 34) (.tmp 33), none, true⟩] e σ Q := propext ⟨fun h => h, fun h => h⟩
def k20_r8 : List COp := [
  ⟨some 35, .move (.tmp 6), none, true⟩,
  ⟨some 36, .move (.tmp 6), none, true⟩,
  ⟨some 37, .call { callee := .value (.func 51), args := #[.tmp 36], argTypes := #[44] }, none, true⟩,
  ⟨some 38, .call { callee := .value (.func 52), args := #[.tmp 35, .tmp 37], argTypes := #[44, 3] }, none, true⟩,
  ⟨some 39, .convert 27 9 (.tmp 38), none, true⟩,
  ⟨some 40, .fieldAddr 33 (.tmp 7) 4, none, true⟩,
  ⟨none, .store 9 (.tmp 40) (.tmp 39), none, true⟩]
theorem k20_r8_e : Eo P pr N k20_r8 e σ Q = Eo P pr N [
  ⟨some 35, .move (.tmp 6), none, true⟩,
  ⟨some 36, .move (.tmp 6), none, true⟩,
  ⟨some 37, .call { callee := .value (.func 51), args := #[.tmp 36], argTypes := #[44] }, none, true⟩,
  ⟨some 38, .call { callee := .value (.func 52), args := #[.tmp 35, .tmp 37], argTypes := #[44, 3] }, none, true⟩,
  ⟨some 39, .convert 27 9 (.tmp 38), none, true⟩,
  ⟨some 40, .fieldAddr 33 (.tmp 7) 4, none, true⟩,
  ⟨none, .store 9 (.tmp 40) (.tmp 39), none, true⟩] e σ Q := propext ⟨fun h => h, fun h => h⟩
def k20_r9 : List COp := [
  ⟨some 42, .move (.tmp 6), none, true⟩,
  ⟨some 43, .call { callee := .value (.func 25), args := #[.tmp 42, .const (.int .i64 256)], argTypes := #[44, 3] }, none, true⟩,
  ⟨some 41, .move (.tmp 43), none, true⟩,
  ⟨some 44, .extract (.tmp 41) 0, none, true⟩,
  ⟨some 45, .extract (.tmp 41) 1, none, true⟩,
  ⟨some 8, .assign (.tmp 44), none, true⟩,
  ⟨some 9, .assign (.tmp 45), none, true⟩]
theorem k20_r9_e : Eo P pr N k20_r9 e σ Q = Eo P pr N [
  ⟨some 42, .move (.tmp 6), none, true⟩,
  ⟨some 43, .call { callee := .value (.func 25), args := #[.tmp 42, .const (.int .i64 256)], argTypes := #[44, 3] }, none, true⟩,
  ⟨some 41, .move (.tmp 43), none, true⟩,
  ⟨some 44, .extract (.tmp 41) 0, none, true⟩,
  ⟨some 45, .extract (.tmp 41) 1, none, true⟩,
  ⟨some 8, .assign (.tmp 44), none, true⟩,
  ⟨some 9, .assign (.tmp 45), none, true⟩] e σ Q := propext ⟨fun h => h, fun h => h⟩
def k20_r10 : List COp := [
  ⟨some 46, .move (.tmp 8), none, true⟩,
  ⟨some 47, .fieldAddr 33 (.tmp 7) 5, none, true⟩,
  ⟨none, .store 22 (.tmp 47) (.tmp 46), none, true⟩]
theorem k20_r10_e : Eo P pr N k20_r10 e σ Q = Eo P pr N [
  ⟨some 46, .move (.tmp 8), none, true⟩,
  ⟨some 47, .fieldAddr 33 (.tmp 7) 5, none, true⟩,
  ⟨none, .store 22 (.tmp 47) (.tmp 46), none, true⟩] e σ Q := propext ⟨fun h => h, fun h => h⟩
def k20_r11 : List COp := [
  ⟨some 48, .move (.tmp 9), none, true⟩,
  ⟨some 49, .unOp .not 4 (.tmp 48), none, true⟩,
  ⟨some 50, .move (.tmp 49), none, true⟩,
  ⟨some 51, .move (.tmp 6), some (50, false), true⟩,
  ⟨some 52, .nilCheck (.tmp 51), some (50, false), true⟩,
  ⟨some 53, .fieldAddr 46 (.tmp 52) 1, some (50, false), true⟩,
  ⟨some 54, .load 4 (.tmp 53), some (50, false), true⟩,
  ⟨some 55, .pick (.tmp 50) (.const (.bool true)) (.tmp 54), none, true⟩,
  ⟨some 56, .move (.tmp 55), none, true⟩,
  ⟨some 57, .move (.tmp 6), some (56, false), true⟩,
  ⟨some 58, .nilCheck (.tmp 57), some (56, false), true⟩,
  ⟨some 59, .fieldAddr 46 (.tmp 58) 0, some (56, false), true⟩,
  ⟨some 60, .load 27 (.tmp 59), some (56, false), true⟩,
  ⟨some 61, .call { callee := .builtin .len, args := #[.tmp 60], argTypes := #[27] }, some (56, false), true⟩,
  ⟨some 62, .binOp .gtr 3 (.tmp 61) (.const (.int .i64 0)) 3, some (56, false), true⟩,
  ⟨some 63, .pick (.tmp 56) (.const (.bool true)) (.tmp 62), none, true⟩,
  ⟨some 64, .move (.tmp 63), none, true⟩,
  ⟨some 65, .load 33 (.tmp 7), some (64, false), true⟩,
  ⟨some 66, .move (.tmp 1), some (64, false), true⟩,
  ⟨some 67, .call { callee := .value (.func 48), args := #[.tmp 65, .tmp 66], argTypes := #[33, 3] }, some (64, false), true⟩,
  ⟨some 68, .unOp .not 4 (.tmp 67), some (64, false), true⟩,
  ⟨some 69, .pick (.tmp 64) (.const (.bool true)) (.tmp 68), none, true⟩]
theorem k20_r11_e : Eo P pr N k20_r11 e σ Q = Eo P pr N [
  ⟨some 48, .move (.tmp 9), none, true⟩,
  ⟨some 49, .unOp .not 4 (.tmp 48), none, true⟩,
  ⟨some 50, .move (.tmp 49), none, true⟩,
  ⟨some 51, .move (.tmp 6), some (50, false), true⟩,
  ⟨some 52, .nilCheck (.tmp 51), some (50, false), true⟩,
  ⟨some 53, .fieldAddr 46 (.tmp 52) 1, some (50, false), true⟩,
  ⟨some 54, .load 4 (.tmp 53), some (50, false), true⟩,
  ⟨some 55, .pick (.tmp 50) (.const (.bool true)) (.tmp 54), none, true⟩,
  ⟨some 56, .move (.tmp 55), none, true⟩,
  ⟨some 57, .move (.tmp 6), some (56, false), true⟩,
  ⟨some 58, .nilCheck (.tmp 57), some (56, false), true⟩,
  ⟨some 59, .fieldAddr 46 (.tmp 58) 0, some (56, false), true⟩,
  ⟨some 60, .load 27 (.tmp 59), some (56, false), true⟩,
  ⟨some 61, .call { callee := .builtin .len, args := #[.tmp 60], argTypes := #[27] }, some (56, false), true⟩,
  ⟨some 62, .binOp .gtr 3 (.tmp 61) (.const (.int .i64 0)) 3, some (56, false), true⟩,
  ⟨some 63, .pick (.tmp 56) (.const (.bool true)) (.tmp 62), none, true⟩,
  ⟨some 64, .move (.tmp 63), none, true⟩,
  ⟨some 65, .load 33 (.tmp 7), some (64, false), true⟩,
  ⟨some 66, .move (.tmp 1), some (64, false), true⟩,
  ⟨some 67, .call { callee := .value (.func 48), args := #[.tmp 65, .tmp 66], argTypes := #[33, 3] }, some (64, false), true⟩,
  ⟨some 68, .unOp .not 4 (.tmp 67), some (64, false), true⟩,
  ⟨some 69, .pick (.tmp 64) (.const (.bool true)) (.tmp 68), none, true⟩] e σ Q := propext ⟨fun h => h, fun h => h⟩
def k20_r12 : List COp := [
  ⟨some 70, .build 33 #[], none, true⟩,
  ⟨none, .store 33 (.tmp 4) (.tmp 70), none, true⟩,
  ⟨some 5, .assign (.const (.int .i64 11)), none, true⟩]
theorem k20_r12_e : Eo P pr N k20_r12 e σ Q = Eo P pr N [
  ⟨some 70, .build 33 #[], none, true⟩,
  ⟨none, .store 33 (.tmp 4) (.tmp 70), none, true⟩,
  ⟨some 5, .assign (.const (.int .i64 11)), none, true⟩] e σ Q := propext ⟨fun h => h, fun h => h⟩
def k20_r13 : List COp := [
  ⟨some 71, .load 33 (.tmp 7), none, true⟩,
  ⟨none, .store 33 (.tmp 4) (.tmp 71), none, true⟩,
  ⟨some 5, .assign (.const (.int .i64 0)), none, true⟩]
theorem k20_r13_e : Eo P pr N k20_r13 e σ Q = Eo P pr N [
  ⟨some 71, .load 33 (.tmp 7), none, true⟩,
  ⟨none, .store 33 (.tmp 4) (.tmp 71), none, true⟩,
  ⟨some 5, .assign (.const (.int .i64 0)), none, true⟩] e σ Q := propext ⟨fun h => h, fun h => h⟩
def k20 : CC := (.seq (.region k20_r0) (.seq (.seq (.region k20_r1) (.cond (.tmp 15) (.seq (.region k20_r2) .ret) .skip)) (.seq (.region k20_r3) (.seq (.region k20_r4) (.seq (.region k20_r5) (.seq (.region k20_r6) (.seq (.region k20_r7) (.seq (.region k20_r8) (.seq (.region k20_r9) (.seq (.region k20_r10) (.seq (.seq (.region k20_r11) (.cond (.tmp 69) (.seq (.region k20_r12) .ret) .skip)) (.seq (.region k20_r13) .ret))))))))))))
theorem k20_e : Ev P pr N k20 e σ Q = Ev P pr N (.seq (.region k20_r0) (.seq (.seq (.region k20_r1) (.cond (.tmp 15) (.seq (.region k20_r2) .ret) .skip)) (.seq (.region k20_r3) (.seq (.region k20_r4) (.seq (.region k20_r5) (.seq (.region k20_r6) (.seq (.region k20_r7) (.seq (.region k20_r8) (.seq (.region k20_r9) (.seq (.region k20_r10) (.seq (.seq (.region k20_r11) (.cond (.tmp 69) (.seq (.region k20_r12) .ret) .skip)) (.seq (.region k20_r13) .ret)))))))))))) e σ Q := propext ⟨fun h => h, fun h => h⟩
/-- quern/quernref21.Decode -/
theorem k20_is : FnIs Try.prog noPrim 20 72 [ResultVar.cell 4 33, ResultVar.tmp 5] k20 := FnIs.of_fn Try.func20 (by kernel_rfl)
def k21_r0 : List COp := [
  ⟨some 4, .assign (.const (.slice .none 0 0)), none, true⟩]
theorem k21_r0_e : Eo P pr N k21_r0 e σ Q = Eo P pr N [
  ⟨some 4, .assign (.const (.slice .none 0 0)), none, true⟩] e σ Q := propext ⟨fun h => h, fun h => h⟩
def k21_r1 : List COp := [
  ⟨some 9, .move (.tmp 0), none, true⟩,
  ⟨some 10, .move (.tmp 1), none, true⟩,
  ⟨some 11, .call { callee := .builtin .len, args := #[.tmp 10], argTypes := #[22] }, none, true⟩,
  ⟨some 12, .buildSlice 81 1 #[(0, .tmp 11)], none, true⟩,
  ⟨some 13, .call { callee := .value (.func 40), args := #[.tmp 9, .tmp 12], argTypes := #[27, 81] }, none, true⟩,
  ⟨some 0, .assign (.tmp 13), none, true⟩]
theorem k21_r1_e : Eo P pr N k21_r1 e σ Q = Eo P pr N [
  ⟨some 9, .move (.tmp 0), none, true⟩,
  ⟨some 10, .move (.tmp 1), none, true⟩,
  ⟨some 11, .call { callee := .builtin .len, args := #[.tmp 10], argTypes := #[22] }, none, true⟩,
  ⟨some 12, .buildSlice 81 1 #[(0, .tmp 11)], none, true⟩,
  ⟨some 13, .call { callee := .value (.func 40), args := #[.tmp 9, .tmp 12], argTypes := #[27, 81] }, none, true⟩,
  ⟨some 0, .assign (.tmp 13), none, true⟩] e σ Q := propext ⟨fun h => h, fun h => h⟩
def k21_r2 : List COp := [
  ⟨some 14, .move (.tmp 1), none, true⟩,
  ⟨some 15, .call { callee := .builtin .len, args := #[.tmp 14], argTypes := #[22] }, none, true⟩,
  ⟨some 16, .move (.const (.int .i64 0)), none, true⟩]
theorem k21_r2_e : Eo P pr N k21_r2 e σ Q = Eo P pr N [
  ⟨some 14, .move (.tmp 1), none, true⟩,
  ⟨some 15, .call { callee := .builtin .len, args := #[.tmp 14], argTypes := #[22] }, none, true⟩,
  ⟨some 16, .move (.const (.int .i64 0)), none, true⟩] e σ Q := propext ⟨fun h => h, fun h => h⟩
def k21_r3 : List COp := [
  ⟨some 17, .binOp .lss 3 (.tmp 16) (.tmp 15) 3, none, true⟩]
theorem k21_r3_e : Eo P pr N k21_r3 e σ Q = Eo P pr N [
  ⟨some 17, .binOp .lss 3 (.tmp 16) (.tmp 15) 3, none, true⟩] e σ Q := propext ⟨fun h => h, fun h => h⟩
def k21_r4 : List COp := [
  ⟨some 18, .indexAddr 22 (.tmp 14) (.tmp 16), none, true⟩,
  ⟨some 19, .load 66 (.tmp 18), none, true⟩,
  ⟨some 6, .alloc 66, none, true⟩,
  ⟨none, .store 66 (.tmp 6) (.tmp 19), none, true⟩]
theorem k21_r4_e : Eo P pr N k21_r4 e σ Q = Eo P pr N [
  ⟨some 18, .indexAddr 22 (.tmp 14) (.tmp 16), none, true⟩,
  ⟨some 19, .load 66 (.tmp 18), none, true⟩,
  ⟨some 6, .alloc 66, none, true⟩,
  ⟨none, .store 66 (.tmp 6) (.tmp 19), none, true⟩] e σ Q := propext ⟨fun h => h, fun h => h⟩
def k21_r5 : List COp := [
  ⟨some 21, .fieldAddr 66 (.tmp 6) 1, none, true⟩,
  ⟨some 22, .load 64 (.tmp 21), none, true⟩,
  ⟨some 23, .call { callee := .value (.func 53), args := #[.tmp 22], argTypes := #[64] }, none, true⟩,
  ⟨some 20, .move (.tmp 23), none, true⟩,
  ⟨some 24, .extract (.tmp 20) 0, none, true⟩,
  ⟨some 25, .extract (.tmp 20) 1, none, true⟩,
  ⟨some 7, .assign (.tmp 24), none, true⟩,
  ⟨some 8, .assign (.tmp 25), none, true⟩]
theorem k21_r5_e : Eo P pr N k21_r5 e σ Q = Eo P pr N [
  ⟨some 21, .fieldAddr 66 (.tmp 6) 1, none, true⟩,
  ⟨some 22, .load 64 (.tmp 21), none, true⟩,
  ⟨some 23, .call { callee := .value (.func 53), args := #[.tmp 22], argTypes := #[64] }, none, true⟩,
  ⟨some 20, .move (.tmp 23), none, true⟩,
  ⟨some 24, .extract (.tmp 20) 0, none, true⟩,
  ⟨some 25, .extract (.tmp 20) 1, none, true⟩,
  ⟨some 7, .assign (.tmp 24), none, true⟩,
  ⟨some 8, .assign (.tmp 25), none, true⟩] e σ Q := propext ⟨fun h => h, fun h => h⟩
def k21_r6 : List COp := [
  ⟨some 26, .move (.tmp 0), none, false⟩,
  ⟨some 27, .fieldAddr 66 (.tmp 6) 0, none, false⟩,
  ⟨some 28, .load 3 (.tmp 27), none, false⟩,
  ⟨some 29, .buildSlice 81 1 #[(0, .tmp 28)], none, false⟩,
  ⟨some 30, .call { callee := .value (.func 40), args := #[.tmp 26, .tmp 29], argTypes := #[27, 81] }, none, false⟩,
  ⟨some 31, .move (.tmp 7), none, true⟩,
  ⟨some 32, .convert 27 9 (.tmp 31), none, true⟩,
  ⟨some 33, .call { callee := .value (.func 43), args := #[.tmp 30, .tmp 32], argTypes := #[27, 9] }, none, true⟩,
  ⟨some 0, .assign (.tmp 33), none, true⟩]
theorem k21_r6_e : Eo P pr N k21_r6 e σ Q = Eo P pr N [
  ⟨some 26, .move (.tmp 0), none, false⟩,
  ⟨some 27, .fieldAddr 66 (.tmp 6) 0, none, false⟩,
  ⟨some 28, .load 3 (.tmp 27), none, false⟩,
  ⟨some 29, .buildSlice 81 1 #[(0, .tmp 28)], none, false⟩,
  ⟨some 30, .call { callee := .value (.func 40), args := #[.tmp 26, .tmp 29], argTypes := #[27, 81] }, none, false⟩,
  ⟨some 31, .move (.tmp 7), none, true⟩,
  ⟨some 32, .convert 27 9 (.tmp 31), none, true⟩,
  ⟨some 33, .call { callee := .value (.func 43), args := #[.tmp 30, .tmp 32], argTypes := #[27, 9] }, none, true⟩,
  ⟨some 0, .assign (.tmp 33), none, true⟩] e σ Q := propext ⟨fun h => h, fun h => h⟩
def k21_r7 : List COp := [
  ⟨some 34, .binOp .add 3 (.tmp 16) (.const (.int .i64 1)) 3, none, true⟩,
  ⟨some 16, .move (.tmp 34), none, true⟩]
theorem k21_r7_e : Eo P pr N k21_r7 e σ Q = Eo P pr N [
  ⟨some 34, .binOp .add 3 (.tmp 16) (.const (.int .i64 1)) 3, none, true⟩,
  ⟨some 16, .move (.tmp 34), none, true⟩] e σ Q := propext ⟨fun h => h, fun h => h⟩
def k21_l0 : CC := (.seq (.region k21_r3) (.seq (.cond (.tmp 17) .skip (.exit 0)) (.seq (.block 1 (.seq (.region k21_r4) (.seq (.region k21_r5) (.region k21_r6)))) (.region k21_r7))))
theorem k21_l0_e : Ev P pr N k21_l0 e σ Q = Ev P pr N (.seq (.region k21_r3) (.seq (.cond (.tmp 17) .skip (.exit 0)) (.seq (.block 1 (.seq (.region k21_r4) (.seq (.region k21_r5) (.region k21_r6)))) (.region k21_r7)))) e σ Q := propext ⟨fun h => h, fun h => h⟩
def k21_r8 : List COp := [
  ⟨some 35, .move (.tmp 0), none, true⟩,
  ⟨some 4, .assign (.tmp 35), none, true⟩]
theorem k21_r8_e : Eo P pr N k21_r8 e σ Q = Eo P pr N [
  ⟨some 35, .move (.tmp 0), none, true⟩,
  ⟨some 4, .assign (.tmp 35), none, true⟩] e σ Q := propext ⟨fun h => h, fun h => h⟩
def k21 : CC := (.seq (.region k21_r0) (.seq (.region k21_r1) (.seq (.seq (.region k21_r2) (.block 0 (.loop k21_l0))) (.seq (.region k21_r8) .ret))))
theorem k21_e : Ev P pr N k21 e σ Q = Ev P pr N (.seq (.region k21_r0) (.seq (.region k21_r1) (.seq (.seq (.region k21_r2) (.block 0 (.loop k21_l0))) (.seq (.region k21_r8) .ret)))) e σ Q := propext ⟨fun h => h, fun h => h⟩
/-- quern/store.Items -/
theorem k21_is : FnIs Try.prog noPrim 21 36 [ResultVar.tmp 4] k21 := FnIs.of_fn Try.func21 (by kernel_rfl)
def k22_r0 : List COp := [
  ⟨some 4, .assign (.const (.slice .none 0 0)), none, true⟩]
theorem k22_r0_e : Eo P pr N k22_r0 e σ Q = Eo P pr N [
  ⟨some 4, .assign (.const (.slice .none 0 0)), none, true⟩] e σ Q := propext ⟨fun h => h, fun h => h⟩
def k22_r1 : List COp := [
  ⟨some 10, .move (.tmp 0), none, true⟩,
  ⟨some 11, .move (.tmp 1), none, true⟩,
  ⟨some 12, .call { callee := .builtin .len, args := #[.tmp 11], argTypes := #[22] }, none, true⟩,
  ⟨some 13, .call { callee := .value (.func 49), args := #[.tmp 10, .tmp 12], argTypes := #[27, 3] }, none, true⟩,
  ⟨some 5, .assign (.tmp 13), none, true⟩]
theorem k22_r1_e : Eo P pr N k22_r1 e σ Q = Eo P pr N [
  ⟨some 10, .move (.tmp 0), none, true⟩,
  ⟨some 11, .move (.tmp 1), none, true⟩,
  ⟨some 12, .call { callee := .builtin .len, args := #[.tmp 11], argTypes := #[22] }, none, true⟩,
  ⟨some 13, .call { callee := .value (.func 49), args := #[.tmp 10, .tmp 12], argTypes := #[27, 3] }, none, true⟩,
  ⟨some 5, .assign (.tmp 13), none, true⟩] e σ Q := propext ⟨fun h => h, fun h => h⟩
def k22_r2 : List COp := [
  ⟨some 14, .move (.tmp 1), none, true⟩,
  ⟨some 15, .call { callee := .builtin .len, args := #[.tmp 14], argTypes := #[22] }, none, true⟩,
  ⟨some 16, .move (.const (.int .i64 0)), none, true⟩]
theorem k22_r2_e : Eo P pr N k22_r2 e σ Q = Eo P pr N [
  ⟨some 14, .move (.tmp 1), none, true⟩,
  ⟨some 15, .call { callee := .builtin .len, args := #[.tmp 14], argTypes := #[22] }, none, true⟩,
  ⟨some 16, .move (.const (.int .i64 0)), none, true⟩] e σ Q := propext ⟨fun h => h, fun h => h⟩
def k22_r3 : List COp := [
  ⟨some 17, .binOp .lss 3 (.tmp 16) (.tmp 15) 3, none, true⟩]
theorem k22_r3_e : Eo P pr N k22_r3 e σ Q = Eo P pr N [
  ⟨some 17, .binOp .lss 3 (.tmp 16) (.tmp 15) 3, none, true⟩] e σ Q := propext ⟨fun h => h, fun h => h⟩
def k22_r4 : List COp := [
  ⟨some 18, .indexAddr 22 (.tmp 14) (.tmp 16), none, true⟩,
  ⟨some 19, .load 66 (.tmp 18), none, true⟩,
  ⟨some 7, .alloc 66, none, true⟩,
  ⟨none, .store 66 (.tmp 7) (.tmp 19), none, true⟩]
theorem k22_r4_e : Eo P pr N k22_r4 e σ Q = Eo P pr N [
  ⟨some 18, .indexAddr 22 (.tmp 14) (.tmp 16), none, true⟩,
  ⟨some 19, .load 66 (.tmp 18), none, true⟩,
  ⟨some 7, .alloc 66, none, true⟩,
  ⟨none, .store 66 (.tmp 7) (.tmp 19), none, true⟩] e σ Q := propext ⟨fun h => h, fun h => h⟩
def k22_r5 : List COp := [
  ⟨some 21, .fieldAddr 66 (.tmp 7) 1, none, true⟩,
  ⟨some 22, .load 64 (.tmp 21), none, true⟩,
  ⟨some 23, .call { callee := .value (.func 54), args := #[.tmp 22], argTypes := #[64] }, none, true⟩,
  ⟨some 20, .move (.tmp 23), none, true⟩,
  ⟨some 24, .extract (.tmp 20) 0, none, true⟩,
  ⟨some 25, .extract (.tmp 20) 1, none, true⟩,
  ⟨some 8, .assign (.tmp 24), none, true⟩,
  ⟨some 9, .assign (.tmp 25), none, true⟩]
theorem k22_r5_e : Eo P pr N k22_r5 e σ Q = Eo P pr N [
  ⟨some 21, .fieldAddr 66 (.tmp 7) 1, none, true⟩,
  ⟨some 22, .load 64 (.tmp 21), none, true⟩,
  ⟨some 23, .call { callee := .value (.func 54), args := #[.tmp 22], argTypes := #[64] }, none, true⟩,
  ⟨some 20, .move (.tmp 23), none, true⟩,
  ⟨some 24, .extract (.tmp 20) 0, none, true⟩,
  ⟨some 25, .extract (.tmp 20) 1, none, true⟩,
  ⟨some 8, .assign (.tmp 24), none, true⟩,
  ⟨some 9, .assign (.tmp 25), none, true⟩] e σ Q := propext ⟨fun h => h, fun h => h⟩
def k22_r6 : List COp := [
  ⟨some 26, .move (.tmp 5), none, false⟩,
  ⟨some 27, .fieldAddr 66 (.tmp 7) 0, none, false⟩,
  ⟨some 28, .load 3 (.tmp 27), none, false⟩,
  ⟨some 29, .call { callee := .value (.func 49), args := #[.tmp 26, .tmp 28], argTypes := #[27, 3] }, none, false⟩,
  ⟨some 30, .move (.tmp 8), none, true⟩,
  ⟨some 31, .convert 27 9 (.tmp 30), none, true⟩,
  ⟨some 32, .call { callee := .value (.func 50), args := #[.tmp 29, .tmp 31], argTypes := #[27, 9] }, none, true⟩,
  ⟨some 5, .assign (.tmp 32), none, true⟩]
theorem k22_r6_e : Eo P pr N k22_r6 e σ Q = Eo P pr N [
  ⟨some 26, .move (.tmp 5), none, false⟩,
  ⟨some 27, .fieldAddr 66 (.tmp 7) 0, none, false⟩,
  ⟨some 28, .load 3 (.tmp 27), none, false⟩,
  ⟨some 29, .call { callee := .value (.func 49), args := #[.tmp 26, .tmp 28], argTypes := #[27, 3] }, none, false⟩,
  ⟨some 30, .move (.tmp 8), none, true⟩,
  ⟨some 31, .convert 27 9 (.tmp 30), none, true⟩,
  ⟨some 32, .call { callee := .value (.func 50), args := #[.tmp 29, .tmp 31], argTypes := #[27, 9] }, none, true⟩,
  ⟨some 5, .assign (.tmp 32), none, true⟩] e σ Q := propext ⟨fun h => h, fun h => h⟩
def k22_r7 : List COp := [
  ⟨some 33, .binOp .add 3 (.tmp 16) (.const (.int .i64 1)) 3, none, true⟩,
  ⟨some 16, .move (.tmp 33), none, true⟩]
theorem k22_r7_e : Eo P pr N k22_r7 e σ Q = Eo P pr N [
  ⟨some 33, .binOp .add 3 (.tmp 16) (.const (.int .i64 1)) 3, none, true⟩,
  ⟨some 16, .move (.tmp 33), none, true⟩] e σ Q := propext ⟨fun h => h, fun h => h⟩
def k22_l0 : CC := (.seq (.region k22_r3) (.seq (.cond (.tmp 17) .skip (.exit 0)) (.seq (.block 1 (.seq (.region k22_r4) (.seq (.region k22_r5) (.region k22_r6)))) (.region k22_r7))))
theorem k22_l0_e : Ev P pr N k22_l0 e σ Q = Ev P pr N (.seq (.region k22_r3) (.seq (.cond (.tmp 17) .skip (.exit 0)) (.seq (.block 1 (.seq (.region k22_r4) (.seq (.region k22_r5) (.region k22_r6)))) (.region k22_r7)))) e σ Q := propext ⟨fun h => h, fun h => h⟩
def k22_r8 : List COp := [
  ⟨some 34, .move (.tmp 5), none, true⟩,
  ⟨some 4, .assign (.tmp 34), none, true⟩]
theorem k22_r8_e : Eo P pr N k22_r8 e σ Q = Eo P pr N [
  ⟨some 34, .move (.tmp 5), none, true⟩,
  ⟨some 4, .assign (.tmp 34), none, true⟩] e σ Q := propext ⟨fun h => h, fun h => h⟩
def k22 : CC := (.seq (.region k22_r0) (.seq (.region k22_r1) (.seq (.seq (.region k22_r2) (.block 0 (.loop k22_l0))) (.seq (.region k22_r8) .ret))))
theorem k22_e : Ev P pr N k22 e σ Q = Ev P pr N (.seq (.region k22_r0) (.seq (.region k22_r1) (.seq (.seq (.region k22_r2) (.block 0 (.loop k22_l0))) (.seq (.region k22_r8) .ret)))) e σ Q := propext ⟨fun h => h, fun h => h⟩
/-- quern/quernref21.Items -/
theorem k22_is : FnIs Try.prog noPrim 22 35 [ResultVar.tmp 4] k22 := FnIs.of_fn Try.func22 (by kernel_rfl)
def k23_r0 : List COp := [
  ⟨some 2, .assign (.const (.pointer .none)), none, true⟩]
theorem k23_r0_e : Eo P pr N k23_r0 e σ Q = Eo P pr N [
  ⟨some 2, .assign (.const (.pointer .none)), none, true⟩] e σ Q := propext ⟨fun h => h, fun h => h⟩
def k23_r1 : List COp := [
  ⟨some 3, .buildSlice 27 0 #[], none, true⟩,
  ⟨some 4, .move (.tmp 0), none, true⟩,
  ⟨some 5, .call { callee := .builtin .append, args := #[.tmp 3, .tmp 4], argTypes := #[27, 27] }, none, true⟩,
  ⟨some 6, .build 78 #[(0, .tmp 5)], none, true⟩,
  ⟨some 7, .box 78 (.tmp 6), none, true⟩,
  ⟨some 2, .assign (.tmp 7), none, true⟩]
theorem k23_r1_e : Eo P pr N k23_r1 e σ Q = Eo P pr N [
  ⟨some 3, .buildSlice 27 0 #[], none, true⟩,
  ⟨some 4, .move (.tmp 0), none, true⟩,
  ⟨some 5, .call { callee := .builtin .append, args := #[.tmp 3, .tmp 4], argTypes := #[27, 27] }, none, true⟩,
  ⟨some 6, .build 78 #[(0, .tmp 5)], none, true⟩,
  ⟨some 7, .box 78 (.tmp 6), none, true⟩,
  ⟨some 2, .assign (.tmp 7), none, true⟩] e σ Q := propext ⟨fun h => h, fun h => h⟩
def k23 : CC := (.seq (.region k23_r0) (.seq (.region k23_r1) .ret))
theorem k23_e : Ev P pr N k23 e σ Q = Ev P pr N (.seq (.region k23_r0) (.seq (.region k23_r1) .ret)) e σ Q := propext ⟨fun h => h, fun h => h⟩
/-- quern/pack.New -/
theorem k23_is : FnIs Try.prog noPrim 23 8 [ResultVar.tmp 2] k23 := FnIs.of_fn Try.func23 (by kernel_rfl)
def k24_r0 : List COp := [
  ⟨some 4, .assign (.const (.slice .none 0 0)), none, true⟩,
  ⟨some 5, .assign (.const (.bool false)), none, true⟩]
theorem k24_r0_e : Eo P pr N k24_r0 e σ Q = Eo P pr N [
  ⟨some 4, .assign (.const (.slice .none 0 0)), none, true⟩,
  ⟨some 5, .assign (.const (.bool false)), none, true⟩] e σ Q := propext ⟨fun h => h, fun h => h⟩
def k24_r1 : List COp := [
  ⟨some 11, .move (.tmp 0), none, true⟩,
  ⟨some 12, .call { callee := .value (.func 44), args := #[.tmp 11], argTypes := #[42] }, none, true⟩,
  ⟨some 6, .assign (.tmp 12), none, true⟩]
theorem k24_r1_e : Eo P pr N k24_r1 e σ Q = Eo P pr N [
  ⟨some 11, .move (.tmp 0), none, true⟩,
  ⟨some 12, .call { callee := .value (.func 44), args := #[.tmp 11], argTypes := #[42] }, none, true⟩,
  ⟨some 6, .assign (.tmp 12), none, true⟩] e σ Q := propext ⟨fun h => h, fun h => h⟩
def k24_r2 : List COp := [
  ⟨some 13, .move (.tmp 6), none, true⟩,
  ⟨some 14, .move (.tmp 1), none, true⟩,
  ⟨some 15, .binOp .gtr 3 (.tmp 13) (.tmp 14) 3, none, true⟩]
theorem k24_r2_e : Eo P pr N k24_r2 e σ Q = Eo P pr N [
  ⟨some 13, .move (.tmp 6), none, true⟩,
  ⟨some 14, .move (.tmp 1), none, true⟩,
  ⟨some 15, .binOp .gtr 3 (.tmp 13) (.tmp 14) 3, none, true⟩] e σ Q := propext ⟨fun h => h, fun h => h⟩
def k24_r3 : List COp := [
  ⟨some 4, .assign (.const (.slice .none 0 0)), none, true⟩,
  ⟨some 5, .assign (.const (.bool false)), none, true⟩]
theorem k24_r3_e : Eo P pr N k24_r3 e σ Q = Eo P pr N [
  ⟨some 4, .assign (.const (.slice .none 0 0)), none, true⟩,
  ⟨some 5, .assign (.const (.bool false)), none, true⟩] e σ Q := propext ⟨fun h => h, fun h => h⟩
def k24_r4 : List COp := [
  ⟨some 7, .assign (.const (.slice .none 0 0)), none, true⟩]
theorem k24_r4_e : Eo P pr N k24_r4 e σ Q = Eo P pr N [
  ⟨some 7, .assign (.const (.slice .none 0 0)), none, true⟩] e σ Q := propext ⟨fun h => h, fun h => h⟩
def k24_r5 : List COp := [
  ⟨some 16, .move (.tmp 6), none, true⟩,
  ⟨some 17, .move (.const (.int .i64 0)), none, true⟩]
theorem k24_r5_e : Eo P pr N k24_r5 e σ Q = Eo P pr N [
  ⟨some 16, .move (.tmp 6), none, true⟩,
  ⟨some 17, .move (.const (.int .i64 0)), none, true⟩] e σ Q := propext ⟨fun h => h, fun h => h⟩
def k24_r6 : List COp := [
  ⟨some 18, .binOp .lss 3 (.tmp 17) (.tmp 16) 3, none, true⟩]
theorem k24_r6_e : Eo P pr N k24_r6 e σ Q = Eo P pr N [
  ⟨some 18, .binOp .lss 3 (.tmp 17) (.tmp 16) 3, none, true⟩] e σ Q := propext ⟨fun h => h, fun h => h⟩
def k24_r7 : List COp := [
  ⟨some 19, .move (.tmp 0), none, true⟩,
  ⟨some 20, .call { callee := .value (.func 44), args := #[.tmp 19], argTypes := #[42] }, none, true⟩,
  ⟨some 8, .assign (.tmp 20), none, true⟩]
theorem k24_r7_e : Eo P pr N k24_r7 e σ Q = Eo P pr N [
  ⟨some 19, .move (.tmp 0), none, true⟩,
  ⟨some 20, .call { callee := .value (.func 44), args := #[.tmp 19], argTypes := #[42] }, none, true⟩,
  ⟨some 8, .assign (.tmp 20), none, true⟩] e σ Q := propext ⟨fun h => h, fun h => h⟩
def k24_r8 : List COp := [
  ⟨some 22, .move (.tmp 0), none, true⟩,
  ⟨some 23, .move (.tmp 0), none, true⟩,
  ⟨some 24, .call { callee := .value (.func 44), args := #[.tmp 23], argTypes := #[42] }, none, true⟩,
  ⟨some 25, .call { callee := .value (.func 45), args := #[.tmp 22, .tmp 24], argTypes := #[42, 3] }, none, true⟩,
  ⟨some 26, .call { callee := .value (.func 55), args := #[.tmp 25], argTypes := #[27] }, none, true⟩,
  ⟨some 21, .move (.tmp 26), none, true⟩,
  ⟨some 27, .extract (.tmp 21) 0, none, true⟩,
  ⟨some 28, .extract (.tmp 21) 1, none, true⟩,
  ⟨some 9, .alloc 64, none, true⟩,
  ⟨none, .store 64 (.tmp 9) (.tmp 27), none, true⟩,
  ⟨some 10, .assign (.tmp 28), none, true⟩]
theorem k24_r8_e : Eo P pr N k24_r8 e σ Q = Eo P pr N [
  ⟨some 22, .move (.tmp 0), none, true⟩,
  ⟨some 23, .move (.tmp 0), none, true⟩,
  ⟨some 24, .call { callee := .value (.func 44), args := #[.tmp 23], argTypes := #[42] }, none, true⟩,
  ⟨some 25, .call { callee := .value (.func 45), args := #[.tmp 22, .tmp 24], argTypes := #[42, 3] }, none, true⟩,
  ⟨some 26, .call { callee := .value (.func 55), args := #[.tmp 25], argTypes := #[27] }, none, true⟩,
  ⟨some 21, .move (.tmp 26), none, true⟩,
  ⟨some 27, .extract (.tmp 21) 0, none, true⟩,
  ⟨some 28, .extract (.tmp 21) 1, none, true⟩,
  ⟨some 9, .alloc 64, none, true⟩,
  ⟨none, .store 64 (.tmp 9) (.tmp 27), none, true⟩,
  ⟨some 10, .assign (.tmp 28), none, true⟩] e σ Q := propext ⟨fun h => h, fun h => h⟩
def k24_r9 : List COp := [
  ⟨some 29, .move (.tmp 10), none, true⟩,
  ⟨some 30, .binOp .neq 28 (.tmp 29) (.const (.int .i64 0)) 28, none, true⟩]
theorem k24_r9_e : Eo P pr N k24_r9 e σ Q = Eo P pr N [
  ⟨some 29, .move (.tmp 10), none, true⟩,
  ⟨some 30, .binOp .neq 28 (.tmp 29) (.const (.int .i64 0)) 28, none, true⟩] e σ Q := propext ⟨fun h => h, fun h => h⟩
def k24_r10 : List COp := [
  ⟨some 4, .assign (.const (.slice .none 0 0)), none, true⟩,
  ⟨some 5, .assign (.const (.bool false)), none, true⟩]
theorem k24_r10_e : Eo P pr N k24_r10 e σ Q = Eo P pr N [
  ⟨some 4, .assign (.const (.slice .none 0 0)), none, true⟩,
  ⟨some 5, .assign (.const (.bool false)), none, true⟩] e σ Q := propext ⟨fun h => h, fun h => h⟩
def k24_r11 : List COp := [
  ⟨some 31, .move (.tmp 7), none, true⟩,
  ⟨some 32, .move (.tmp 8), none, true⟩,
  ⟨some 33, .load 64 (.tmp 9), none, true⟩,
  ⟨some 34, .build 66 #[(0, .tmp 32), (1, .tmp 33)], none, true⟩,
  ⟨some 35, .buildSlice 22 1 #[(0, .tmp 34)], none, true⟩,
  ⟨some 36, .call { callee := .builtin .append, args := #[.tmp 31, .tmp 35], argTypes := #[22, 22] }, none, true⟩,
  ⟨some 7, .assign (.tmp 36), none, true⟩]
theorem k24_r11_e : Eo P pr N k24_r11 e σ Q = Eo P pr N [
  ⟨some 31, .move (.tmp 7), none, true⟩,
  ⟨some 32, .move (.tmp 8), none, true⟩,
  ⟨some 33, .load 64 (.tmp 9), none, true⟩,
  ⟨some 34, .build 66 #[(0, .tmp 32), (1, .tmp 33)], none, true⟩,
  ⟨some 35, .buildSlice 22 1 #[(0, .tmp 34)], none, true⟩,
  ⟨some 36, .call { callee := .builtin .append, args := #[.tmp 31, .tmp 35], argTypes := #[22, 22] }, none, true⟩,
  ⟨some 7, .assign (.tmp 36), none, true⟩] e σ Q := propext ⟨fun h => h, fun h => h⟩
def k24_r12 : List COp := [
  ⟨some 37, .binOp .add 3 (.tmp 17) (.const (.int .i64 1)) 3, none, true⟩,
  ⟨some 17, .move (.tmp 37), none, true⟩]
theorem k24_r12_e : Eo P pr N k24_r12 e σ Q = Eo P pr N [
  ⟨some 37, .binOp .add 3 (.tmp 17) (.const (.int .i64 1)) 3, none, true⟩,
  ⟨some 17, .move (.tmp 37), none, true⟩] e σ Q := propext ⟨fun h => h, fun h => h⟩
def k24_l0 : CC := (.seq (.region k24_r6) (.seq (.cond (.tmp 18) .skip (.exit 0)) (.seq (.block 1 (.seq (.region k24_r7) (.seq (.region k24_r8) (.seq (.seq (.region k24_r9) (.cond (.tmp 30) (.seq (.region k24_r10) .ret) .skip)) (.region k24_r11))))) (.region k24_r12))))
theorem k24_l0_e : Ev P pr N k24_l0 e σ Q = Ev P pr N (.seq (.region k24_r6) (.seq (.cond (.tmp 18) .skip (.exit 0)) (.seq (.block 1 (.seq (.region k24_r7) (.seq (.region k24_r8) (.seq (.seq (.region k24_r9) (.cond (.tmp 30) (.seq (.region k24_r10) .ret) .skip)) (.region k24_r11))))) (.region k24_r12)))) e σ Q := propext ⟨fun h => h, fun h => h⟩
def k24_r13 : List COp := [
  ⟨some 38, .move (.tmp 7), none, true⟩,
  ⟨some 39, .move (.tmp 0), none, true⟩,
  ⟨some 40, .call { callee := .value (.func 56), args := #[.tmp 39], argTypes := #[42] }, none, true⟩,
  ⟨some 41, .unOp .not 4 (.tmp 40), none, true⟩,
  ⟨some 4, .assign (.tmp 38), none, true⟩,
  ⟨some 5, .assign (.tmp 41), none, true⟩]
theorem k24_r13_e : Eo P pr N k24_r13 e σ Q = Eo P pr N [
  ⟨some 38, .move (.tmp 7), none, true⟩,
  ⟨some 39, .move (.tmp 0), none, true⟩,
  ⟨some 40, .call { callee := .value (.func 56), args := #[.tmp 39], argTypes := #[42] }, none, true⟩,
  ⟨some 41, .unOp .not 4 (.tmp 40), none, true⟩,
  ⟨some 4, .assign (.tmp 38), none, true⟩,
  ⟨some 5, .assign (.tmp 41), none, true⟩] e σ Q := propext ⟨fun h => h, fun h => h⟩
def k24 : CC := (.seq (.region k24_r0) (.seq (.region k24_r1) (.seq (.seq (.region k24_r2) (.cond (.tmp 15) (.seq (.region k24_r3) .ret) .skip)) (.seq (.region k24_r4) (.seq (.seq (.region k24_r5) (.block 0 (.loop k24_l0))) (.seq (.region k24_r13) .ret))))))
theorem k24_e : Ev P pr N k24 e σ Q = Ev P pr N (.seq (.region k24_r0) (.seq (.region k24_r1) (.seq (.seq (.region k24_r2) (.cond (.tmp 15) (.seq (.region k24_r3) .ret) .skip)) (.seq (.region k24_r4) (.seq (.seq (.region k24_r5) (.block 0 (.loop k24_l0))) (.seq (.region k24_r13) .ret)))))) e σ Q := propext ⟨fun h => h, fun h => h⟩
/-- quern/store.ReadItems -/
theorem k24_is : FnIs Try.prog noPrim 24 42 [ResultVar.tmp 4, ResultVar.tmp 5] k24 := FnIs.of_fn Try.func24 (by kernel_rfl)
def k25_r0 : List COp := [
  ⟨some 4, .assign (.const (.slice .none 0 0)), none, true⟩,
  ⟨some 5, .assign (.const (.bool false)), none, true⟩]
theorem k25_r0_e : Eo P pr N k25_r0 e σ Q = Eo P pr N [
  ⟨some 4, .assign (.const (.slice .none 0 0)), none, true⟩,
  ⟨some 5, .assign (.const (.bool false)), none, true⟩] e σ Q := propext ⟨fun h => h, fun h => h⟩
def k25_r1 : List COp := [
  ⟨some 13, .move (.tmp 0), none, true⟩,
  ⟨some 14, .call { callee := .value (.func 51), args := #[.tmp 13], argTypes := #[44] }, none, true⟩,
  ⟨some 6, .assign (.tmp 14), none, true⟩]
theorem k25_r1_e : Eo P pr N k25_r1 e σ Q = Eo P pr N [
  ⟨some 13, .move (.tmp 0), none, true⟩,
  ⟨some 14, .call { callee := .value (.func 51), args := #[.tmp 13], argTypes := #[44] }, none, true⟩,
  ⟨some 6, .assign (.tmp 14), none, true⟩] e σ Q := propext ⟨fun h => h, fun h => h⟩
def k25_r2 : List COp := [
  ⟨some 15, .move (.tmp 0), none, true⟩,
  ⟨some 16, .nilCheck (.tmp 15), none, true⟩,
  ⟨some 17, .fieldAddr 46 (.tmp 16) 1, none, true⟩,
  ⟨some 18, .load 4 (.tmp 17), none, true⟩,
  ⟨some 19, .move (.tmp 18), none, true⟩,
  ⟨some 20, .move (.tmp 6), some (19, false), true⟩,
  ⟨some 21, .move (.tmp 1), some (19, false), true⟩,
  ⟨some 22, .binOp .gtr 3 (.tmp 20) (.tmp 21) 3, some (19, false), true⟩,
  ⟨some 23, .pick (.tmp 19) (.const (.bool true)) (.tmp 22), none, true⟩]
theorem k25_r2_e : Eo P pr N k25_r2 e σ Q = Eo P pr N [
  ⟨some 15, .move (.tmp 0), none, true⟩,
  ⟨some 16, .nilCheck (.tmp 15), none, true⟩,
  ⟨some 17, .fieldAddr 46 (.tmp 16) 1, none, true⟩,
  ⟨some 18, .load 4 (.tmp 17), none, true⟩,
  ⟨some 19, .move (.tmp 18), none, true⟩,
  ⟨some 20, .move (.tmp 6), some (19, false), true⟩,
  ⟨some 21, .move (.tmp 1), some (19, false), true⟩,
  ⟨some 22, .binOp .gtr 3 (.tmp 20) (.tmp 21) 3, some (19, false), true⟩,
  ⟨some 23, .pick (.tmp 19) (.const (.bool true)) (.tmp 22), none, true⟩] e σ Q := propext ⟨fun h => h, fun h => h⟩
def k25_r3 : List COp := [
  ⟨some 4, .assign (.const (.slice .none 0 0)), none, true⟩,
  ⟨some 5, .assign (.const (.bool false)), none, true⟩]
theorem k25_r3_e : Eo P pr N k25_r3 e σ Q = Eo P pr N [
  ⟨some 4, .assign (.const (.slice .none 0 0)), none, true⟩,
  ⟨some 5, .assign (.const (.bool false)), none, true⟩] e σ Q := propext ⟨fun h => h, fun h => h⟩
def k25_r4 : List COp := [
  ⟨some 7, .assign (.const (.slice .none 0 0)), none, true⟩]
theorem k25_r4_e : Eo P pr N k25_r4 e σ Q = Eo P pr N [
  ⟨some 7, .assign (.const (.slice .none 0 0)), none, true⟩] e σ Q := propext ⟨fun h => h, fun h => h⟩
def k25_r5 : List COp := [
  ⟨some 8, .assign (.const (.int .i64 0)), none, true⟩]
theorem k25_r5_e : Eo P pr N k25_r5 e σ Q = Eo P pr N [
  ⟨some 8, .assign (.const (.int .i64 0)), none, true⟩] e σ Q := propext ⟨fun h => h, fun h => h⟩
def k25_r6 : List COp := [
  ⟨some 24, .move (.tmp 8), none, true⟩,
  ⟨some 25, .move (.tmp 6), none, true⟩,
  ⟨some 26, .binOp .lss 3 (.tmp 24) (.tmp 25) 3, none, true⟩]
theorem k25_r6_e : Eo P pr N k25_r6 e σ Q = Eo P pr N [
  ⟨some 24, .move (.tmp 8), none, true⟩,
  ⟨some 25, .move (.tmp 6), none, true⟩,
  ⟨some 26, .binOp .lss 3 (.tmp 24) (.tmp 25) 3, none, true⟩] e σ Q := propext ⟨fun h => h, fun h => h⟩
def k25_r8 : List COp := [
  ⟨some 29, .move (.tmp 0), none, true⟩,
  ⟨some 30, .call { callee := .value (.func 51), args := #[.tmp 29], argTypes := #[44] }, none, true⟩,
  ⟨some 31, .build 66 #[(0, .tmp 30)], none, true⟩,
  ⟨some 9, .alloc 66, none, true⟩,
  ⟨none, .store 66 (.tmp 9) (.tmp 31), none, true⟩]
theorem k25_r8_e : Eo P pr N k25_r8 e σ Q = Eo P pr N [
  ⟨some 29, .move (.tmp 0), none, true⟩,
  ⟨some 30, .call { callee := .value (.func 51), args := #[.tmp 29], argTypes := #[44] }, none, true⟩,
  ⟨some 31, .build 66 #[(0, .tmp 30)], none, true⟩,
  ⟨some 9, .alloc 66, none, true⟩,
  ⟨none, .store 66 (.tmp 9) (.tmp 31), none, true⟩] e σ Q := propext ⟨fun h => h, fun h => h⟩
def k25_r9 : List COp := [
  ⟨some 32, .move (.tmp 0), none, true⟩,
  ⟨some 33, .move (.tmp 0), none, true⟩,
  ⟨some 34, .call { callee := .value (.func 51), args := #[.tmp 33], argTypes := #[44] }, none, true⟩,
  ⟨some 35, .call { callee := .value (.func 52), args := #[.tmp 32, .tmp 34], argTypes := #[44, 3] }, none, true⟩,
  ⟨some 10, .assign (.tmp 35), none, true⟩]
theorem k25_r9_e : Eo P pr N k25_r9 e σ Q = Eo P pr N [
  ⟨some 32, .move (.tmp 0), none, true⟩,
  ⟨some 33, .move (.tmp 0), none, true⟩,
  ⟨some 34, .call { callee := .value (.func 51), args := #[.tmp 33], argTypes := #[44] }, none, true⟩,
  ⟨some 35, .call { callee := .value (.func 52), args := #[.tmp 32, .tmp 34], argTypes := #[44, 3] }, none, true⟩,
  ⟨some 10, .assign (.tmp 35), none, true⟩] e σ Q := propext ⟨fun h => h, fun h => h⟩
def k25_r10 : List COp := [
  ⟨some 37, .move (.tmp 10), none, true⟩,
  ⟨some 38, .call { callee := .value (.func 57), args := #[.tmp 37], argTypes := #[27] }, none, true⟩,
  ⟨some 36, .move (.tmp 38), none, true⟩,
  ⟨some 39, .extract (.tmp 36) 0, none, true⟩,
  ⟨some 40, .extract (.tmp 36) 1, none, true⟩,
  ⟨some 11, .alloc 64, none, true⟩,
  ⟨none, .store 64 (.tmp 11) (.tmp 39), none, true⟩,
  ⟨some 12, .assign (.tmp 40), none, true⟩]
theorem k25_r10_e : Eo P pr N k25_r10 e σ Q = Eo P pr N [
  ⟨some 37, .move (.tmp 10), none, true⟩,
  ⟨some 38, .call { callee := .value (.func 57), args := #[.tmp 37], argTypes := #[27] }, none, true⟩,
  ⟨some 36, .move (.tmp 38), none, true⟩,
  ⟨some 39, .extract (.tmp 36) 0, none, true⟩,
  ⟨some 40, .extract (.tmp 36) 1, none, true⟩,
  ⟨some 11, .alloc 64, none, true⟩,
  ⟨none, .store 64 (.tmp 11) (.tmp 39), none, true⟩,
  ⟨some 12, .assign (.tmp 40), none, true⟩] e σ Q := propext ⟨fun h => h, fun h => h⟩
def k25_r11 : List COp := [
  ⟨some 41, .move (.tmp 0), none, true⟩,
  ⟨some 42, .nilCheck (.tmp 41), none, true⟩,
  ⟨some 43, .fieldAddr 46 (.tmp 42) 1, none, true⟩,
  ⟨some 44, .load 4 (.tmp 43), none, true⟩,
  ⟨some 45, .move (.tmp 44), none, true⟩,
  ⟨some 46, .move (.tmp 12), some (45, false), true⟩,
  ⟨some 47, .binOp .neq 28 (.tmp 46) (.const (.int .i64 0)) 28, some (45, false), true⟩,
  ⟨some 48, .pick (.tmp 45) (.const (.bool true)) (.tmp 47), none, true⟩]
theorem k25_r11_e : Eo P pr N k25_r11 e σ Q = Eo P pr N [
  ⟨some 41, .move (.tmp 0), none, true⟩,
  ⟨some 42, .nilCheck (.tmp 41), none, true⟩,
  ⟨some 43, .fieldAddr 46 (.tmp 42) 1, none, true⟩,
  ⟨some 44, .load 4 (.tmp 43), none, true⟩,
  ⟨some 45, .move (.tmp 44), none, true⟩,
  ⟨some 46, .move (.tmp 12), some (45, false), true⟩,
  ⟨some 47, .binOp .neq 28 (.tmp 46) (.const (.int .i64 0)) 28, some (45, false), true⟩,
  ⟨some 48, .pick (.tmp 45) (.const (.bool true)) (.tmp 47), none, true⟩] e σ Q := propext ⟨fun h => h, fun h => h⟩
def k25_r12 : List COp := [
  ⟨some 4, .assign (.const (.slice .none 0 0)), none, true⟩,
  ⟨some 5, .assign (.const (.bool false)), none, true⟩]
theorem k25_r12_e : Eo P pr N k25_r12 e σ Q = Eo P pr N [
  ⟨some 4, .assign (.const (.slice .none 0 0)), none, true⟩,
  ⟨some 5, .assign (.const (.bool false)), none, true⟩] e σ Q := propext ⟨fun h => h, fun h => h⟩
def k25_r13 : List COp := [
  ⟨some 49, .load 64 (.tmp 11), none, true⟩,
  ⟨some 50, .fieldAddr 66 (.tmp 9) 1, none, true⟩,
  ⟨none, .store 64 (.tmp 50) (.tmp 49), none, true⟩]
theorem k25_r13_e : Eo P pr N k25_r13 e σ Q = Eo P pr N [
  ⟨some 49, .load 64 (.tmp 11), none, true⟩,
  ⟨some 50, .fieldAddr 66 (.tmp 9) 1, none, true⟩,
  ⟨none, .store 64 (.tmp 50) (.tmp 49), none, true⟩] e σ Q := propext ⟨fun h => h, fun h => h⟩
def k25_r14 : List COp := [
  ⟨some 51, .move (.tmp 7), none, true⟩,
  ⟨some 52, .load 66 (.tmp 9), none, true⟩,
  ⟨some 53, .buildSlice 22 1 #[(0, .tmp 52)], none, true⟩,
  ⟨some 54, .call { callee := .builtin .append, args := #[.tmp 51, .tmp 53], argTypes := #[22, 22] }, none, true⟩,
  ⟨some 7, .assign (.tmp 54), none, true⟩]
theorem k25_r14_e : Eo P pr N k25_r14 e σ Q = Eo P pr N [
  ⟨some 51, .move (.tmp 7), none, true⟩,
  ⟨some 52, .load 66 (.tmp 9), none, true⟩,
  ⟨some 53, .buildSlice 22 1 #[(0, .tmp 52)], none, true⟩,
  ⟨some 54, .call { callee := .builtin .append, args := #[.tmp 51, .tmp 53], argTypes := #[22, 22] }, none, true⟩,
  ⟨some 7, .assign (.tmp 54), none, true⟩] e σ Q := propext ⟨fun h => h, fun h => h⟩
def k25_r7 : List COp := [
  ⟨some 27, .move (.tmp 8), none, true⟩,
  ⟨some 28, .binOp .add 3 (.tmp 27) (.const (.int .i64 1)) 3, none, true⟩,
  ⟨some 8, .assign (.tmp 28), none, true⟩]
theorem k25_r7_e : Eo P pr N k25_r7 e σ Q = Eo P pr N [
  ⟨some 27, .move (.tmp 8), none, true⟩,
  ⟨some 28, .binOp .add 3 (.tmp 27) (.const (.int .i64 1)) 3, none, true⟩,
  ⟨some 8, .assign (.tmp 28), none, true⟩] e σ Q := propext ⟨fun h => h, fun h => h⟩
def k25_l0 : CC := (.seq (.seq (.region k25_r6) (.cond (.tmp 26) .skip (.exit 0))) (.seq (.block 1 (.seq (.region k25_r8) (.seq (.region k25_r9) (.seq (.region k25_r10) (.seq (.seq (.region k25_r11) (.cond (.tmp 48) (.seq (.region k25_r12) .ret) .skip)) (.seq (.region k25_r13) (.region k25_r14))))))) (.region k25_r7)))
theorem k25_l0_e : Ev P pr N k25_l0 e σ Q = Ev P pr N (.seq (.seq (.region k25_r6) (.cond (.tmp 26) .skip (.exit 0))) (.seq (.block 1 (.seq (.region k25_r8) (.seq (.region k25_r9) (.seq (.region k25_r10) (.seq (.seq (.region k25_r11) (.cond (.tmp 48) (.seq (.region k25_r12) .ret) .skip)) (.seq (.region k25_r13) (.region k25_r14))))))) (.region k25_r7))) e σ Q := propext ⟨fun h => h, fun h => h⟩
def k25_r15 : List COp := [
  ⟨some 55, .move (.tmp 7), none, true⟩,
  ⟨some 4, .assign (.tmp 55), none, true⟩,
  ⟨some 5, .assign (.const (.bool true)), none, true⟩]
theorem k25_r15_e : Eo P pr N k25_r15 e σ Q = Eo P pr N [
  ⟨some 55, .move (.tmp 7), none, true⟩,
  ⟨some 4, .assign (.tmp 55), none, true⟩,
  ⟨some 5, .assign (.const (.bool true)), none, true⟩] e σ Q := propext ⟨fun h => h, fun h => h⟩
def k25 : CC := (.seq (.region k25_r0) (.seq (.region k25_r1) (.seq (.seq (.region k25_r2) (.cond (.tmp 23) (.seq (.region k25_r3) .ret) .skip)) (.seq (.region k25_r4) (.seq (.seq (.region k25_r5) (.block 0 (.loop k25_l0))) (.seq (.region k25_r15) .ret))))))
theorem k25_e : Ev P pr N k25 e σ Q = Ev P pr N (.seq (.region k25_r0) (.seq (.region k25_r1) (.seq (.seq (.region k25_r2) (.cond (.tmp 23) (.seq (.region k25_r3) .ret) .skip)) (.seq (.region k25_r4) (.seq (.seq (.region k25_r5) (.block 0 (.loop k25_l0))) (.seq (.region k25_r15) .ret)))))) e σ Q := propext ⟨fun h => h, fun h => h⟩
/-- quern/quernref21.ReadItems -/
theorem k25_is : FnIs Try.prog noPrim 25 56 [ResultVar.tmp 4, ResultVar.tmp 5] k25 := FnIs.of_fn Try.func25 (by kernel_rfl)
def k26_r0 : List COp := [
  ⟨some 4, .assign (.const (.bool false)), none, true⟩]
theorem k26_r0_e : Eo P pr N k26_r0 e σ Q = Eo P pr N [
  ⟨some 4, .assign (.const (.bool false)), none, true⟩] e σ Q := propext ⟨fun h => h, fun h => h⟩
def k26_r1 : List COp := [
  ⟨some 6, .move (.tmp 0), none, true⟩,
  ⟨some 7, .call { callee := .builtin .len, args := #[.tmp 6], argTypes := #[22] }, none, true⟩,
  ⟨some 8, .move (.tmp 1), none, true⟩,
  ⟨some 9, .call { callee := .builtin .len, args := #[.tmp 8], argTypes := #[22] }, none, true⟩,
  ⟨some 10, .binOp .neq 3 (.tmp 7) (.tmp 9) 3, none, true⟩]
theorem k26_r1_e : Eo P pr N k26_r1 e σ Q = Eo P pr N [
  ⟨some 6, .move (.tmp 0), none, true⟩,
  ⟨some 7, .call { callee := .builtin .len, args := #[.tmp 6], argTypes := #[22] }, none, true⟩,
  ⟨some 8, .move (.tmp 1), none, true⟩,
  ⟨some 9, .call { callee := .builtin .len, args := #[.tmp 8], argTypes := #[22] }, none, true⟩,
  ⟨some 10, .binOp .neq 3 (.tmp 7) (.tmp 9) 3, none, true⟩] e σ Q := propext ⟨fun h => h, fun h => h⟩
def k26_r2 : List COp := [
  ⟨some 4, .assign (.const (.bool false)), none, true⟩]
theorem k26_r2_e : Eo P pr N k26_r2 e σ Q = Eo P pr N [
  ⟨some 4, .assign (.const (.bool false)), none, true⟩] e σ Q := propext ⟨fun h => h, fun h => h⟩
def k26_r3 : List COp := [
  ⟨some 11, .move (.tmp 0), none, true⟩,
  ⟨some 12, .call { callee := .builtin .len, args := #[.tmp 11], argTypes := #[22] }, none, true⟩,
  ⟨some 13, .move (.const (.int .i64 0)), none, true⟩]
theorem k26_r3_e : Eo P pr N k26_r3 e σ Q = Eo P pr N [
  ⟨some 11, .move (.tmp 0), none, true⟩,
  ⟨some 12, .call { callee := .builtin .len, args := #[.tmp 11], argTypes := #[22] }, none, true⟩,
  ⟨some 13, .move (.const (.int .i64 0)), none, true⟩] e σ Q := propext ⟨fun h => h, fun h => h⟩
def k26_r4 : List COp := [
  ⟨some 14, .binOp .lss 3 (.tmp 13) (.tmp 12) 3, none, true⟩]
theorem k26_r4_e : Eo P pr N k26_r4 e σ Q = Eo P pr N [
  ⟨some 14, .binOp .lss 3 (.tmp 13) (.tmp 12) 3, none, true⟩] e σ Q := propext ⟨fun h => h, fun h => h⟩
def k26_r5 : List COp := [
  ⟨some 15, .move (.tmp 13), none, true⟩,
  ⟨some 5, .assign (.tmp 15), none, true⟩]
theorem k26_r5_e : Eo P pr N k26_r5 e σ Q = Eo P pr N [
  ⟨some 15, .move (.tmp 13), none, true⟩,
  ⟨some 5, .assign (.tmp 15), none, true⟩] e σ Q := propext ⟨fun h => h, fun h => h⟩
def k26_r6 : List COp := [
  ⟨some 16, .move (.tmp 0), none, false⟩,
  ⟨some 17, .move (.tmp 5), none, false⟩,
  ⟨some 18, .indexAddr 22 (.tmp 16) (.tmp 17), none, false⟩,
  ⟨some 19, .load 66 (.tmp 18), none, false⟩,
  ⟨some 20, .move (.tmp 1), none, false⟩,
  ⟨some 21, .move (.tmp 5), none, true⟩,
  ⟨some 22, .indexAddr 22 (.tmp 20) (.tmp 21), none, true⟩,
  ⟨some 23, .load 66 (.tmp 22), none, true⟩,
  ⟨some 24, .binOp .neq 66 (.tmp 19) (.tmp 23) 66, none, true⟩]
theorem k26_r6_e : Eo P pr N k26_r6 e σ Q = Eo P pr N [
  ⟨some 16, .move (.tmp 0), none, false⟩,
  ⟨some 17, .move (.tmp 5), none, false⟩,
  ⟨some 18, .indexAddr 22 (.tmp 16) (.tmp 17), none, false⟩,
  ⟨some 19, .load 66 (.tmp 18), none, false⟩,
  ⟨some 20, .move (.tmp 1), none, false⟩,
  ⟨some 21, .move (.tmp 5), none, true⟩,
  ⟨some 22, .indexAddr 22 (.tmp 20) (.tmp 21), none, true⟩,
  ⟨some 23, .load 66 (.tmp 22), none, true⟩,
  ⟨some 24, .binOp .neq 66 (.tmp 19) (.tmp 23) 66, none, true⟩] e σ Q := propext ⟨fun h => h, fun h => h⟩
def k26_r7 : List COp := [
  ⟨some 4, .assign (.const (.bool false)), none, true⟩]
theorem k26_r7_e : Eo P pr N k26_r7 e σ Q = Eo P pr N [
  ⟨some 4, .assign (.const (.bool false)), none, true⟩] e σ Q := propext ⟨fun h => h, fun h => h⟩
def k26_r8 : List COp := [
  ⟨some 25, .binOp .add 3 (.tmp 13) (.const (.int .i64 1)) 3, none, true⟩,
  ⟨some 13, .move (.tmp 25), none, true⟩]
theorem k26_r8_e : Eo P pr N k26_r8 e σ Q = Eo P pr N [
  ⟨some 25, .binOp .add 3 (.tmp 13) (.const (.int .i64 1)) 3, none, true⟩,
  ⟨some 13, .move (.tmp 25), none, true⟩] e σ Q := propext ⟨fun h => h, fun h => h⟩
def k26_l0 : CC := (.seq (.region k26_r4) (.seq (.cond (.tmp 14) .skip (.exit 0)) (.seq (.block 1 (.seq (.region k26_r5) (.seq (.region k26_r6) (.cond (.tmp 24) (.seq (.region k26_r7) .ret) .skip)))) (.region k26_r8))))
theorem k26_l0_e : Ev P pr N k26_l0 e σ Q = Ev P pr N (.seq (.region k26_r4) (.seq (.cond (.tmp 14) .skip (.exit 0)) (.seq (.block 1 (.seq (.region k26_r5) (.seq (.region k26_r6) (.cond (.tmp 24) (.seq (.region k26_r7) .ret) .skip)))) (.region k26_r8)))) e σ Q := propext ⟨fun h => h, fun h => h⟩
def k26_r9 : List COp := [
  ⟨some 4, .assign (.const (.bool true)), none, true⟩]
theorem k26_r9_e : Eo P pr N k26_r9 e σ Q = Eo P pr N [
  ⟨some 4, .assign (.const (.bool true)), none, true⟩] e σ Q := propext ⟨fun h => h, fun h => h⟩
def k26 : CC := (.seq (.region k26_r0) (.seq (.seq (.region k26_r1) (.cond (.tmp 10) (.seq (.region k26_r2) .ret) .skip)) (.seq (.seq (.region k26_r3) (.block 0 (.loop k26_l0))) (.seq (.region k26_r9) .ret))))
theorem k26_e : Ev P pr N k26 e σ Q = Ev P pr N (.seq (.region k26_r0) (.seq (.seq (.region k26_r1) (.cond (.tmp 10) (.seq (.region k26_r2) .ret) .skip)) (.seq (.seq (.region k26_r3) (.block 0 (.loop k26_l0))) (.seq (.region k26_r9) .ret)))) e σ Q := propext ⟨fun h => h, fun h => h⟩
/-- quern/quernref20.SameItems -/
theorem k26_is : FnIs Try.prog noPrim 26 26 [ResultVar.tmp 4] k26 := FnIs.of_fn Try.func26 (by kernel_rfl)
def k27_r0 : List COp := [
  ⟨some 2, .assign (.const (.int .i64 0)), none, true⟩]
theorem k27_r0_e : Eo P pr N k27_r0 e σ Q = Eo P pr N [
  ⟨some 2, .assign (.const (.int .i64 0)), none, true⟩] e σ Q := propext ⟨fun h => h, fun h => h⟩
def k27_r1 : List COp := [
  ⟨some 3, .move (.tmp 0), none, true⟩,
  ⟨some 4, .binOp .eql 42 (.tmp 3) (.const (.pointer .none)) 42, none, true⟩,
  ⟨some 5, .move (.tmp 4), none, true⟩,
  ⟨some 6, .move (.tmp 0), some (5, false), true⟩,
  ⟨some 7, .nilCheck (.tmp 6), some (5, false), true⟩,
  ⟨some 8, .fieldAddr 78 (.tmp 7) 1, some (5, false), true⟩,
  ⟨some 9, .load 4 (.tmp 8), some (5, false), true⟩,
  ⟨some 10, .pick (.tmp 5) (.const (.bool true)) (.tmp 9), none, true⟩]
theorem k27_r1_e : Eo P pr N k27_r1 e σ Q = Eo P pr N [
  ⟨some 3, .move (.tmp 0), none, true⟩,
  ⟨some 4, .binOp .eql 42 (.tmp 3) (.const (.pointer .none)) 42, none, true⟩,
  ⟨some 5, .move (.tmp 4), none, true⟩,
  ⟨some 6, .move (.tmp 0), some (5, false), true⟩,
  ⟨some 7, .nilCheck (.tmp 6), some (5, false), true⟩,
  ⟨some 8, .fieldAddr 78 (.tmp 7) 1, some (5, false), true⟩,
  ⟨some 9, .load 4 (.tmp 8), some (5, false), true⟩,
  ⟨some 10, .pick (.tmp 5) (.const (.bool true)) (.tmp 9), none, true⟩] e σ Q := propext ⟨fun h => h, fun h => h⟩
def k27_r2 : List COp := [
  ⟨some 2, .assign (.const (.int .i64 0)), none, true⟩]
theorem k27_r2_e : Eo P pr N k27_r2 e σ Q = Eo P pr N [
  ⟨some 2, .assign (.const (.int .i64 0)), none, true⟩] e σ Q := propext ⟨fun h => h, fun h => h⟩
def k27_r3 : List COp := [
  ⟨some 11, .move (.tmp 0), none, true⟩,
  ⟨some 12, .nilCheck (.tmp 11), none, true⟩,
  ⟨some 13, .fieldAddr 78 (.tmp 12) 0, none, true⟩,
  ⟨some 14, .load 27 (.tmp 13), none, true⟩,
  ⟨some 15, .call { callee := .builtin .len, args := #[.tmp 14], argTypes := #[27] }, none, true⟩,
  ⟨some 2, .assign (.tmp 15), none, true⟩]
theorem k27_r3_e : Eo P pr N k27_r3 e σ Q = Eo P pr N [
  ⟨some 11, .move (.tmp 0), none, true⟩,
  ⟨some 12, .nilCheck (.tmp 11), none, true⟩,
  ⟨some 13, .fieldAddr 78 (.tmp 12) 0, none, true⟩,
  ⟨some 14, .load 27 (.tmp 13), none, true⟩,
  ⟨some 15, .call { callee := .builtin .len, args := #[.tmp 14], argTypes := #[27] }, none, true⟩,
  ⟨some 2, .assign (.tmp 15), none, true⟩] e σ Q := propext ⟨fun h => h, fun h => h⟩
def k27 : CC := (.seq (.region k27_r0) (.seq (.seq (.region k27_r1) (.cond (.tmp 10) (.seq (.region k27_r2) .ret) .skip)) (.seq (.region k27_r3) .ret)))
theorem k27_e : Ev P pr N k27 e σ Q = Ev P pr N (.seq (.region k27_r0) (.seq (.seq (.region k27_r1) (.cond (.tmp 10) (.seq (.region k27_r2) .ret) .skip)) (.seq (.region k27_r3) .ret))) e σ Q := propext ⟨fun h => h, fun h => h⟩
/-- (*quern/pack.Reader).Left -/
theorem k27_is : FnIs Try.prog noPrim 27 16 [ResultVar.tmp 2] k27 := FnIs.of_fn Try.func27 (by kernel_rfl)
end Go.Proofs.Ytcogghmmlndmgaa.Q
