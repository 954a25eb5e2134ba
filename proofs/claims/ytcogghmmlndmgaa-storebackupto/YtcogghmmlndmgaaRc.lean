/- The code of some functions without its ornaments. Written by gen.py. -/
import Derived.Test.YtcogghmmlndmgaaQp
import Derived.Test.YtcogghmmlndmgaaChecked
import Derived.Test.YtcogghmmlndmgaaR0
set_option maxRecDepth 100000
namespace Go.Proofs.Ytcogghmmlndmgaa.Q
open Go Go.RowKit Go.Proofs
variable {P : Program} {pr : Prim} {N : Nat} {e : Nat → V} {σ : St} {Q : VX → (Nat → V) → St → Prop}
def k28_r0 : List COp := [
  ⟨some 1, .box 24 (.tmp 0), none, true⟩,
  ⟨some 2, .assign (.const (.slice .none 0 0)), none, true⟩,
  ⟨some 3, .assign (.const (.int .i64 0)), none, true⟩]
theorem k28_r0_e : Eo P pr N k28_r0 e σ Q = Eo P pr N [
  ⟨some 1, .box 24 (.tmp 0), none, true⟩,
  ⟨some 2, .assign (.const (.slice .none 0 0)), none, true⟩,
  ⟨some 3, .assign (.const (.int .i64 0)), none, true⟩] e σ Q := propext ⟨fun h => h, fun h => h⟩
def k28_r1 : List COp := [
  ⟨some 8, .load 24 (.tmp 1), none, true⟩,
  ⟨some 9, .call { callee := .value (.func 32), args := #[.tmp 8], argTypes := #[24] }, none, true⟩,
  ⟨some 10, .unOp .not 4 (.tmp 9), none, true⟩]
theorem k28_r1_e : Eo P pr N k28_r1 e σ Q = Eo P pr N [
  ⟨some 8, .load 24 (.tmp 1), none, true⟩,
  ⟨some 9, .call { callee := .value (.func 32), args := #[.tmp 8], argTypes := #[24] }, none, true⟩,
  ⟨some 10, .unOp .not 4 (.tmp 9), none, true⟩] e σ Q := propext ⟨fun h => h, fun h => h⟩
def k28_r2 : List COp := [
  ⟨some 2, .assign (.const (.slice .none 0 0)), none, true⟩,
  ⟨some 3, .assign (.const (.int .i64 1)), none, true⟩]
theorem k28_r2_e : Eo P pr N k28_r2 e σ Q = Eo P pr N [
  ⟨some 2, .assign (.const (.slice .none 0 0)), none, true⟩,
  ⟨some 3, .assign (.const (.int .i64 1)), none, true⟩] e σ Q := propext ⟨fun h => h, fun h => h⟩
def k28_r3 : List COp := [
  ⟨some 4, .assign (.const (.int .i64 0)), none, true⟩]
theorem k28_r3_e : Eo P pr N k28_r3 e σ Q = Eo P pr N [
  ⟨some 4, .assign (.const (.int .i64 0)), none, true⟩] e σ Q := propext ⟨fun h => h, fun h => h⟩
def k28_r4 : List COp := [
  ⟨some 11, .fieldAddr 24 (.tmp 1) 7, none, true⟩,
  ⟨some 12, .load 4 (.tmp 11), none, true⟩]
theorem k28_r4_e : Eo P pr N k28_r4 e σ Q = Eo P pr N [
  ⟨some 11, .fieldAddr 24 (.tmp 1) 7, none, true⟩,
  ⟨some 12, .load 4 (.tmp 11), none, true⟩] e σ Q := propext ⟨fun h => h, fun h => h⟩
def k28_r5 : List COp := [
  ⟨some 4, .assign (.const (.int .i64 1)), none, true⟩]
theorem k28_r5_e : Eo P pr N k28_r5 e σ Q = Eo P pr N [
  ⟨some 4, .assign (.const (.int .i64 1)), none, true⟩] e σ Q := propext ⟨fun h => h, fun h => h⟩
def k28_r6 : List COp := [
  ⟨some 5, .assign (.const (.slice .none 0 0)), none, true⟩]
theorem k28_r6_e : Eo P pr N k28_r6 e σ Q = Eo P pr N [
  ⟨some 5, .assign (.const (.slice .none 0 0)), none, true⟩] e σ Q := propext ⟨fun h => h, fun h => h⟩
def k28_r7 : List COp := [
  ⟨some 13, .fieldAddr 24 (.tmp 1) 0, none, true⟩,
  ⟨some 14, .load 3 (.tmp 13), none, true⟩,
  ⟨some 15, .fieldAddr 24 (.tmp 1) 1, none, true⟩,
  ⟨some 16, .load 3 (.tmp 15), none, true⟩,
  ⟨some 17, .fieldAddr 24 (.tmp 1) 2, none, true⟩,
  ⟨some 18, .load 3 (.tmp 17), none, true⟩,
  ⟨some 19, .fieldAddr 24 (.tmp 1) 3, none, true⟩,
  ⟨some 20, .load 3 (.tmp 19), none, true⟩,
  ⟨some 21, .fieldAddr 24 (.tmp 1) 4, none, true⟩,
  ⟨some 22, .load 3 (.tmp 21), none, true⟩,
  ⟨some 23, .fieldAddr 24 (.tmp 1) 5, none, true⟩,
  ⟨some 24, .load 3 (.tmp 23), none, true⟩,
  ⟨some 25, .fieldAddr 24 (.tmp 1) 6, none, true⟩,
  ⟨some 26, .load 3 (.tmp 25), none, true⟩,
  ⟨some 27, .move (.tmp 4), none, true⟩,
  ⟨some 28, .fieldAddr 24 (.tmp 1) 9, none, true⟩,
  ⟨some 29, .load 9 (.tmp 28), none, true⟩,
  ⟨some 30, .call { callee := .builtin .len, args := #[.tmp 29], argTypes := #[9] }, none, true⟩,
  ⟨some 31, .buildSlice 81 9 #[(0, .tmp 14), (1, .tmp 16), (2, .tmp 18), (3, .tmp 20), (4, .tmp 22), (5, .tmp 24), (6, .tmp 26), (7, .tmp 27), (8, .tmp 30)], none, true⟩,
  ⟨some 32, .call { callee := .builtin .len, args := #[.tmp 31], argTypes := #[81] }, none, true⟩,
  ⟨some 33, .move (.const (.int .i64 0)), none, true⟩]
theorem k28_r7_e : Eo P pr N k28_r7 e σ Q = Eo P pr N [
  ⟨some 13, .fieldAddr 24 (.tmp 1) 0, none, true⟩,
  ⟨some 14, .load 3 (.tmp 13), none, true⟩,
  ⟨some 15, .fieldAddr 24 (.tmp 1) 1, none, true⟩,
  ⟨some 16, .load 3 (.tmp 15), none, true⟩,
  ⟨some 17, .fieldAddr 24 (.tmp 1) 2, none, true⟩,
  ⟨some 18, .load 3 (.tmp 17), none, true⟩,
  ⟨some 19, .fieldAddr 24 (.tmp 1) 3, none, true⟩,
  ⟨some 20, .load 3 (.tmp 19), none, true⟩,
  ⟨some 21, .fieldAddr 24 (.tmp 1) 4, none, true⟩,
  ⟨some 22, .load 3 (.tmp 21), none, true⟩,
  ⟨some 23, .fieldAddr 24 (.tmp 1) 5, none, true⟩,
  ⟨some 24, .load 3 (.tmp 23), none, true⟩,
  ⟨some 25, .fieldAddr 24 (.tmp 1) 6, none, true⟩,
  ⟨some 26, .load 3 (.tmp 25), none, true⟩,
  ⟨some 27, .move (.tmp 4), none, true⟩,
  ⟨some 28, .fieldAddr 24 (.tmp 1) 9, none, true⟩,
  ⟨some 29, .load 9 (.tmp 28), none, true⟩,
  ⟨some 30, .call { callee := .builtin .len, args := #[.tmp 29], argTypes := #[9] }, none, true⟩,
  ⟨some 31, .buildSlice 81 9 #[(0, .tmp 14), (1, .tmp 16), (2, .tmp 18), (3, .tmp 20), (4, .tmp 22), (5, .tmp 24), (6, .tmp 26), (7, .tmp 27), (8, .tmp 30)], none, true⟩,
  ⟨some 32, .call { callee := .builtin .len, args := #[.tmp 31], argTypes := #[81] }, none, true⟩,
  ⟨some 33, .move (.const (.int .i64 0)), none, true⟩] e σ Q := propext ⟨fun h => h, fun h => h⟩
def k28_r8 : List COp := [
  ⟨some 34, .binOp .lss 3 (.tmp 33) (.tmp 32) 3, none, true⟩]
theorem k28_r8_e : Eo P pr N k28_r8 e σ Q = Eo P pr N [
  ⟨some 34, .binOp .lss 3 (.tmp 33) (.tmp 32) 3, none, true⟩] e σ Q := propext ⟨fun h => h, fun h => h⟩
def k28_r9 : List COp := [
  ⟨some 35, .indexAddr 81 (.tmp 31) (.tmp 33), none, true⟩,
  ⟨some 36, .load 3 (.tmp 35), none, true⟩,
  ⟨some 7, .assign (.tmp 36), none, true⟩]
theorem k28_r9_e : Eo P pr N k28_r9 e σ Q = Eo P pr N [
  ⟨some 35, .indexAddr 81 (.tmp 31) (.tmp 33), none, true⟩,
  ⟨some 36, .load 3 (.tmp 35), none, true⟩,
  ⟨some 7, .assign (.tmp 36), none, true⟩] e σ Q := propext ⟨fun h => h, fun h => h⟩
def k28_r10 : List COp := [
  ⟨some 37, .move (.tmp 5), none, true⟩,
  ⟨some 38, .move (.tmp 7), none, true⟩,
  ⟨some 39, .call { callee := .value (.func 49), args := #[.tmp 37, .tmp 38], argTypes := #[27, 3] }, none, true⟩,
  ⟨some 5, .assign (.tmp 39), none, true⟩]
theorem k28_r10_e : Eo P pr N k28_r10 e σ Q = Eo P pr N [
  ⟨some 37, .move (.tmp 5), none, true⟩,
  ⟨some 38, .move (.tmp 7), none, true⟩,
  ⟨some 39, .call { callee := .value (.func 49), args := #[.tmp 37, .tmp 38], argTypes := #[27, 3] }, none, true⟩,
  ⟨some 5, .assign (.tmp 39), none, true⟩] e σ Q := propext ⟨fun h => h, fun h => h⟩
def k28_r11 : List COp := [
  ⟨some 40, .binOp .add 3 (.tmp 33) (.const (.int .i64 1)) 3, none, true⟩,
  ⟨some 33, .move (.tmp 40), none, true⟩]
theorem k28_r11_e : Eo P pr N k28_r11 e σ Q = Eo P pr N [
  ⟨some 40, .binOp .add 3 (.tmp 33) (.const (.int .i64 1)) 3, none, true⟩,
  ⟨some 33, .move (.tmp 40), none, true⟩] e σ Q := propext ⟨fun h => h, fun h => h⟩
def k28_l0 : CC := (.seq (.region k28_r8) (.seq (.cond (.tmp 34) .skip (.exit 0)) (.seq (.block 1 (.seq (.region k28_r9) (.region k28_r10))) (.region k28_r11))))
theorem k28_l0_e : Ev P pr N k28_l0 e σ Q = Ev P pr N (.seq (.region k28_r8) (.seq (.cond (.tmp 34) .skip (.exit 0)) (.seq (.block 1 (.seq (.region k28_r9) (.region k28_r10))) (.region k28_r11)))) e σ Q := propext ⟨fun h => h, fun h => h⟩
def k28_r12 : CC := (.wregion [
  (true, ⟨some 41, .move (.tmp 5), none, false⟩),
  (false, ⟨some 42, .fieldAddr 24 (.tmp 1) 9, none, false⟩),
  (false, ⟨some 43, .load 9 (.tmp 42), none, false⟩),
  (false, ⟨some 44, .call { callee := .builtin .append, args := #[.tmp 41, .tmp 43], argTypes := #[27, 9] }, none, false⟩),
  (true, ⟨some 45, .fieldAddr 24 (.tmp 1) 8, none, true⟩),
  (true, ⟨some 46, .load 22 (.tmp 45), none, true⟩),
  (false, ⟨some 47, .call { callee := .value (.func 22), args := #[.tmp 44, .tmp 46], argTypes := #[27, 22] }, none, true⟩),
  (false, ⟨some 2, .assign (.tmp 47), none, true⟩),
  (false, ⟨some 3, .assign (.const (.int .i64 0)), none, true⟩)] false [(5, ⟨some 46, .load 22 (.tmp 45), none, true⟩, [0, 4])])
theorem k28_r12_e : Ev P pr N k28_r12 e σ Q = Ev P pr N (.wregion [
  (true, ⟨some 41, .move (.tmp 5), none, false⟩),
  (false, ⟨some 42, .fieldAddr 24 (.tmp 1) 9, none, false⟩),
  (false, ⟨some 43, .load 9 (.tmp 42), none, false⟩),
  (false, ⟨some 44, .call { callee := .builtin .append, args := #[.tmp 41, .tmp 43], argTypes := #[27, 9] }, none, false⟩),
  (true, ⟨some 45, .fieldAddr 24 (.tmp 1) 8, none, true⟩),
  (true, ⟨some 46, .load 22 (.tmp 45), none, true⟩),
  (false, ⟨some 47, .call { callee := .value (.func 22), args := #[.tmp 44, .tmp 46], argTypes := #[27, 22] }, none, true⟩),
  (false, ⟨some 2, .assign (.tmp 47), none, true⟩),
  (false, ⟨some 3, .assign (.const (.int .i64 0)), none, true⟩)] false [(5, ⟨some 46, .load 22 (.tmp 45), none, true⟩, [0, 4])]) e σ Q := propext ⟨fun h => h, fun h => h⟩
def k28 : CC := (.seq (.region k28_r0) (.seq (.seq (.region k28_r1) (.cond (.tmp 10) (.seq (.region k28_r2) .ret) .skip)) (.seq (.region k28_r3) (.seq (.seq (.region k28_r4) (.cond (.tmp 12) (.region k28_r5) .skip)) (.seq (.region k28_r6) (.seq (.seq (.region k28_r7) (.block 0 (.loop k28_l0))) (.seq k28_r12 .ret)))))))
theorem k28_e : Ev P pr N k28 e σ Q = Ev P pr N (.seq (.region k28_r0) (.seq (.seq (.region k28_r1) (.cond (.tmp 10) (.seq (.region k28_r2) .ret) .skip)) (.seq (.region k28_r3) (.seq (.seq (.region k28_r4) (.cond (.tmp 12) (.region k28_r5) .skip)) (.seq (.region k28_r6) (.seq (.seq (.region k28_r7) (.block 0 (.loop k28_l0))) (.seq k28_r12 .ret))))))) e σ Q := propext ⟨fun h => h, fun h => h⟩
/-- quern/quernref22.Encode -/
theorem k28_is : FnIs Try.prog noPrim 28 48 [ResultVar.tmp 2, ResultVar.tmp 3] k28 := FnIs.of_fn Try.func28 (by kernel_rfl)
def k29_r0 : List COp := [
  ⟨some 2, .alloc 24, none, true⟩,
  ⟨some 3, .assign (.const (.int .i64 0)), none, true⟩]
theorem k29_r0_e : Eo P pr N k29_r0 e σ Q = Eo P pr N [
  ⟨some 2, .alloc 24, none, true⟩,
  ⟨some 3, .assign (.const (.int .i64 0)), none, true⟩] e σ Q := propext ⟨fun h => h, fun h => h⟩
def k29_r1 : List COp := [
  ⟨some 9, .move (.tmp 0), none, true⟩,
  ⟨some 10, .call { callee := .value (.func 23), args := #[.tmp 9], argTypes := #[27] }, none, true⟩,
  ⟨some 4, .assign (.tmp 10), none, true⟩]
theorem k29_r1_e : Eo P pr N k29_r1 e σ Q = Eo P pr N [
  ⟨some 9, .move (.tmp 0), none, true⟩,
  ⟨some 10, .call { callee := .value (.func 23), args := #[.tmp 9], argTypes := #[27] }, none, true⟩,
  ⟨some 4, .assign (.tmp 10), none, true⟩] e σ Q := propext ⟨fun h => h, fun h => h⟩
def k29_r2 : List COp := [
  ⟨some 11, .move (.tmp 4), none, true⟩,
  ⟨some 12, .call { callee := .value (.func 44), args := #[.tmp 11], argTypes := #[42] }, none, true⟩,
  ⟨some 13, .move (.tmp 4), none, true⟩,
  ⟨some 14, .call { callee := .value (.func 44), args := #[.tmp 13], argTypes := #[42] }, none, true⟩,
  ⟨some 15, .move (.tmp 4), none, true⟩,
  ⟨some 16, .call { callee := .value (.func 44), args := #[.tmp 15], argTypes := #[42] }, none, true⟩,
  ⟨some 17, .move (.tmp 4), none, true⟩,
  ⟨some 18, .call { callee := .value (.func 44), args := #[.tmp 17], argTypes := #[42] }, none, true⟩,
  ⟨some 19, .move (.tmp 4), none, true⟩,
  ⟨some 20, .call { callee := .value (.func 44), args := #[.tmp 19], argTypes := #[42] }, none, true⟩,
  ⟨some 21, .move (.tmp 4), none, true⟩,
  ⟨some 22, .call { callee := .value (.func 44), args := #[.tmp 21], argTypes := #[42] }, none, true⟩,
  ⟨some 23, .move (.tmp 4), none, true⟩,
  ⟨some 24, .call { callee := .value (.func 44), args := #[.tmp 23], argTypes := #[42] }, none, true⟩,
  ⟨some 25, .build 24 #[(0, .tmp 12), (1, .tmp 14), (2, .tmp 16), (3, .tmp 18), (4, .tmp 20), (5, .tmp 22), (6, .tmp 24)], none, true⟩,
  ⟨some 5, .alloc 24, none, true⟩,
  ⟨none, .store 24 (.tmp 5) (.tmp 25), none, true⟩]
theorem k29_r2_e : Eo P pr N k29_r2 e σ Q = Eo P pr N [
  ⟨some 11, .move (.tmp 4), none, true⟩,
  ⟨some 12, .call { callee := .value (.func 44), args := #[.tmp 11], argTypes := #[42] }, none, true⟩,
  ⟨some 13, .move (.tmp 4), none, true⟩,
  ⟨some 14, .call { callee := .value (.func 44), args := #[.tmp 13], argTypes := #[42] }, none, true⟩,
  ⟨some 15, .move (.tmp 4), none, true⟩,
  ⟨some 16, .call { callee := .value (.func 44), args := #[.tmp 15], argTypes := #[42] }, none, true⟩,
  ⟨some 17, .move (.tmp 4), none, true⟩,
  ⟨some 18, .call { callee := .value (.func 44), args := #[.tmp 17], argTypes := #[42] }, none, true⟩,
  ⟨some 19, .move (.tmp 4), none, true⟩,
  ⟨some 20, .call { callee := .value (.func 44), args := #[.tmp 19], argTypes := #[42] }, none, true⟩,
  ⟨some 21, .move (.tmp 4), none, true⟩,
  ⟨some 22, .call { callee := .value (.func 44), args := #[.tmp 21], argTypes := #[42] }, none, true⟩,
  ⟨some 23, .move (.tmp 4), none, true⟩,
  ⟨some 24, .call { callee := .value (.func 44), args := #[.tmp 23], argTypes := #[42] }, none, true⟩,
  ⟨some 25, .build 24 #[(0, .tmp 12), (1, .tmp 14), (2, .tmp 16), (3, .tmp 18), (4, .tmp 20), (5, .tmp 22), (6, .tmp 24)], none, true⟩,
  ⟨some 5, .alloc 24, none, true⟩,
  ⟨none, .store 24 (.tmp 5) (.tmp 25), none, true⟩] e σ Q := propext ⟨fun h => h, fun h => h⟩
def k29_r3 : List COp := [
  ⟨some 26, .move (.tmp 4), none, true⟩,
  ⟨some 27, .call { callee := .value (.func 44), args := #[.tmp 26], argTypes := #[42] }, none, true⟩,
  ⟨some 6, .assign (.tmp 27), none, true⟩]
theorem k29_r3_e : Eo P pr N k29_r3 e σ Q = Eo P pr N [
  ⟨some 26, .move (.tmp 4), none, true⟩,
  ⟨some 27, .call { callee := .value (.func 44), args := #[.tmp 26], argTypes := #[42] }, none, true⟩,
  ⟨some 6, .assign (.tmp 27), none, true⟩] e σ Q := propext ⟨fun h => h, fun h => h⟩
def k29_r4 : List COp := [
  ⟨some 28, .move (.tmp 6), none, false⟩,
  ⟨some 29, .binOp .eql 3 (.tmp 28) (.const (.int .i64 1)) 3, none, false⟩,
  ⟨some 30, .move (.tmp 4), none, false⟩,
  ⟨some 31, .move (.tmp 4), none, false⟩,
  ⟨some 32, .call { callee := .value (.func 44), args := #[.tmp 31], argTypes := #[42] }, none, false⟩,
  ⟨some 33, .call { callee := .value (.func 45), args := #[.tmp 30, .tmp 32], argTypes := #[42, 3] }, none, false⟩,
  ⟨some 34, .convert 27 9 (.tmp 33), none, false⟩,
  ⟨some 35, .fieldAddr 24 (.tmp 5) 7, none, true⟩,
  ⟨none, .store 4 (.tmp 35) (.tmp 29), none, true⟩,
  ⟨some 36, .fieldAddr 24 (.tmp 5) 9, none, true⟩,
  ⟨none, .store 9 (.tmp 36) (.tmp 34), none, true⟩]
theorem k29_r4_e : Eo P pr N k29_r4 e σ Q = Eo P pr N [
  ⟨some 28, .move (.tmp 6), none, false⟩,
  ⟨some 29, .binOp .eql 3 (.tmp 28) (.const (.int .i64 1)) 3, none, false⟩,
  ⟨some 30, .move (.tmp 4), none, false⟩,
  ⟨some 31, .move (.tmp 4), none, false⟩,
  ⟨some 32, .call { callee := .value (.func 44), args := #[.tmp 31], argTypes := #[42] }, none, false⟩,
  ⟨some 33, .call { callee := .value (.func 45), args := #[.tmp 30, .tmp 32], argTypes := #[42, 3] }, none, false⟩,
  ⟨some 34, .convert 27 9 (.tmp 33), none, false⟩,
  ⟨some 35, .fieldAddr 24 (.tmp 5) 7, none, true⟩,
  ⟨none, .store 4 (.tmp 35) (.tmp 29), none, true⟩,
  ⟨some 36, .fieldAddr 24 (.tmp 5) 9, none, true⟩,
  ⟨none, .store 9 (.tmp 36) (.tmp 34), none, true⟩] e σ Q := propext ⟨fun h => h, fun h => h⟩
def k29_r5 : List COp := [
  ⟨some 38, .move (.tmp 4), none, true⟩,
  ⟨some 39, .call { callee := .value (.func 24), args := #[.tmp 38, .const (.int .i64 16)], argTypes := #[42, 3] }, none, true⟩,
  ⟨some 37, .move (.tmp 39), none, true⟩,
  ⟨some 40, .extract (.tmp 37) 0, none, true⟩,
  ⟨some 41, .extract (.tmp 37) 1, none, true⟩,
  ⟨some 7, .assign (.tmp 40), none, true⟩,
  ⟨some 8, .assign (.tmp 41), none, true⟩]
theorem k29_r5_e : Eo P pr N k29_r5 e σ Q = Eo P pr N [
  ⟨some 38, .move (.tmp 4), none, true⟩,
  ⟨some 39, .call { callee := .value (.func 24), args := #[.tmp 38, .const (.int .i64 16)], argTypes := #[42, 3] }, none, true⟩,
  ⟨some 37, .move (.tmp 39), none, true⟩,
  ⟨some 40, .extract (.tmp 37) 0, none, true⟩,
  ⟨some 41, .extract (.tmp 37) 1, none, true⟩,
  ⟨some 7, .assign (.tmp 40), none, true⟩,
  ⟨some 8, .assign (.tmp 41), none, true⟩] e σ Q := propext ⟨fun h => h, fun h => h⟩
def k29_r6 : List COp := [
  ⟨some 42, .move (.tmp 7), none, true⟩,
  ⟨some 43, .fieldAddr 24 (.tmp 5) 8, none, true⟩,
  ⟨none, .store 22 (.tmp 43) (.tmp 42), none, true⟩]
theorem k29_r6_e : Eo P pr N k29_r6 e σ Q = Eo P pr N [
  ⟨some 42, .move (.tmp 7), none, true⟩,
  ⟨some 43, .fieldAddr 24 (.tmp 5) 8, none, true⟩,
  ⟨none, .store 22 (.tmp 43) (.tmp 42), none, true⟩] e σ Q := propext ⟨fun h => h, fun h => h⟩
def k29_r7 : List COp := [
  ⟨some 44, .move (.tmp 8), none, true⟩,
  ⟨some 45, .unOp .not 4 (.tmp 44), none, true⟩,
  ⟨some 46, .move (.tmp 45), none, true⟩,
  ⟨some 47, .move (.tmp 4), some (46, false), true⟩,
  ⟨some 48, .call { callee := .value (.func 46), args := #[.tmp 47], argTypes := #[42] }, some (46, false), true⟩,
  ⟨some 49, .unOp .not 4 (.tmp 48), some (46, false), true⟩,
  ⟨some 50, .pick (.tmp 46) (.const (.bool true)) (.tmp 49), none, true⟩,
  ⟨some 51, .move (.tmp 50), none, true⟩,
  ⟨some 52, .move (.tmp 6), some (51, false), true⟩,
  ⟨some 53, .binOp .gtr 3 (.tmp 52) (.const (.int .i64 1)) 3, some (51, false), true⟩,
  ⟨some 54, .pick (.tmp 51) (.const (.bool true)) (.tmp 53), none, true⟩,
  ⟨some 55, .move (.tmp 54), none, true⟩,
  ⟨some 56, .load 24 (.tmp 5), some (55, false), true⟩,
  ⟨some 57, .call { callee := .value (.func 31), args := #[.tmp 56], argTypes := #[24] }, some (55, false), true⟩,
  ⟨some 58, .unOp .not 4 (.tmp 57), some (55, false), true⟩,
  ⟨some 59, .pick (.tmp 55) (.const (.bool true)) (.tmp 58), none, true⟩]
theorem k29_r7_e : Eo P pr N k29_r7 e σ Q = Eo P pr N [
  ⟨some 44, .move (.tmp 8), none, true⟩,
  ⟨some 45, .unOp .not 4 (.tmp 44), none, true⟩,
  ⟨some 46, .move (.tmp 45), none, true⟩,
  ⟨some 47, .move (.tmp 4), some (46, false), true⟩,
  ⟨some 48, .call { callee := .value (.func 46), args := #[.tmp 47], argTypes := #[42] }, some (46, false), true⟩,
  ⟨some 49, .unOp .not 4 (.tmp 48), some (46, false), true⟩,
  ⟨some 50, .pick (.tmp 46) (.const (.bool true)) (.tmp 49), none, true⟩,
  ⟨some 51, .move (.tmp 50), none, true⟩,
  ⟨some 52, .move (.tmp 6), some (51, false), true⟩,
  ⟨some 53, .binOp .gtr 3 (.tmp 52) (.const (.int .i64 1)) 3, some (51, false), true⟩,
  ⟨some 54, .pick (.tmp 51) (.const (.bool true)) (.tmp 53), none, true⟩,
  ⟨some 55, .move (.tmp 54), none, true⟩,
  ⟨some 56, .load 24 (.tmp 5), some (55, false), true⟩,
  ⟨some 57, .call { callee := .value (.func 31), args := #[.tmp 56], argTypes := #[24] }, some (55, false), true⟩,
  ⟨some 58, .unOp .not 4 (.tmp 57), some (55, false), true⟩,
  ⟨some 59, .pick (.tmp 55) (.const (.bool true)) (.tmp 58), none, true⟩] e σ Q := propext ⟨fun h => h, fun h => h⟩
def k29_r8 : List COp := [
  ⟨some 60, .build 24 #[], none, true⟩,
  ⟨none, .store 24 (.tmp 2) (.tmp 60), none, true⟩,
  ⟨some 3, .assign (.const (.int .i64 11)), none, true⟩]
theorem k29_r8_e : Eo P pr N k29_r8 e σ Q = Eo P pr N [
  ⟨some 60, .build 24 #[], none, true⟩,
  ⟨none, .store 24 (.tmp 2) (.tmp 60), none, true⟩,
  ⟨some 3, .assign (.const (.int .i64 11)), none, true⟩] e σ Q := propext ⟨fun h => h, fun h => h⟩
def k29_r9 : List COp := [
  ⟨some 61, .load 24 (.tmp 5), none, true⟩,
  ⟨none, .store 24 (.tmp 2) (.tmp 61), none, true⟩,
  ⟨some 3, .assign (.const (.int .i64 0)), none, true⟩]
theorem k29_r9_e : Eo P pr N k29_r9 e σ Q = Eo P pr N [
  ⟨some 61, .load 24 (.tmp 5), none, true⟩,
  ⟨none, .store 24 (.tmp 2) (.tmp 61), none, true⟩,
  ⟨some 3, .assign (.const (.int .i64 0)), none, true⟩] e σ Q := propext ⟨fun h => h, fun h => h⟩
def k29 : CC := (.seq (.region k29_r0) (.seq (.region k29_r1) (.seq (.region k29_r2) (.seq (.region k29_r3) (.seq (.region k29_r4) (.seq (.region k29_r5) (.seq (.region k29_r6) (.seq (.seq (.region k29_r7) (.cond (.tmp 59) (.seq (.region k29_r8) .ret) .skip)) (.seq (.region k29_r9) .ret)))))))))
theorem k29_e : Ev P pr N k29 e σ Q = Ev P pr N (.seq (.region k29_r0) (.seq (.region k29_r1) (.seq (.region k29_r2) (.seq (.region k29_r3) (.seq (.region k29_r4) (.seq (.region k29_r5) (.seq (.region k29_r6) (.seq (.seq (.region k29_r7) (.cond (.tmp 59) (.seq (.region k29_r8) .ret) .skip)) (.seq (.region k29_r9) .ret))))))))) e σ Q := propext ⟨fun h => h, fun h => h⟩
/-- quern/net.Decode -/
theorem k29_is : FnIs Try.prog noPrim 29 62 [ResultVar.cell 2 24, ResultVar.tmp 3] k29 := FnIs.of_fn Try.func29 (by kernel_rfl)
def k30_r0 : List COp := [
  ⟨some 2, .alloc 24, none, true⟩,
  ⟨some 3, .assign (.const (.int .i64 0)), none, true⟩]
theorem k30_r0_e : Eo P pr N k30_r0 e σ Q = Eo P pr N [
  ⟨some 2, .alloc 24, none, true⟩,
  ⟨some 3, .assign (.const (.int .i64 0)), none, true⟩] e σ Q := propext ⟨fun h => h, fun h => h⟩
def k30_r1 : List COp := [
  ⟨some 9, .buildSlice 27 0 #[], none, true⟩,
  ⟨some 10, .move (.tmp 0), none, true⟩,
  ⟨some 11, .call { callee := .builtin .append, args := #[.tmp 9, .tmp 10], argTypes := #[27, 27] }, none, true⟩,
  ⟨some 12, .build 46 #[(0, .tmp 11)], none, true⟩,
  ⟨some 13, .box 46 (.tmp 12), none, true⟩,
  ⟨some 4, .assign (.tmp 13), none, true⟩]
theorem k30_r1_e : Eo P pr N k30_r1 e σ Q = Eo P pr N [
  ⟨some 9, .buildSlice 27 0 #[], none, true⟩,
  ⟨some 10, .move (.tmp 0), none, true⟩,
  ⟨some 11, .call { callee := .builtin .append, args := #[.tmp 9, .tmp 10], argTypes := #[27, 27] }, none, true⟩,
  ⟨some 12, .build 46 #[(0, .tmp 11)], none, true⟩,
  ⟨some 13, .box 46 (.tmp 12), none, true⟩,
  ⟨some 4, .assign (.tmp 13), none, true⟩] e σ Q := propext ⟨fun h => h, fun h => h⟩
def k30_r2 : List COp := [
  ⟨some 14, .move (.tmp 4), none, true⟩,
  ⟨some 15, .call { callee := .value (.func 51), args := #[.tmp 14], argTypes := #[44] }, none, true⟩,
  ⟨some 16, .build 24 #[(0, .tmp 15)], none, true⟩,
  ⟨some 5, .alloc 24, none, true⟩,
  ⟨none, .store 24 (.tmp 5) (.tmp 16), none, true⟩]
theorem k30_r2_e : Eo P pr N k30_r2 e σ Q = Eo P pr N [
  ⟨some 14, .move (.tmp 4), none, true⟩,
  ⟨some 15, .call { callee := .value (.func 51), args := #[.tmp 14], argTypes := #[44] }, none, true⟩,
  ⟨some 16, .build 24 #[(0, .tmp 15)], none, true⟩,
  ⟨some 5, .alloc 24, none, true⟩,
  ⟨none, .store 24 (.tmp 5) (.tmp 16), none, true⟩] e σ Q := propext ⟨fun h => h, fun h => h⟩
def k30_r3 : List COp := [
  ⟨some 17, .move (.tmp 4), none, true⟩,
  ⟨some 18, .call { callee := .value (.func 51), args := #[.tmp 17], argTypes := #[44] }, none, true⟩,
  ⟨some 19, .fieldAddr 24 (.tmp 5) 1, none, true⟩,
  ⟨none, .store 3 (.tmp 19) (.tmp 18), none, true⟩]
theorem k30_r3_e : Eo P pr N k30_r3 e σ Q = Eo P pr N [
  ⟨some 17, .move (.tmp 4), none, true⟩,
  ⟨some 18, .call { callee := .value (.func 51), args := #[.tmp 17], argTypes := #[44] }, none, true⟩,
  ⟨some 19, .fieldAddr 24 (.tmp 5) 1, none, true⟩,
  ⟨none, .store 3 (.tmp 19) (.tmp 18), none, true⟩] e σ Q := propext ⟨fun h => h, fun h => h⟩
def k30_r4 : List COp := [
  ⟨some 20, .move (.tmp 4), none, true⟩,
  ⟨some 21, .call { callee := .value (.func 51), args := #[.tmp 20], argTypes := #[44] }, none, true⟩,
  ⟨some 22, .fieldAddr 24 (.tmp 5) 2, none, true⟩,
  ⟨none, .store 3 (.tmp 22) (.tmp 21), none, true⟩]
theorem k30_r4_e : Eo P pr N k30_r4 e σ Q = Eo P pr N [
  ⟨some 20, .move (.tmp 4), none, true⟩,
  ⟨some 21, .call { callee := .value (.func 51), args := #[.tmp 20], argTypes := #[44] }, none, true⟩,
  ⟨some 22, .fieldAddr 24 (.tmp 5) 2, none, true⟩,
  ⟨none, .store 3 (.tmp 22) (.tmp 21), none, true⟩] e σ Q := propext ⟨fun h => h, fun h => h⟩
def k30_r5 : List COp := [
  ⟨some 23, .move (.tmp 4), none, true⟩,
  ⟨some 24, .call { callee := .value (.func 51), args := #[.tmp 23], argTypes := #[44] }, none, true⟩,
  ⟨some 25, .fieldAddr 24 (.tmp 5) 3, none, true⟩,
  ⟨none, .store 3 (.tmp 25) (.tmp 24), none, true⟩]
theorem k30_r5_e : Eo P pr N k30_r5 e σ Q = Eo P pr N [
  ⟨some 23, .move (.tmp 4), none, true⟩,
  ⟨some 24, .call { callee := .value (.func 51), args := #[.tmp 23], argTypes := #[44] }, none, true⟩,
  ⟨some 25, .fieldAddr 24 (.tmp 5) 3, none, true⟩,
  ⟨none, .store 3 (.tmp 25) (.tmp 24), none, true⟩] e σ Q := propext ⟨fun h => h, fun h => h⟩
def k30_r6 : List COp := [
  ⟨some 26, .move (.tmp 4), none, true⟩,
  ⟨some 27, .call { callee := .value (.func 51), args := #[.tmp 26], argTypes := #[44] }, none, true⟩,
  ⟨some 28, .fieldAddr 24 (.tmp 5) 4, none, true⟩,
  ⟨none, .store 3 (.tmp 28) (.tmp 27), none, true⟩]
theorem k30_r6_e : Eo P pr N k30_r6 e σ Q = Eo P pr N [
  ⟨some 26, .move (.tmp 4), none, true⟩,
  ⟨some 27, .call { callee := .value (.func 51), args := #[.tmp 26], argTypes := #[44] }, none, true⟩,
  ⟨some 28, .fieldAddr 24 (.tmp 5) 4, none, true⟩,
  ⟨none, .store 3 (.tmp 28) (.tmp 27), none, true⟩] e σ Q := propext ⟨fun h => h, fun h => h⟩
def k30_r7 : List COp := [
  ⟨some 29, .move (.tmp 4), none, true⟩,
  ⟨some 30, .call { callee := .value (.func 51), args := #[.tmp 29], argTypes := #[44] }, none, true⟩,
  ⟨some 31, .fieldAddr 24 (.tmp 5) 5, none, true⟩,
  ⟨none, .store 3 (.tmp 31) (.tmp 30), none, true⟩]
theorem k30_r7_e : Eo P pr N k30_r7 e σ Q = Eo P pr N [
  ⟨some 29, .move (.tmp 4), none, true⟩,
  ⟨some 30, .call { callee := .value (.func 51), args := #[.tmp 29], argTypes := #[44] }, none, true⟩,
  ⟨some 31, .fieldAddr 24 (.tmp 5) 5, none, true⟩,
  ⟨none, .store 3 (.tmp 31) (.tmp 30), none, true⟩] e σ Q := propext ⟨fun h => h, fun h => h⟩
def k30_r8 : List COp := [
  ⟨some 32, .move (.tmp 4), none, true⟩,
  ⟨some 33, .call { callee := .value (.func 51), args := #[.tmp 32], argTypes := #[44] }, none, true⟩,
  ⟨some 34, .fieldAddr 24 (.tmp 5) 6, none, true⟩,
  ⟨none, .store 3 (.tmp 34) (.tmp 33), none, true⟩]
theorem k30_r8_e : Eo P pr N k30_r8 e σ Q = Eo P pr N [
  ⟨some 32, .move (.tmp 4), none, true⟩,
  ⟨some 33, .call { callee := .value (.func 51), args := #[.tmp 32], argTypes := #[44] }, none, true⟩,
  ⟨some 34, .fieldAddr 24 (.tmp 5) 6, none, true⟩,
  ⟨none, .store 3 (.tmp 34) (.tmp 33), none, true⟩] e σ Q := propext ⟨fun h => h, fun h => h⟩
def k30_r9 : List COp := [
  ⟨some 35, .move (.tmp 4), none, true⟩,
  ⟨some 36, .call { callee := .value (.func 51), args := #[.tmp 35], argTypes := #[44] }, none, true⟩,
  ⟨some 6, .assign (.tmp 36), none, true⟩]
theorem k30_r9_e : Eo P pr N k30_r9 e σ Q = Eo P pr N [
  ⟨some 35, .move (.tmp 4), none, true⟩,
  ⟨some 36, .call { callee := .value (.func 51), args := #[.tmp 35], argTypes := #[44] }, none, true⟩,
  ⟨some 6, .assign (.tmp 36), none, true⟩] e σ Q := propext ⟨fun h => h, fun h => h⟩
def k30_r10 : List COp := [
  ⟨some 37, .move (.tmp 6), none, true⟩,
  ⟨some 38, .binOp .eql 3 (.tmp 37) (.const (.int .i64 1)) 3, none, true⟩,
  ⟨some 39, .fieldAddr 24 (.tmp 5) 7, none, true⟩,
  ⟨none, .store 4 (.tmp 39) (.tmp 38), none, true⟩]
theorem k30_r10_e : Eo P pr N k30_r10 e σ Q = Eo P pr N [
  ⟨some 37, .move (.tmp 6), none, true⟩,
  ⟨some 38, .binOp .eql 3 (.tmp 37) (.const (.int .i64 1)) 3, none, true⟩,
  ⟨some 39, .fieldAddr 24 (.tmp 5) 7, none, true⟩,
  ⟨none, .store 4 (.tmp 39) (.tmp 38), none, true⟩] e σ Q := propext ⟨fun h => h, fun h => h⟩
def k30_r11 : List COp := [
  ⟨some 40, .move (.tmp 4), none, true⟩,
  ⟨some 41, .move (.tmp 4), none, true⟩,
  ⟨some 42, .call { callee := .value (.func 51), args := #[.tmp 41], argTypes := #[44] }, none, true⟩,
  ⟨some 43, .call { callee := .value (.func 52), args := #[.tmp 40, .tmp 42], argTypes := #[44, 3] }, none, true⟩,
  ⟨some 44, .convert 27 9 (.tmp 43), none, true⟩,
  ⟨some 45, .fieldAddr 24 (.tmp 5) 9, none, true⟩,
  ⟨none, .store 9 (.tmp 45) (.tmp 44), none, true⟩]
theorem k30_r11_e : Eo P pr N k30_r11 e σ Q = Eo P pr N [
  ⟨some 40, .move (.tmp 4), none, true⟩,
  ⟨some 41, .move (.tmp 4), none, true⟩,
  ⟨some 42, .call { callee := .value (.func 51), args := #[.tmp 41], argTypes := #[44] }, none, true⟩,
  ⟨some 43, .call { callee := .value (.func 52), args := #[.tmp 40, .tmp 42], argTypes := #[44, 3] }, none, true⟩,
  ⟨some 44, .convert 27 9 (.tmp 43), none, true⟩,
  ⟨some 45, .fieldAddr 24 (.tmp 5) 9, none, true⟩,
  ⟨none, .store 9 (.tmp 45) (.tmp 44), none, true⟩] e σ Q := propext ⟨fun h => h, fun h => h⟩
def k30_r12 : List COp := [
  ⟨some 47, .move (.tmp 4), none, true⟩,
  ⟨some 48, .call { callee := .value (.func 25), args := #[.tmp 47, .const (.int .i64 16)], argTypes := #[44, 3] }, none, true⟩,
  ⟨some 46, .move (.tmp 48), none, true⟩,
  ⟨some 49, .extract (.tmp 46) 0, none, true⟩,
  ⟨some 50, .extract (.tmp 46) 1, none, true⟩,
  ⟨some 7, .assign (.tmp 49), none, true⟩,
  ⟨some 8, .assign (.tmp 50), none, true⟩]
theorem k30_r12_e : Eo P pr N k30_r12 e σ Q = Eo P pr N [
  ⟨some 47, .move (.tmp 4), none, true⟩,
  ⟨some 48, .call { callee := .value (.func 25), args := #[.tmp 47, .const (.int .i64 16)], argTypes := #[44, 3] }, none, true⟩,
  ⟨some 46, .move (.tmp 48), none, true⟩,
  ⟨some 49, .extract (.tmp 46) 0, none, true⟩,
  ⟨some 50, .extract (.tmp 46) 1, none, true⟩,
  ⟨some 7, .assign (.tmp 49), none, true⟩,
  ⟨some 8, .assign (.tmp 50), none, true⟩] e σ Q := propext ⟨fun h => h, fun h => h⟩
def k30_r13 : List COp := [
  ⟨some 51, .move (.tmp 7), none, true⟩,
  ⟨some 52, .fieldAddr 24 (.tmp 5) 8, none, true⟩,
  ⟨none, .store 22 (.tmp 52) (.tmp 51), none, true⟩]
theorem k30_r13_e : Eo P pr N k30_r13 e σ Q = Eo P pr N [
  ⟨some 51, .move (.tmp 7), none, true⟩,
  ⟨some 52, .fieldAddr 24 (.tmp 5) 8, none, true⟩,
  ⟨none, .store 22 (.tmp 52) (.tmp 51), none, true⟩] e σ Q := propext ⟨fun h => h, fun h => h⟩
def k30_r14 : List COp := [
  ⟨some 53, .move (.tmp 8), none, true⟩,
  ⟨some 54, .unOp .not 4 (.tmp 53), none, true⟩,
  ⟨some 55, .move (.tmp 54), none, true⟩,
  ⟨some 56, .move (.tmp 4), some (55, false), true⟩,
  ⟨some 57, .nilCheck (.tmp 56), some (55, false), true⟩,
  ⟨some 58, .fieldAddr 46 (.tmp 57) 1, some (55, false), true⟩,
  ⟨some 59, .load 4 (.tmp 58), some (55, false), true⟩,
  ⟨some 60, .pick (.tmp 55) (.const (.bool true)) (.tmp 59), none, true⟩,
  ⟨some 61, .move (.tmp 60), none, true⟩,
  ⟨some 62, .move (.tmp 4), some (61, false), true⟩,
  ⟨some 63, .nilCheck (.tmp 62), some (61, false), true⟩,
  ⟨some 64, .fieldAddr 46 (.tmp 63) 0, some (61, false), true⟩,
  ⟨some 65, .load 27 (.tmp 64), some (61, false), true⟩,
  ⟨some 66, .call { callee := .builtin .len, args := #[.tmp 65], argTypes := #[27] }, some (61, false), true⟩,
  ⟨some 67, .binOp .gtr 3 (.tmp 66) (.const (.int .i64 0)) 3, some (61, false), true⟩,
  ⟨some 68, .pick (.tmp 61) (.const (.bool true)) (.tmp 67), none, true⟩,
  ⟨some 69, .move (.tmp 68), none, true⟩,
  ⟨some 70, .move (.tmp 6), some (69, false), true⟩,
  ⟨some 71, .binOp .gtr 3 (.tmp 70) (.const (.int .i64 1)) 3, some (69, false), true⟩,
  ⟨some 72, .pick (.tmp 69) (.const (.bool true)) (.tmp 71), none, true⟩,
  ⟨some 73, .move (.tmp 72), none, true⟩,
  ⟨some 74, .load 24 (.tmp 5), some (73, false), true⟩,
  ⟨some 75, .call { callee := .value (.func 32), args := #[.tmp 74], argTypes := #[24] }, some (73, false), true⟩,
  ⟨some 76, .unOp .not 4 (.tmp 75), some (73, false), true⟩,
  ⟨some 77, .pick (.tmp 73) (.const (.bool true)) (.tmp 76), none, true⟩]
theorem k30_r14_e : Eo P pr N k30_r14 e σ Q = Eo P pr N [
  ⟨some 53, .move (.tmp 8), none, true⟩,
  ⟨some 54, .unOp .not 4 (.tmp 53), none, true⟩,
  ⟨some 55, .move (.tmp 54), none, true⟩,
  ⟨some 56, .move (.tmp 4), some (55, false), true⟩,
  ⟨some 57, .nilCheck (.tmp 56), some (55, false), true⟩,
  ⟨some 58, .fieldAddr 46 (.tmp 57) 1, some (55, false), true⟩,
  ⟨some 59, .load 4 (.tmp 58), some (55, false), true⟩,
  ⟨some 60, .pick (.tmp 55) (.const (.bool true)) (.tmp 59), none, true⟩,
  ⟨some 61, .move (.tmp 60), none, true⟩,
  ⟨some 62, .move (.tmp 4), some (61, false), true⟩,
  ⟨some 63, .nilCheck (.tmp 62), some (61, false), true⟩,
  ⟨some 64, .fieldAddr 46 (.tmp 63) 0, some (61, false), true⟩,
  ⟨some 65, .load 27 (.tmp 64), some (61, false), true⟩,
  ⟨some 66, .call { callee := .builtin .len, args := #[.tmp 65], argTypes := #[27] }, some (61, false), true⟩,
  ⟨some 67, .binOp .gtr 3 (.tmp 66) (.const (.int .i64 0)) 3, some (61, false), true⟩,
  ⟨some 68, .pick (.tmp 61) (.const (.bool true)) (.tmp 67), none, true⟩,
  ⟨some 69, .move (.tmp 68), none, true⟩,
  ⟨some 70, .move (.tmp 6), some (69, false), true⟩,
  ⟨some 71, .binOp .gtr 3 (.tmp 70) (.const (.int .i64 1)) 3, some (69, false), true⟩,
  ⟨some 72, .pick (.tmp 69) (.const (.bool true)) (.tmp 71), none, true⟩,
  ⟨some 73, .move (.tmp 72), none, true⟩,
  ⟨some 74, .load 24 (.tmp 5), some (73, false), true⟩,
  ⟨some 75, .call { callee := .value (.func 32), args := #[.tmp 74], argTypes := #[24] }, some (73, false), true⟩,
  ⟨some 76, .unOp .not 4 (.tmp 75), some (73, false), true⟩,
  ⟨some 77, .pick (.tmp 73) (.const (.bool true)) (.tmp 76), none, true⟩] e σ Q := propext ⟨fun h => h, fun h => h⟩
def k30_r15 : List COp := [
  ⟨some 78, .build 24 #[], none, true⟩,
  ⟨none, .store 24 (.tmp 2) (.tmp 78), none, true⟩,
  ⟨some 3, .assign (.const (.int .i64 11)), none, true⟩]
theorem k30_r15_e : Eo P pr N k30_r15 e σ Q = Eo P pr N [
  ⟨some 78, .build 24 #[], none, true⟩,
  ⟨none, .store 24 (.tmp 2) (.tmp 78), none, true⟩,
  ⟨some 3, .assign (.const (.int .i64 11)), none, true⟩] e σ Q := propext ⟨fun h => h, fun h => h⟩
def k30_r16 : List COp := [
  ⟨some 79, .load 24 (.tmp 5), none, true⟩,
  ⟨none, .store 24 (.tmp 2) (.tmp 79), none, true⟩,
  ⟨some 3, .assign (.const (.int .i64 0)), none, true⟩]
theorem k30_r16_e : Eo P pr N k30_r16 e σ Q = Eo P pr N [
  ⟨some 79, .load 24 (.tmp 5), none, true⟩,
  ⟨none, .store 24 (.tmp 2) (.tmp 79), none, true⟩,
  ⟨some 3, .assign (.const (.int .i64 0)), none, true⟩] e σ Q := propext ⟨fun h => h, fun h => h⟩
def k30 : CC := (.seq (.region k30_r0) (.seq (.region k30_r1) (.seq (.region k30_r2) (.seq (.region k30_r3) (.seq (.region k30_r4) (.seq (.region k30_r5) (.seq (.region k30_r6) (.seq (.region k30_r7) (.seq (.region k30_r8) (.seq (.region k30_r9) (.seq (.region k30_r10) (.seq (.region k30_r11) (.seq (.region k30_r12) (.seq (.region k30_r13) (.seq (.seq (.region k30_r14) (.cond (.tmp 77) (.seq (.region k30_r15) .ret) .skip)) (.seq (.region k30_r16) .ret))))))))))))))))
theorem k30_e : Ev P pr N k30 e σ Q = Ev P pr N (.seq (.region k30_r0) (.seq (.region k30_r1) (.seq (.region k30_r2) (.seq (.region k30_r3) (.seq (.region k30_r4) (.seq (.region k30_r5) (.seq (.region k30_r6) (.seq (.region k30_r7) (.seq (.region k30_r8) (.seq (.region k30_r9) (.seq (.region k30_r10) (.seq (.region k30_r11) (.seq (.region k30_r12) (.seq (.region k30_r13) (.seq (.seq (.region k30_r14) (.cond (.tmp 77) (.seq (.region k30_r15) .ret) .skip)) (.seq (.region k30_r16) .ret)))))))))))))))) e σ Q := propext ⟨fun h => h, fun h => h⟩
/-- quern/quernref22.Decode -/
theorem k30_is : FnIs Try.prog noPrim 30 80 [ResultVar.cell 2 24, ResultVar.tmp 3] k30 := FnIs.of_fn Try.func30 (by kernel_rfl)
def k31_r0 : List COp := [
  ⟨some 1, .box 24 (.tmp 0), none, true⟩,
  ⟨some 2, .assign (.const (.bool false)), none, true⟩]
theorem k31_r0_e : Eo P pr N k31_r0 e σ Q = Eo P pr N [
  ⟨some 1, .box 24 (.tmp 0), none, true⟩,
  ⟨some 2, .assign (.const (.bool false)), none, true⟩] e σ Q := propext ⟨fun h => h, fun h => h⟩
def k31_r1 : List COp := [
  ⟨some 5, .fieldAddr 24 (.tmp 1) 0, none, true⟩,
  ⟨some 6, .load 3 (.tmp 5), none, true⟩,
  ⟨some 7, .binOp .lss 3 (.tmp 6) (.const (.int .i64 0)) 3, none, true⟩,
  ⟨some 8, .move (.tmp 7), none, true⟩,
  ⟨some 9, .fieldAddr 24 (.tmp 1) 0, some (8, false), true⟩,
  ⟨some 10, .load 3 (.tmp 9), some (8, false), true⟩,
  ⟨some 11, .binOp .geq 3 (.tmp 10) (.const (.int .i64 7)) 3, some (8, false), true⟩,
  ⟨some 12, .pick (.tmp 8) (.const (.bool true)) (.tmp 11), none, true⟩,
  ⟨some 13, .move (.tmp 12), none, true⟩,
  ⟨some 14, .fieldAddr 24 (.tmp 1) 1, some (13, false), true⟩,
  ⟨some 15, .load 3 (.tmp 14), some (13, false), true⟩,
  ⟨some 16, .binOp .lss 3 (.tmp 15) (.const (.int .i64 0)) 3, some (13, false), true⟩,
  ⟨some 17, .pick (.tmp 13) (.const (.bool true)) (.tmp 16), none, true⟩,
  ⟨some 18, .move (.tmp 17), none, true⟩,
  ⟨some 19, .fieldAddr 24 (.tmp 1) 1, some (18, false), true⟩,
  ⟨some 20, .load 3 (.tmp 19), some (18, false), true⟩,
  ⟨some 21, .binOp .geq 3 (.tmp 20) (.const (.int .i64 7)) 3, some (18, false), true⟩,
  ⟨some 22, .pick (.tmp 18) (.const (.bool true)) (.tmp 21), none, true⟩,
  ⟨some 23, .move (.tmp 22), none, true⟩,
  ⟨some 24, .fieldAddr 24 (.tmp 1) 2, some (23, false), true⟩,
  ⟨some 25, .load 3 (.tmp 24), some (23, false), true⟩,
  ⟨some 26, .binOp .lss 3 (.tmp 25) (.const (.int .i64 1)) 3, some (23, false), true⟩,
  ⟨some 27, .pick (.tmp 23) (.const (.bool true)) (.tmp 26), none, true⟩,
  ⟨some 28, .move (.tmp 27), none, true⟩,
  ⟨some 29, .fieldAddr 24 (.tmp 1) 2, some (28, false), true⟩,
  ⟨some 30, .load 3 (.tmp 29), some (28, false), true⟩,
  ⟨some 31, .binOp .gtr 3 (.tmp 30) (.const (.int .i64 5)) 3, some (28, false), true⟩,
  ⟨some 32, .pick (.tmp 28) (.const (.bool true)) (.tmp 31), none, true⟩,
  ⟨some 33, .move (.tmp 32), none, true⟩,
  ⟨some 34, .fieldAddr 24 (.tmp 1) 3, some (33, false), true⟩,
  ⟨some 35, .load 3 (.tmp 34), some (33, false), true⟩,
  ⟨some 36, .fieldAddr 24 (.tmp 1) 4, some (33, false), true⟩,
  ⟨some 37, .load 3 (.tmp 36), some (33, false), true⟩,
  ⟨some 38, .fieldAddr 24 (.tmp 1) 5, some (33, false), true⟩,
  ⟨some 39, .load 3 (.tmp 38), some (33, false), true⟩,
  ⟨some 40, .fieldAddr 24 (.tmp 1) 6, some (33, false), true⟩,
  ⟨some 41, .load 3 (.tmp 40), some (33, false), true⟩,
  ⟨some 42, .call { callee := .builtin .min, args := #[.tmp 35, .tmp 37, .tmp 39, .tmp 41], argTypes := #[3, 3, 3, 3] }, some (33, false), true⟩,
  ⟨some 43, .binOp .lss 3 (.tmp 42) (.const (.int .i64 0)) 3, some (33, false), true⟩,
  ⟨some 44, .pick (.tmp 33) (.const (.bool true)) (.tmp 43), none, true⟩,
  ⟨some 45, .move (.tmp 44), none, true⟩,
  ⟨some 46, .fieldAddr 24 (.tmp 1) 8, some (45, false), true⟩,
  ⟨some 47, .load 22 (.tmp 46), some (45, false), true⟩,
  ⟨some 48, .call { callee := .builtin .len, args := #[.tmp 47], argTypes := #[22] }, some (45, false), true⟩,
  ⟨some 49, .binOp .gtr 3 (.tmp 48) (.const (.int .i64 16)) 3, some (45, false), true⟩,
  ⟨some 50, .pick (.tmp 45) (.const (.bool true)) (.tmp 49), none, true⟩]
theorem k31_r1_e : Eo P pr N k31_r1 e σ Q = Eo P pr N [
  ⟨some 5, .fieldAddr 24 (.tmp 1) 0, none, true⟩,
  ⟨some 6, .load 3 (.tmp 5), none, true⟩,
  ⟨some 7, .binOp .lss 3 (.tmp 6) (.const (.int .i64 0)) 3, none, true⟩,
  ⟨some 8, .move (.tmp 7), none, true⟩,
  ⟨some 9, .fieldAddr 24 (.tmp 1) 0, some (8, false), true⟩,
  ⟨some 10, .load 3 (.tmp 9), some (8, false), true⟩,
  ⟨some 11, .binOp .geq 3 (.tmp 10) (.const (.int .i64 7)) 3, some (8, false), true⟩,
  ⟨some 12, .pick (.tmp 8) (.const (.bool true)) (.tmp 11), none, true⟩,
  ⟨some 13, .move (.tmp 12), none, true⟩,
  ⟨some 14, .fieldAddr 24 (.tmp 1) 1, some (13, false), true⟩,
  ⟨some 15, .load 3 (.tmp 14), some (13, false), true⟩,
  ⟨some 16, .binOp .lss 3 (.tmp 15) (.const (.int .i64 0)) 3, some (13, false), true⟩,
  ⟨some 17, .pick (.tmp 13) (.const (.bool true)) (.tmp 16), none, true⟩,
  ⟨some 18, .move (.tmp 17), none, true⟩,
  ⟨some 19, .fieldAddr 24 (.tmp 1) 1, some (18, false), true⟩,
  ⟨some 20, .load 3 (.tmp 19), some (18, false), true⟩,
  ⟨some 21, .binOp .geq 3 (.tmp 20) (.const (.int .i64 7)) 3, some (18, false), true⟩,
  ⟨some 22, .pick (.tmp 18) (.const (.bool true)) (.tmp 21), none, true⟩,
  ⟨some 23, .move (.tmp 22), none, true⟩,
  ⟨some 24, .fieldAddr 24 (.tmp 1) 2, some (23, false), true⟩,
  ⟨some 25, .load 3 (.tmp 24), some (23, false), true⟩,
  ⟨some 26, .binOp .lss 3 (.tmp 25) (.const (.int .i64 1)) 3, some (23, false), true⟩,
  ⟨some 27, .pick (.tmp 23) (.const (.bool true)) (.tmp 26), none, true⟩,
  ⟨some 28, .move (.tmp 27), none, true⟩,
  ⟨some 29, .fieldAddr 24 (.tmp 1) 2, some (28, false), true⟩,
  ⟨some 30, .load 3 (.tmp 29), some (28, false), true⟩,
  ⟨some 31, .binOp .gtr 3 (.tmp 30) (.const (.int .i64 5)) 3, some (28, false), true⟩,
  ⟨some 32, .pick (.tmp 28) (.const (.bool true)) (.tmp 31), none, true⟩,
  ⟨some 33, .move (.tmp 32), none, true⟩,
  ⟨some 34, .fieldAddr 24 (.tmp 1) 3, some (33, false), true⟩,
  ⟨some 35, .load 3 (.tmp 34), some (33, false), true⟩,
  ⟨some 36, .fieldAddr 24 (.tmp 1) 4, some (33, false), true⟩,
  ⟨some 37, .load 3 (.tmp 36), some (33, false), true⟩,
  ⟨some 38, .fieldAddr 24 (.tmp 1) 5, some (33, false), true⟩,
  ⟨some 39, .load 3 (.tmp 38), some (33, false), true⟩,
  ⟨some 40, .fieldAddr 24 (.tmp 1) 6, some (33, false), true⟩,
  ⟨some 41, .load 3 (.tmp 40), some (33, false), true⟩,
  ⟨some 42, .call { callee := .builtin .min, args := #[.tmp 35, .tmp 37, .tmp 39, .tmp 41], argTypes := #[3, 3, 3, 3] }, some (33, false), true⟩,
  ⟨some 43, .binOp .lss 3 (.tmp 42) (.const (.int .i64 0)) 3, some (33, false), true⟩,
  ⟨some 44, .pick (.tmp 33) (.const (.bool true)) (.tmp 43), none, true⟩,
  ⟨some 45, .move (.tmp 44), none, true⟩,
  ⟨some 46, .fieldAddr 24 (.tmp 1) 8, some (45, false), true⟩,
  ⟨some 47, .load 22 (.tmp 46), some (45, false), true⟩,
  ⟨some 48, .call { callee := .builtin .len, args := #[.tmp 47], argTypes := #[22] }, some (45, false), true⟩,
  ⟨some 49, .binOp .gtr 3 (.tmp 48) (.const (.int .i64 16)) 3, some (45, false), true⟩,
  ⟨some 50, .pick (.tmp 45) (.const (.bool true)) (.tmp 49), none, true⟩] e σ Q := propext ⟨fun h => h, fun h => h⟩
def k31_r2 : List COp := [
  ⟨some 2, .assign (.const (.bool false)), none, true⟩]
theorem k31_r2_e : Eo P pr N k31_r2 e σ Q = Eo P pr N [
  ⟨some 2, .assign (.const (.bool false)), none, true⟩] e σ Q := propext ⟨fun h => h, fun h => h⟩
def k31_r3 : List COp := [
  ⟨some 52, .fieldAddr 24 (.tmp 1) 8, none, true⟩,
  ⟨some 53, .load 22 (.tmp 52), none, true⟩,
  ⟨some 54, .call { callee := .value (.func 21), args := #[.const (.slice .none 0 0), .tmp 53], argTypes := #[27, 22] }, none, true⟩,
  ⟨some 55, .call { callee := .value (.func 23), args := #[.tmp 54], argTypes := #[27] }, none, true⟩,
  ⟨some 56, .call { callee := .value (.func 24), args := #[.tmp 55, .const (.int .i64 16)], argTypes := #[42, 3] }, none, true⟩,
  ⟨some 51, .move (.tmp 56), none, true⟩,
  ⟨some 57, .extract (.tmp 51) 0, none, true⟩,
  ⟨some 58, .extract (.tmp 51) 1, none, true⟩,
  ⟨some 3, .assign (.tmp 57), none, true⟩,
  ⟨some 4, .assign (.tmp 58), none, true⟩]
theorem k31_r3_e : Eo P pr N k31_r3 e σ Q = Eo P pr N [
  ⟨some 52, .fieldAddr 24 (.tmp 1) 8, none, true⟩,
  ⟨some 53, .load 22 (.tmp 52), none, true⟩,
  ⟨some 54, .call { callee := .value (.func 21), args := #[.const (.slice .none 0 0), .tmp 53], argTypes := #[27, 22] }, none, true⟩,
  ⟨some 55, .call { callee := .value (.func 23), args := #[.tmp 54], argTypes := #[27] }, none, true⟩,
  ⟨some 56, .call { callee := .value (.func 24), args := #[.tmp 55, .const (.int .i64 16)], argTypes := #[42, 3] }, none, true⟩,
  ⟨some 51, .move (.tmp 56), none, true⟩,
  ⟨some 57, .extract (.tmp 51) 0, none, true⟩,
  ⟨some 58, .extract (.tmp 51) 1, none, true⟩,
  ⟨some 3, .assign (.tmp 57), none, true⟩,
  ⟨some 4, .assign (.tmp 58), none, true⟩] e σ Q := propext ⟨fun h => h, fun h => h⟩
def k31_r4 : List COp := [
  ⟨some 59, .move (.tmp 4), none, true⟩,
  ⟨some 60, .move (.tmp 59), none, true⟩,
  ⟨some 61, .fieldAddr 24 (.tmp 1) 8, some (60, true), true⟩,
  ⟨some 62, .load 22 (.tmp 61), some (60, true), true⟩,
  ⟨some 63, .call { callee := .value (.func 58), args := #[.tmp 62, .func 59], argTypes := #[22, 83] }, some (60, true), true⟩,
  ⟨some 64, .unOp .not 4 (.tmp 63), some (60, true), true⟩,
  ⟨some 65, .pick (.tmp 60) (.tmp 64) (.const (.bool false)), none, true⟩,
  ⟨some 2, .assign (.tmp 65), none, true⟩]
theorem k31_r4_e : Eo P pr N k31_r4 e σ Q = Eo P pr N [
  ⟨some 59, .move (.tmp 4), none, true⟩,
  ⟨some 60, .move (.tmp 59), none, true⟩,
  ⟨some 61, .fieldAddr 24 (.tmp 1) 8, some (60, true), true⟩,
  ⟨some 62, .load 22 (.tmp 61), some (60, true), true⟩,
  ⟨some 63, .call { callee := .value (.func 58), args := #[.tmp 62, .func 59], argTypes := #[22, 83] }, some (60, true), true⟩,
  ⟨some 64, .unOp .not 4 (.tmp 63), some (60, true), true⟩,
  ⟨some 65, .pick (.tmp 60) (.tmp 64) (.const (.bool false)), none, true⟩,
  ⟨some 2, .assign (.tmp 65), none, true⟩] e σ Q := propext ⟨fun h => h, fun h => h⟩
def k31 : CC := (.seq (.region k31_r0) (.seq (.seq (.region k31_r1) (.cond (.tmp 50) (.seq (.region k31_r2) .ret) .skip)) (.seq (.region k31_r3) (.seq (.region k31_r4) .ret))))
theorem k31_e : Ev P pr N k31 e σ Q = Ev P pr N (.seq (.region k31_r0) (.seq (.seq (.region k31_r1) (.cond (.tmp 50) (.seq (.region k31_r2) .ret) .skip)) (.seq (.region k31_r3) (.seq (.region k31_r4) .ret)))) e σ Q := propext ⟨fun h => h, fun h => h⟩
/-- quern/net.Valid -/
theorem k31_is : FnIs Try.prog noPrim 31 66 [ResultVar.tmp 2] k31 := FnIs.of_fn Try.func31 (by kernel_rfl)
def k32_r0 : List COp := [
  ⟨some 1, .box 24 (.tmp 0), none, true⟩,
  ⟨some 2, .assign (.const (.bool false)), none, true⟩]
theorem k32_r0_e : Eo P pr N k32_r0 e σ Q = Eo P pr N [
  ⟨some 1, .box 24 (.tmp 0), none, true⟩,
  ⟨some 2, .assign (.const (.bool false)), none, true⟩] e σ Q := propext ⟨fun h => h, fun h => h⟩
def k32_r1 : List COp := [
  ⟨some 6, .fieldAddr 24 (.tmp 1) 0, none, true⟩,
  ⟨some 7, .load 3 (.tmp 6), none, true⟩,
  ⟨some 8, .binOp .geq 3 (.tmp 7) (.const (.int .i64 0)) 3, none, true⟩,
  ⟨some 9, .move (.tmp 8), none, true⟩,
  ⟨some 10, .fieldAddr 24 (.tmp 1) 0, some (9, true), true⟩,
  ⟨some 11, .load 3 (.tmp 10), some (9, true), true⟩,
  ⟨some 12, .binOp .lss 3 (.tmp 11) (.const (.int .i64 7)) 3, some (9, true), true⟩,
  ⟨some 13, .pick (.tmp 9) (.tmp 12) (.const (.bool false)), none, true⟩,
  ⟨some 14, .move (.tmp 13), none, true⟩,
  ⟨some 15, .fieldAddr 24 (.tmp 1) 1, some (14, true), true⟩,
  ⟨some 16, .load 3 (.tmp 15), some (14, true), true⟩,
  ⟨some 17, .binOp .geq 3 (.tmp 16) (.const (.int .i64 0)) 3, some (14, true), true⟩,
  ⟨some 18, .pick (.tmp 14) (.tmp 17) (.const (.bool false)), none, true⟩,
  ⟨some 19, .move (.tmp 18), none, true⟩,
  ⟨some 20, .fieldAddr 24 (.tmp 1) 1, some (19, true), true⟩,
  ⟨some 21, .load 3 (.tmp 20), some (19, true), true⟩,
  ⟨some 22, .binOp .lss 3 (.tmp 21) (.const (.int .i64 7)) 3, some (19, true), true⟩,
  ⟨some 23, .pick (.tmp 19) (.tmp 22) (.const (.bool false)), none, true⟩,
  ⟨some 24, .move (.tmp 23), none, true⟩,
  ⟨some 25, .fieldAddr 24 (.tmp 1) 2, some (24, true), true⟩,
  ⟨some 26, .load 3 (.tmp 25), some (24, true), true⟩,
  ⟨some 27, .binOp .geq 3 (.tmp 26) (.const (.int .i64 1)) 3, some (24, true), true⟩,
  ⟨some 28, .pick (.tmp 24) (.tmp 27) (.const (.bool false)), none, true⟩,
  ⟨some 29, .move (.tmp 28), none, true⟩,
  ⟨some 30, .fieldAddr 24 (.tmp 1) 2, some (29, true), true⟩,
  ⟨some 31, .load 3 (.tmp 30), some (29, true), true⟩,
  ⟨some 32, .binOp .leq 3 (.tmp 31) (.const (.int .i64 5)) 3, some (29, true), true⟩,
  ⟨some 33, .pick (.tmp 29) (.tmp 32) (.const (.bool false)), none, true⟩,
  ⟨some 34, .move (.tmp 33), none, true⟩,
  ⟨some 35, .fieldAddr 24 (.tmp 1) 3, some (34, true), true⟩,
  ⟨some 36, .load 3 (.tmp 35), some (34, true), true⟩,
  ⟨some 37, .binOp .geq 3 (.tmp 36) (.const (.int .i64 0)) 3, some (34, true), true⟩,
  ⟨some 38, .pick (.tmp 34) (.tmp 37) (.const (.bool false)), none, true⟩,
  ⟨some 39, .move (.tmp 38), none, true⟩,
  ⟨some 40, .fieldAddr 24 (.tmp 1) 4, some (39, true), true⟩,
  ⟨some 41, .load 3 (.tmp 40), some (39, true), true⟩,
  ⟨some 42, .binOp .geq 3 (.tmp 41) (.const (.int .i64 0)) 3, some (39, true), true⟩,
  ⟨some 43, .pick (.tmp 39) (.tmp 42) (.const (.bool false)), none, true⟩,
  ⟨some 44, .move (.tmp 43), none, true⟩,
  ⟨some 45, .fieldAddr 24 (.tmp 1) 5, some (44, true), true⟩,
  ⟨some 46, .load 3 (.tmp 45), some (44, true), true⟩,
  ⟨some 47, .binOp .geq 3 (.tmp 46) (.const (.int .i64 0)) 3, some (44, true), true⟩,
  ⟨some 48, .pick (.tmp 44) (.tmp 47) (.const (.bool false)), none, true⟩,
  ⟨some 49, .move (.tmp 48), none, true⟩,
  ⟨some 50, .fieldAddr 24 (.tmp 1) 6, some (49, true), true⟩,
  ⟨some 51, .load 3 (.tmp 50), some (49, true), true⟩,
  ⟨some 52, .binOp .geq 3 (.tmp 51) (.const (.int .i64 0)) 3, some (49, true), true⟩,
  ⟨some 53, .pick (.tmp 49) (.tmp 52) (.const (.bool false)), none, true⟩,
  ⟨some 54, .move (.tmp 53), none, true⟩,
  ⟨some 55, .fieldAddr 24 (.tmp 1) 8, some (54, true), true⟩,
  ⟨some 56, .load 22 (.tmp 55), some (54, true), true⟩,
  ⟨some 57, .call { callee := .builtin .len, args := #[.tmp 56], argTypes := #[22] }, some (54, true), true⟩,
  ⟨some 58, .binOp .leq 3 (.tmp 57) (.const (.int .i64 16)) 3, some (54, true), true⟩,
  ⟨some 59, .pick (.tmp 54) (.tmp 58) (.const (.bool false)), none, true⟩,
  ⟨some 3, .assign (.tmp 59), none, true⟩]
theorem k32_r1_e : Eo P pr N k32_r1 e σ Q = Eo P pr N [
  ⟨some 6, .fieldAddr 24 (.tmp 1) 0, none, true⟩,
  ⟨some 7, .load 3 (.tmp 6), none, true⟩,
  ⟨some 8, .binOp .geq 3 (.tmp 7) (.const (.int .i64 0)) 3, none, true⟩,
  ⟨some 9, .move (.tmp 8), none, true⟩,
  ⟨some 10, .fieldAddr 24 (.tmp 1) 0, some (9, true), true⟩,
  ⟨some 11, .load 3 (.tmp 10), some (9, true), true⟩,
  ⟨some 12, .binOp .lss 3 (.tmp 11) (.const (.int .i64 7)) 3, some (9, true), true⟩,
  ⟨some 13, .pick (.tmp 9) (.tmp 12) (.const (.bool false)), none, true⟩,
  ⟨some 14, .move (.tmp 13), none, true⟩,
  ⟨some 15, .fieldAddr 24 (.tmp 1) 1, some (14, true), true⟩,
  ⟨some 16, .load 3 (.tmp 15), some (14, true), true⟩,
  ⟨some 17, .binOp .geq 3 (.tmp 16) (.const (.int .i64 0)) 3, some (14, true), true⟩,
  ⟨some 18, .pick (.tmp 14) (.tmp 17) (.const (.bool false)), none, true⟩,
  ⟨some 19, .move (.tmp 18), none, true⟩,
  ⟨some 20, .fieldAddr 24 (.tmp 1) 1, some (19, true), true⟩,
  ⟨some 21, .load 3 (.tmp 20), some (19, true), true⟩,
  ⟨some 22, .binOp .lss 3 (.tmp 21) (.const (.int .i64 7)) 3, some (19, true), true⟩,
  ⟨some 23, .pick (.tmp 19) (.tmp 22) (.const (.bool false)), none, true⟩,
  ⟨some 24, .move (.tmp 23), none, true⟩,
  ⟨some 25, .fieldAddr 24 (.tmp 1) 2, some (24, true), true⟩,
  ⟨some 26, .load 3 (.tmp 25), some (24, true), true⟩,
  ⟨some 27, .binOp .geq 3 (.tmp 26) (.const (.int .i64 1)) 3, some (24, true), true⟩,
  ⟨some 28, .pick (.tmp 24) (.tmp 27) (.const (.bool false)), none, true⟩,
  ⟨some 29, .move (.tmp 28), none, true⟩,
  ⟨some 30, .fieldAddr 24 (.tmp 1) 2, some (29, true), true⟩,
  ⟨some 31, .load 3 (.tmp 30), some (29, true), true⟩,
  ⟨some 32, .binOp .leq 3 (.tmp 31) (.const (.int .i64 5)) 3, some (29, true), true⟩,
  ⟨some 33, .pick (.tmp 29) (.tmp 32) (.const (.bool false)), none, true⟩,
  ⟨some 34, .move (.tmp 33), none, true⟩,
  ⟨some 35, .fieldAddr 24 (.tmp 1) 3, some (34, true), true⟩,
  ⟨some 36, .load 3 (.tmp 35), some (34, true), true⟩,
  ⟨some 37, .binOp .geq 3 (.tmp 36) (.const (.int .i64 0)) 3, some (34, true), true⟩,
  ⟨some 38, .pick (.tmp 34) (.tmp 37) (.const (.bool false)), none, true⟩,
  ⟨some 39, .move (.tmp 38), none, true⟩,
  ⟨some 40, .fieldAddr 24 (.tmp 1) 4, some (39, true), true⟩,
  ⟨some 41, .load 3 (.tmp 40), some (39, true), true⟩,
  ⟨some 42, .binOp .geq 3 (.tmp 41) (.const (.int .i64 0)) 3, some (39, true), true⟩,
  ⟨some 43, .pick (.tmp 39) (.tmp 42) (.const (.bool false)), none, true⟩,
  ⟨some 44, .move (.tmp 43), none, true⟩,
  ⟨some 45, .fieldAddr 24 (.tmp 1) 5, some (44, true), true⟩,
  ⟨some 46, .load 3 (.tmp 45), some (44, true), true⟩,
  ⟨some 47, .binOp .geq 3 (.tmp 46) (.const (.int .i64 0)) 3, some (44, true), true⟩,
  ⟨some 48, .pick (.tmp 44) (.tmp 47) (.const (.bool false)), none, true⟩,
  ⟨some 49, .move (.tmp 48), none, true⟩,
  ⟨some 50, .fieldAddr 24 (.tmp 1) 6, some (49, true), true⟩,
  ⟨some 51, .load 3 (.tmp 50), some (49, true), true⟩,
  ⟨some 52, .binOp .geq 3 (.tmp 51) (.const (.int .i64 0)) 3, some (49, true), true⟩,
  ⟨some 53, .pick (.tmp 49) (.tmp 52) (.const (.bool false)), none, true⟩,
  ⟨some 54, .move (.tmp 53), none, true⟩,
  ⟨some 55, .fieldAddr 24 (.tmp 1) 8, some (54, true), true⟩,
  ⟨some 56, .load 22 (.tmp 55), some (54, true), true⟩,
  ⟨some 57, .call { callee := .builtin .len, args := #[.tmp 56], argTypes := #[22] }, some (54, true), true⟩,
  ⟨some 58, .binOp .leq 3 (.tmp 57) (.const (.int .i64 16)) 3, some (54, true), true⟩,
  ⟨some 59, .pick (.tmp 54) (.tmp 58) (.const (.bool false)), none, true⟩,
  ⟨some 3, .assign (.tmp 59), none, true⟩] e σ Q := propext ⟨fun h => h, fun h => h⟩
def k32_r2 : List COp := [
  ⟨some 60, .fieldAddr 24 (.tmp 1) 8, none, true⟩,
  ⟨some 61, .load 22 (.tmp 60), none, true⟩,
  ⟨some 62, .call { callee := .builtin .len, args := #[.tmp 61], argTypes := #[22] }, none, true⟩,
  ⟨some 63, .move (.const (.int .i64 0)), none, true⟩]
theorem k32_r2_e : Eo P pr N k32_r2 e σ Q = Eo P pr N [
  ⟨some 60, .fieldAddr 24 (.tmp 1) 8, none, true⟩,
  ⟨some 61, .load 22 (.tmp 60), none, true⟩,
  ⟨some 62, .call { callee := .builtin .len, args := #[.tmp 61], argTypes := #[22] }, none, true⟩,
  ⟨some 63, .move (.const (.int .i64 0)), none, true⟩] e σ Q := propext ⟨fun h => h, fun h => h⟩
def k32_r3 : List COp := [
  ⟨some 64, .binOp .lss 3 (.tmp 63) (.tmp 62) 3, none, true⟩]
theorem k32_r3_e : Eo P pr N k32_r3 e σ Q = Eo P pr N [
  ⟨some 64, .binOp .lss 3 (.tmp 63) (.tmp 62) 3, none, true⟩] e σ Q := propext ⟨fun h => h, fun h => h⟩
def k32_r4 : List COp := [
  ⟨some 65, .indexAddr 22 (.tmp 61) (.tmp 63), none, true⟩,
  ⟨some 66, .load 66 (.tmp 65), none, true⟩,
  ⟨some 5, .alloc 66, none, true⟩,
  ⟨none, .store 66 (.tmp 5) (.tmp 66), none, true⟩]
theorem k32_r4_e : Eo P pr N k32_r4 e σ Q = Eo P pr N [
  ⟨some 65, .indexAddr 22 (.tmp 61) (.tmp 63), none, true⟩,
  ⟨some 66, .load 66 (.tmp 65), none, true⟩,
  ⟨some 5, .alloc 66, none, true⟩,
  ⟨none, .store 66 (.tmp 5) (.tmp 66), none, true⟩] e σ Q := propext ⟨fun h => h, fun h => h⟩
def k32_r5 : List COp := [
  ⟨some 67, .move (.tmp 3), none, true⟩,
  ⟨some 68, .move (.tmp 67), none, true⟩,
  ⟨some 69, .fieldAddr 66 (.tmp 5) 0, some (68, true), true⟩,
  ⟨some 70, .load 3 (.tmp 69), some (68, true), true⟩,
  ⟨some 71, .binOp .geq 3 (.tmp 70) (.const (.int .i64 0)) 3, some (68, true), true⟩,
  ⟨some 72, .pick (.tmp 68) (.tmp 71) (.const (.bool false)), none, true⟩,
  ⟨some 73, .move (.tmp 72), none, true⟩,
  ⟨some 74, .fieldAddr 66 (.tmp 5) 1, some (73, true), true⟩,
  ⟨some 75, .load 64 (.tmp 74), some (73, true), true⟩,
  ⟨some 76, .call { callee := .value (.func 60), args := #[.tmp 75], argTypes := #[64] }, some (73, true), true⟩,
  ⟨some 77, .pick (.tmp 73) (.tmp 76) (.const (.bool false)), none, true⟩,
  ⟨some 3, .assign (.tmp 77), none, true⟩]
theorem k32_r5_e : Eo P pr N k32_r5 e σ Q = Eo P pr N [
  ⟨some 67, .move (.tmp 3), none, true⟩,
  ⟨some 68, .move (.tmp 67), none, true⟩,
  ⟨some 69, .fieldAddr 66 (.tmp 5) 0, some (68, true), true⟩,
  ⟨some 70, .load 3 (.tmp 69), some (68, true), true⟩,
  ⟨some 71, .binOp .geq 3 (.tmp 70) (.const (.int .i64 0)) 3, some (68, true), true⟩,
  ⟨some 72, .pick (.tmp 68) (.tmp 71) (.const (.bool false)), none, true⟩,
  ⟨some 73, .move (.tmp 72), none, true⟩,
  ⟨some 74, .fieldAddr 66 (.tmp 5) 1, some (73, true), true⟩,
  ⟨some 75, .load 64 (.tmp 74), some (73, true), true⟩,
  ⟨some 76, .call { callee := .value (.func 60), args := #[.tmp 75], argTypes := #[64] }, some (73, true), true⟩,
  ⟨some 77, .pick (.tmp 73) (.tmp 76) (.const (.bool false)), none, true⟩,
  ⟨some 3, .assign (.tmp 77), none, true⟩] e σ Q := propext ⟨fun h => h, fun h => h⟩
def k32_r6 : List COp := [
  ⟨some 78, .binOp .add 3 (.tmp 63) (.const (.int .i64 1)) 3, none, true⟩,
  ⟨some 63, .move (.tmp 78), none, true⟩]
theorem k32_r6_e : Eo P pr N k32_r6 e σ Q = Eo P pr N [
  ⟨some 78, .binOp .add 3 (.tmp 63) (.const (.int .i64 1)) 3, none, true⟩,
  ⟨some 63, .move (.tmp 78), none, true⟩] e σ Q := propext ⟨fun h => h, fun h => h⟩
def k32_l0 : CC := (.seq (.region k32_r3) (.seq (.cond (.tmp 64) .skip (.exit 0)) (.seq (.block 1 (.seq (.region k32_r4) (.region k32_r5))) (.region k32_r6))))
theorem k32_l0_e : Ev P pr N k32_l0 e σ Q = Ev P pr N (.seq (.region k32_r3) (.seq (.cond (.tmp 64) .skip (.exit 0)) (.seq (.block 1 (.seq (.region k32_r4) (.region k32_r5))) (.region k32_r6)))) e σ Q := propext ⟨fun h => h, fun h => h⟩
def k32_r7 : List COp := [
  ⟨some 79, .move (.tmp 3), none, true⟩,
  ⟨some 2, .assign (.tmp 79), none, true⟩]
theorem k32_r7_e : Eo P pr N k32_r7 e σ Q = Eo P pr N [
  ⟨some 79, .move (.tmp 3), none, true⟩,
  ⟨some 2, .assign (.tmp 79), none, true⟩] e σ Q := propext ⟨fun h => h, fun h => h⟩
def k32 : CC := (.seq (.region k32_r0) (.seq (.region k32_r1) (.seq (.seq (.region k32_r2) (.block 0 (.loop k32_l0))) (.seq (.region k32_r7) .ret))))
theorem k32_e : Ev P pr N k32 e σ Q = Ev P pr N (.seq (.region k32_r0) (.seq (.region k32_r1) (.seq (.seq (.region k32_r2) (.block 0 (.loop k32_l0))) (.seq (.region k32_r7) .ret)))) e σ Q := propext ⟨fun h => h, fun h => h⟩
/-- quern/quernref22.Valid -/
theorem k32_is : FnIs Try.prog noPrim 32 80 [ResultVar.tmp 2] k32 := FnIs.of_fn Try.func32 (by kernel_rfl)
def k40_r0 : List COp := [
  ⟨some 4, .assign (.const (.slice .none 0 0)), none, true⟩]
theorem k40_r0_e : Eo P pr N k40_r0 e σ Q = Eo P pr N [
  ⟨some 4, .assign (.const (.slice .none 0 0)), none, true⟩] e σ Q := propext ⟨fun h => h, fun h => h⟩
def k40_r1 : List COp := [
  ⟨some 8, .move (.tmp 0), none, true⟩,
  ⟨some 9, .call { callee := .builtin .len, args := #[.tmp 8], argTypes := #[27] }, none, true⟩,
  ⟨some 10, .move (.tmp 1), none, true⟩,
  ⟨some 11, .call { callee := .builtin .len, args := #[.tmp 10], argTypes := #[81] }, none, true⟩,
  ⟨some 12, .binOp .mul 3 (.const (.int .i64 2)) (.tmp 11) 3, none, true⟩,
  ⟨some 13, .binOp .add 3 (.tmp 9) (.tmp 12) 3, none, true⟩,
  ⟨some 14, .makeSlice 27 (.const (.int .i64 0)) (.tmp 13), none, true⟩,
  ⟨some 15, .move (.tmp 0), none, true⟩,
  ⟨some 16, .call { callee := .builtin .append, args := #[.tmp 14, .tmp 15], argTypes := #[27, 27] }, none, true⟩,
  ⟨some 5, .assign (.tmp 16), none, true⟩]
theorem k40_r1_e : Eo P pr N k40_r1 e σ Q = Eo P pr N [
  ⟨some 8, .move (.tmp 0), none, true⟩,
  ⟨some 9, .call { callee := .builtin .len, args := #[.tmp 8], argTypes := #[27] }, none, true⟩,
  ⟨some 10, .move (.tmp 1), none, true⟩,
  ⟨some 11, .call { callee := .builtin .len, args := #[.tmp 10], argTypes := #[81] }, none, true⟩,
  ⟨some 12, .binOp .mul 3 (.const (.int .i64 2)) (.tmp 11) 3, none, true⟩,
  ⟨some 13, .binOp .add 3 (.tmp 9) (.tmp 12) 3, none, true⟩,
  ⟨some 14, .makeSlice 27 (.const (.int .i64 0)) (.tmp 13), none, true⟩,
  ⟨some 15, .move (.tmp 0), none, true⟩,
  ⟨some 16, .call { callee := .builtin .append, args := #[.tmp 14, .tmp 15], argTypes := #[27, 27] }, none, true⟩,
  ⟨some 5, .assign (.tmp 16), none, true⟩] e σ Q := propext ⟨fun h => h, fun h => h⟩
def k40_r2 : List COp := [
  ⟨some 17, .move (.tmp 1), none, true⟩,
  ⟨some 18, .call { callee := .builtin .len, args := #[.tmp 17], argTypes := #[81] }, none, true⟩,
  ⟨some 19, .move (.const (.int .i64 0)), none, true⟩]
theorem k40_r2_e : Eo P pr N k40_r2 e σ Q = Eo P pr N [
  ⟨some 17, .move (.tmp 1), none, true⟩,
  ⟨some 18, .call { callee := .builtin .len, args := #[.tmp 17], argTypes := #[81] }, none, true⟩,
  ⟨some 19, .move (.const (.int .i64 0)), none, true⟩] e σ Q := propext ⟨fun h => h, fun h => h⟩
def k40_r3 : List COp := [
  ⟨some 20, .binOp .lss 3 (.tmp 19) (.tmp 18) 3, none, true⟩]
theorem k40_r3_e : Eo P pr N k40_r3 e σ Q = Eo P pr N [
  ⟨some 20, .binOp .lss 3 (.tmp 19) (.tmp 18) 3, none, true⟩] e σ Q := propext ⟨fun h => h, fun h => h⟩
def k40_r4 : List COp := [
  ⟨some 21, .indexAddr 81 (.tmp 17) (.tmp 19), none, true⟩,
  ⟨some 22, .load 3 (.tmp 21), none, true⟩,
  ⟨some 7, .assign (.tmp 22), none, true⟩]
theorem k40_r4_e : Eo P pr N k40_r4 e σ Q = Eo P pr N [
  ⟨some 21, .indexAddr 81 (.tmp 17) (.tmp 19), none, true⟩,
  ⟨some 22, .load 3 (.tmp 21), none, true⟩,
  ⟨some 7, .assign (.tmp 22), none, true⟩] e σ Q := propext ⟨fun h => h, fun h => h⟩
def k40_r5 : List COp := [
  ⟨some 23, .move (.tmp 7), none, true⟩,
  ⟨some 24, .call { callee := .builtin .max, args := #[.tmp 23, .const (.int .i64 0)], argTypes := #[3, 3] }, none, true⟩,
  ⟨some 7, .assign (.tmp 24), none, true⟩]
theorem k40_r5_e : Eo P pr N k40_r5 e σ Q = Eo P pr N [
  ⟨some 23, .move (.tmp 7), none, true⟩,
  ⟨some 24, .call { callee := .builtin .max, args := #[.tmp 23, .const (.int .i64 0)], argTypes := #[3, 3] }, none, true⟩,
  ⟨some 7, .assign (.tmp 24), none, true⟩] e σ Q := propext ⟨fun h => h, fun h => h⟩
def k40_r6 : List COp := [
  ⟨some 25, .move (.tmp 7), none, true⟩,
  ⟨some 26, .binOp .gtr 3 (.tmp 25) (.const (.int .i64 127)) 3, none, true⟩]
theorem k40_r6_e : Eo P pr N k40_r6 e σ Q = Eo P pr N [
  ⟨some 25, .move (.tmp 7), none, true⟩,
  ⟨some 26, .binOp .gtr 3 (.tmp 25) (.const (.int .i64 127)) 3, none, true⟩] e σ Q := propext ⟨fun h => h, fun h => h⟩
def k40_r8 : List COp := [
  ⟨some 29, .move (.tmp 5), none, true⟩,
  ⟨some 30, .move (.tmp 7), none, true⟩,
  ⟨some 31, .binOp .and 3 (.tmp 30) (.const (.int .i64 127)) 3, none, true⟩,
  ⟨some 32, .binOp .or 3 (.tmp 31) (.const (.int .i64 128)) 3, none, true⟩,
  ⟨some 33, .convert 3 5 (.tmp 32), none, true⟩,
  ⟨some 34, .buildSlice 27 1 #[(0, .tmp 33)], none, true⟩,
  ⟨some 35, .call { callee := .builtin .append, args := #[.tmp 29, .tmp 34], argTypes := #[27, 27] }, none, true⟩,
  ⟨some 5, .assign (.tmp 35), none, true⟩]
theorem k40_r8_e : Eo P pr N k40_r8 e σ Q = Eo P pr N [
  ⟨some 29, .move (.tmp 5), none, true⟩,
  ⟨some 30, .move (.tmp 7), none, true⟩,
  ⟨some 31, .binOp .and 3 (.tmp 30) (.const (.int .i64 127)) 3, none, true⟩,
  ⟨some 32, .binOp .or 3 (.tmp 31) (.const (.int .i64 128)) 3, none, true⟩,
  ⟨some 33, .convert 3 5 (.tmp 32), none, true⟩,
  ⟨some 34, .buildSlice 27 1 #[(0, .tmp 33)], none, true⟩,
  ⟨some 35, .call { callee := .builtin .append, args := #[.tmp 29, .tmp 34], argTypes := #[27, 27] }, none, true⟩,
  ⟨some 5, .assign (.tmp 35), none, true⟩] e σ Q := propext ⟨fun h => h, fun h => h⟩
def k40_r7 : List COp := [
  ⟨some 27, .move (.tmp 7), none, true⟩,
  ⟨some 28, .binOp .shr 3 (.tmp 27) (.const (.int .u64 7)) 89, none, true⟩,
  ⟨some 7, .assign (.tmp 28), none, true⟩]
theorem k40_r7_e : Eo P pr N k40_r7 e σ Q = Eo P pr N [
  ⟨some 27, .move (.tmp 7), none, true⟩,
  ⟨some 28, .binOp .shr 3 (.tmp 27) (.const (.int .u64 7)) 89, none, true⟩,
  ⟨some 7, .assign (.tmp 28), none, true⟩] e σ Q := propext ⟨fun h => h, fun h => h⟩
def k40_l1 : CC := (.seq (.seq (.region k40_r6) (.cond (.tmp 26) .skip (.exit 2))) (.seq (.block 3 (.region k40_r8)) (.region k40_r7)))
theorem k40_l1_e : Ev P pr N k40_l1 e σ Q = Ev P pr N (.seq (.seq (.region k40_r6) (.cond (.tmp 26) .skip (.exit 2))) (.seq (.block 3 (.region k40_r8)) (.region k40_r7))) e σ Q := propext ⟨fun h => h, fun h => h⟩
def k40_r9 : List COp := [
  ⟨some 36, .move (.tmp 5), none, true⟩,
  ⟨some 37, .move (.tmp 7), none, true⟩,
  ⟨some 38, .convert 3 5 (.tmp 37), none, true⟩,
  ⟨some 39, .buildSlice 27 1 #[(0, .tmp 38)], none, true⟩,
  ⟨some 40, .call { callee := .builtin .append, args := #[.tmp 36, .tmp 39], argTypes := #[27, 27] }, none, true⟩,
  ⟨some 5, .assign (.tmp 40), none, true⟩]
theorem k40_r9_e : Eo P pr N k40_r9 e σ Q = Eo P pr N [
  ⟨some 36, .move (.tmp 5), none, true⟩,
  ⟨some 37, .move (.tmp 7), none, true⟩,
  ⟨some 38, .convert 3 5 (.tmp 37), none, true⟩,
  ⟨some 39, .buildSlice 27 1 #[(0, .tmp 38)], none, true⟩,
  ⟨some 40, .call { callee := .builtin .append, args := #[.tmp 36, .tmp 39], argTypes := #[27, 27] }, none, true⟩,
  ⟨some 5, .assign (.tmp 40), none, true⟩] e σ Q := propext ⟨fun h => h, fun h => h⟩
def k40_r10 : List COp := [
  ⟨some 41, .binOp .add 3 (.tmp 19) (.const (.int .i64 1)) 3, none, true⟩,
  ⟨some 19, .move (.tmp 41), none, true⟩]
theorem k40_r10_e : Eo P pr N k40_r10 e σ Q = Eo P pr N [
  ⟨some 41, .binOp .add 3 (.tmp 19) (.const (.int .i64 1)) 3, none, true⟩,
  ⟨some 19, .move (.tmp 41), none, true⟩] e σ Q := propext ⟨fun h => h, fun h => h⟩
def k40_l0 : CC := (.seq (.region k40_r3) (.seq (.cond (.tmp 20) .skip (.exit 0)) (.seq (.block 1 (.seq (.region k40_r4) (.seq (.region k40_r5) (.seq (.block 2 (.loop k40_l1)) (.region k40_r9))))) (.region k40_r10))))
theorem k40_l0_e : Ev P pr N k40_l0 e σ Q = Ev P pr N (.seq (.region k40_r3) (.seq (.cond (.tmp 20) .skip (.exit 0)) (.seq (.block 1 (.seq (.region k40_r4) (.seq (.region k40_r5) (.seq (.block 2 (.loop k40_l1)) (.region k40_r9))))) (.region k40_r10)))) e σ Q := propext ⟨fun h => h, fun h => h⟩
def k40_r11 : List COp := [
  ⟨some 42, .move (.tmp 5), none, true⟩,
  ⟨some 4, .assign (.tmp 42), none, true⟩]
theorem k40_r11_e : Eo P pr N k40_r11 e σ Q = Eo P pr N [
  ⟨some 42, .move (.tmp 5), none, true⟩,
  ⟨some 4, .assign (.tmp 42), none, true⟩] e σ Q := propext ⟨fun h => h, fun h => h⟩
def k40 : CC := (.seq (.region k40_r0) (.seq (.region k40_r1) (.seq (.seq (.region k40_r2) (.block 0 (.loop k40_l0))) (.seq (.region k40_r11) .ret))))
theorem k40_e : Ev P pr N k40 e σ Q = Ev P pr N (.seq (.region k40_r0) (.seq (.region k40_r1) (.seq (.seq (.region k40_r2) (.block 0 (.loop k40_l0))) (.seq (.region k40_r11) .ret)))) e σ Q := propext ⟨fun h => h, fun h => h⟩
/-- quern/pack.Put -/
theorem k40_is : FnIs Try.prog noPrim 40 43 [ResultVar.tmp 4] k40 := FnIs.of_fn Try.func40 (by kernel_rfl)
def k41_r0 : List COp := [
  ⟨some 2, .assign (.const (.int .i64 0)), none, true⟩]
theorem k41_r0_e : Eo P pr N k41_r0 e σ Q = Eo P pr N [
  ⟨some 2, .assign (.const (.int .i64 0)), none, true⟩] e σ Q := propext ⟨fun h => h, fun h => h⟩
def k41_r1 : List COp := [
  ⟨some 3, .move (.tmp 0), none, true⟩]
theorem k41_r1_e : Eo P pr N k41_r1 e σ Q = Eo P pr N [
  ⟨some 3, .move (.tmp 0), none, true⟩] e σ Q := propext ⟨fun h => h, fun h => h⟩
def k41_r2 : List COp := [
  ⟨some 2, .assign (.const (.int .i64 1)), none, true⟩]
theorem k41_r2_e : Eo P pr N k41_r2 e σ Q = Eo P pr N [
  ⟨some 2, .assign (.const (.int .i64 1)), none, true⟩] e σ Q := propext ⟨fun h => h, fun h => h⟩
def k41_r3 : List COp := [
  ⟨some 2, .assign (.const (.int .i64 0)), none, true⟩]
theorem k41_r3_e : Eo P pr N k41_r3 e σ Q = Eo P pr N [
  ⟨some 2, .assign (.const (.int .i64 0)), none, true⟩] e σ Q := propext ⟨fun h => h, fun h => h⟩
def k41 : CC := (.seq (.region k41_r0) (.seq (.seq (.region k41_r1) (.cond (.tmp 3) (.seq (.region k41_r2) .ret) .skip)) (.seq (.region k41_r3) .ret)))
theorem k41_e : Ev P pr N k41 e σ Q = Ev P pr N (.seq (.region k41_r0) (.seq (.seq (.region k41_r1) (.cond (.tmp 3) (.seq (.region k41_r2) .ret) .skip)) (.seq (.region k41_r3) .ret))) e σ Q := propext ⟨fun h => h, fun h => h⟩
/-- quern/net.bit -/
theorem k41_is : FnIs Try.prog noPrim 41 4 [ResultVar.tmp 2] k41 := FnIs.of_fn Try.func41 (by kernel_rfl)
def k42_r0 : List COp := [
  ⟨some 0, .alloc 33, none, true⟩]
theorem k42_r0_e : Eo P pr N k42_r0 e σ Q = Eo P pr N [
  ⟨some 0, .alloc 33, none, true⟩] e σ Q := propext ⟨fun h => h, fun h => h⟩
def k42_r1 : List COp := [
  ⟨some 1, .build 33 #[(1, .const (.int .i64 (-1)))], none, true⟩,
  ⟨none, .store 33 (.tmp 0) (.tmp 1), none, true⟩]
theorem k42_r1_e : Eo P pr N k42_r1 e σ Q = Eo P pr N [
  ⟨some 1, .build 33 #[(1, .const (.int .i64 (-1)))], none, true⟩,
  ⟨none, .store 33 (.tmp 0) (.tmp 1), none, true⟩] e σ Q := propext ⟨fun h => h, fun h => h⟩
def k42 : CC := (.seq (.region k42_r0) (.seq (.region k42_r1) .ret))
theorem k42_e : Ev P pr N k42 e σ Q = Ev P pr N (.seq (.region k42_r0) (.seq (.region k42_r1) .ret)) e σ Q := propext ⟨fun h => h, fun h => h⟩
/-- quern/raft.Empty -/
theorem k42_is : FnIs Try.prog noPrim 42 2 [ResultVar.cell 0 33] k42 := FnIs.of_fn Try.func42 (by kernel_rfl)
def k43_r0 : List COp := [
  ⟨some 4, .assign (.const (.slice .none 0 0)), none, true⟩]
theorem k43_r0_e : Eo P pr N k43_r0 e σ Q = Eo P pr N [
  ⟨some 4, .assign (.const (.slice .none 0 0)), none, true⟩] e σ Q := propext ⟨fun h => h, fun h => h⟩
def k43_r1 : List COp := [
  ⟨some 5, .move (.tmp 0), none, true⟩,
  ⟨some 6, .move (.tmp 1), none, true⟩,
  ⟨some 7, .call { callee := .builtin .len, args := #[.tmp 6], argTypes := #[9] }, none, true⟩,
  ⟨some 8, .buildSlice 81 1 #[(0, .tmp 7)], none, true⟩,
  ⟨some 9, .call { callee := .value (.func 40), args := #[.tmp 5, .tmp 8], argTypes := #[27, 81] }, none, true⟩,
  ⟨some 10, .move (.tmp 1), none, true⟩,
  ⟨some 11, .call { callee := .builtin .append, args := #[.tmp 9, .tmp 10], argTypes := #[27, 9] }, none, true⟩,
  ⟨some 4, .assign (.tmp 11), none, true⟩]
theorem k43_r1_e : Eo P pr N k43_r1 e σ Q = Eo P pr N [
  ⟨some 5, .move (.tmp 0), none, true⟩,
  ⟨some 6, .move (.tmp 1), none, true⟩,
  ⟨some 7, .call { callee := .builtin .len, args := #[.tmp 6], argTypes := #[9] }, none, true⟩,
  ⟨some 8, .buildSlice 81 1 #[(0, .tmp 7)], none, true⟩,
  ⟨some 9, .call { callee := .value (.func 40), args := #[.tmp 5, .tmp 8], argTypes := #[27, 81] }, none, true⟩,
  ⟨some 10, .move (.tmp 1), none, true⟩,
  ⟨some 11, .call { callee := .builtin .append, args := #[.tmp 9, .tmp 10], argTypes := #[27, 9] }, none, true⟩,
  ⟨some 4, .assign (.tmp 11), none, true⟩] e σ Q := propext ⟨fun h => h, fun h => h⟩
def k43 : CC := (.seq (.region k43_r0) (.seq (.region k43_r1) .ret))
theorem k43_e : Ev P pr N k43 e σ Q = Ev P pr N (.seq (.region k43_r0) (.seq (.region k43_r1) .ret)) e σ Q := propext ⟨fun h => h, fun h => h⟩
/-- quern/store.run -/
theorem k43_is : FnIs Try.prog noPrim 43 12 [ResultVar.tmp 4] k43 := FnIs.of_fn Try.func43 (by kernel_rfl)
def k44_r0 : List COp := [
  ⟨some 2, .assign (.const (.int .i64 0)), none, true⟩]
theorem k44_r0_e : Eo P pr N k44_r0 e σ Q = Eo P pr N [
  ⟨some 2, .assign (.const (.int .i64 0)), none, true⟩] e σ Q := propext ⟨fun h => h, fun h => h⟩
def k44_r1 : List COp := [
  ⟨some 5, .move (.tmp 0), none, true⟩,
  ⟨some 6, .binOp .eql 42 (.tmp 5) (.const (.pointer .none)) 42, none, true⟩,
  ⟨some 7, .move (.tmp 6), none, true⟩,
  ⟨some 8, .move (.tmp 0), some (7, false), true⟩,
  ⟨some 9, .nilCheck (.tmp 8), some (7, false), true⟩,
  ⟨some 10, .fieldAddr 78 (.tmp 9) 1, some (7, false), true⟩,
  ⟨some 11, .load 4 (.tmp 10), some (7, false), true⟩,
  ⟨some 12, .pick (.tmp 7) (.const (.bool true)) (.tmp 11), none, true⟩]
theorem k44_r1_e : Eo P pr N k44_r1 e σ Q = Eo P pr N [
  ⟨some 5, .move (.tmp 0), none, true⟩,
  ⟨some 6, .binOp .eql 42 (.tmp 5) (.const (.pointer .none)) 42, none, true⟩,
  ⟨some 7, .move (.tmp 6), none, true⟩,
  ⟨some 8, .move (.tmp 0), some (7, false), true⟩,
  ⟨some 9, .nilCheck (.tmp 8), some (7, false), true⟩,
  ⟨some 10, .fieldAddr 78 (.tmp 9) 1, some (7, false), true⟩,
  ⟨some 11, .load 4 (.tmp 10), some (7, false), true⟩,
  ⟨some 12, .pick (.tmp 7) (.const (.bool true)) (.tmp 11), none, true⟩] e σ Q := propext ⟨fun h => h, fun h => h⟩
def k44_r2 : List COp := [
  ⟨some 2, .assign (.const (.int .i64 0)), none, true⟩]
theorem k44_r2_e : Eo P pr N k44_r2 e σ Q = Eo P pr N [
  ⟨some 2, .assign (.const (.int .i64 0)), none, true⟩] e σ Q := propext ⟨fun h => h, fun h => h⟩
def k44_r3 : List COp := [
  ⟨some 14, .move (.tmp 0), none, true⟩,
  ⟨some 15, .nilCheck (.tmp 14), none, true⟩,
  ⟨some 16, .fieldAddr 78 (.tmp 15) 0, none, true⟩,
  ⟨some 17, .load 27 (.tmp 16), none, true⟩,
  ⟨some 18, .call { callee := .value (.func 63), args := #[.tmp 17], argTypes := #[27] }, none, true⟩,
  ⟨some 13, .move (.tmp 18), none, true⟩,
  ⟨some 19, .extract (.tmp 13) 0, none, true⟩,
  ⟨some 20, .extract (.tmp 13) 1, none, true⟩,
  ⟨some 3, .assign (.tmp 19), none, true⟩,
  ⟨some 4, .assign (.tmp 20), none, true⟩]
theorem k44_r3_e : Eo P pr N k44_r3 e σ Q = Eo P pr N [
  ⟨some 14, .move (.tmp 0), none, true⟩,
  ⟨some 15, .nilCheck (.tmp 14), none, true⟩,
  ⟨some 16, .fieldAddr 78 (.tmp 15) 0, none, true⟩,
  ⟨some 17, .load 27 (.tmp 16), none, true⟩,
  ⟨some 18, .call { callee := .value (.func 63), args := #[.tmp 17], argTypes := #[27] }, none, true⟩,
  ⟨some 13, .move (.tmp 18), none, true⟩,
  ⟨some 19, .extract (.tmp 13) 0, none, true⟩,
  ⟨some 20, .extract (.tmp 13) 1, none, true⟩,
  ⟨some 3, .assign (.tmp 19), none, true⟩,
  ⟨some 4, .assign (.tmp 20), none, true⟩] e σ Q := propext ⟨fun h => h, fun h => h⟩
def k44_r4 : List COp := [
  ⟨some 21, .move (.tmp 0), none, true⟩,
  ⟨some 22, .move (.tmp 4), none, true⟩,
  ⟨some 23, .binOp .eql 3 (.tmp 22) (.const (.int .i64 0)) 3, none, true⟩,
  ⟨some 24, .nilCheck (.tmp 21), none, true⟩,
  ⟨some 25, .fieldAddr 78 (.tmp 24) 1, none, true⟩,
  ⟨none, .store 4 (.tmp 25) (.tmp 23), none, true⟩]
theorem k44_r4_e : Eo P pr N k44_r4 e σ Q = Eo P pr N [
  ⟨some 21, .move (.tmp 0), none, true⟩,
  ⟨some 22, .move (.tmp 4), none, true⟩,
  ⟨some 23, .binOp .eql 3 (.tmp 22) (.const (.int .i64 0)) 3, none, true⟩,
  ⟨some 24, .nilCheck (.tmp 21), none, true⟩,
  ⟨some 25, .fieldAddr 78 (.tmp 24) 1, none, true⟩,
  ⟨none, .store 4 (.tmp 25) (.tmp 23), none, true⟩] e σ Q := propext ⟨fun h => h, fun h => h⟩
def k44_r5 : List COp := [
  ⟨some 26, .move (.tmp 0), none, true⟩,
  ⟨some 27, .move (.tmp 0), none, true⟩,
  ⟨some 28, .nilCheck (.tmp 27), none, true⟩,
  ⟨some 29, .fieldAddr 78 (.tmp 28) 0, none, true⟩,
  ⟨some 30, .load 27 (.tmp 29), none, true⟩,
  ⟨some 31, .move (.tmp 4), none, true⟩,
  ⟨some 32, .slice 27 (.tmp 30) (some (.tmp 31)) .none .none, none, true⟩,
  ⟨some 33, .nilCheck (.tmp 26), none, true⟩,
  ⟨some 34, .fieldAddr 78 (.tmp 33) 0, none, true⟩,
  ⟨none, .store 27 (.tmp 34) (.tmp 32), none, true⟩]
theorem k44_r5_e : Eo P pr N k44_r5 e σ Q = Eo P pr N [
  ⟨some 26, .move (.tmp 0), none, true⟩,
  ⟨some 27, .move (.tmp 0), none, true⟩,
  ⟨some 28, .nilCheck (.tmp 27), none, true⟩,
  ⟨some 29, .fieldAddr 78 (.tmp 28) 0, none, true⟩,
  ⟨some 30, .load 27 (.tmp 29), none, true⟩,
  ⟨some 31, .move (.tmp 4), none, true⟩,
  ⟨some 32, .slice 27 (.tmp 30) (some (.tmp 31)) .none .none, none, true⟩,
  ⟨some 33, .nilCheck (.tmp 26), none, true⟩,
  ⟨some 34, .fieldAddr 78 (.tmp 33) 0, none, true⟩,
  ⟨none, .store 27 (.tmp 34) (.tmp 32), none, true⟩] e σ Q := propext ⟨fun h => h, fun h => h⟩
def k44_r6 : List COp := [
  ⟨some 35, .move (.tmp 3), none, true⟩,
  ⟨some 2, .assign (.tmp 35), none, true⟩]
theorem k44_r6_e : Eo P pr N k44_r6 e σ Q = Eo P pr N [
  ⟨some 35, .move (.tmp 3), none, true⟩,
  ⟨some 2, .assign (.tmp 35), none, true⟩] e σ Q := propext ⟨fun h => h, fun h => h⟩
def k44 : CC := (.seq (.region k44_r0) (.seq (.seq (.region k44_r1) (.cond (.tmp 12) (.seq (.region k44_r2) .ret) .skip)) (.seq (.region k44_r3) (.seq (.region k44_r4) (.seq (.region k44_r5) (.seq (.region k44_r6) .ret))))))
theorem k44_e : Ev P pr N k44 e σ Q = Ev P pr N (.seq (.region k44_r0) (.seq (.seq (.region k44_r1) (.cond (.tmp 12) (.seq (.region k44_r2) .ret) .skip)) (.seq (.region k44_r3) (.seq (.region k44_r4) (.seq (.region k44_r5) (.seq (.region k44_r6) .ret)))))) e σ Q := propext ⟨fun h => h, fun h => h⟩
/-- (*quern/pack.Reader).Number -/
theorem k44_is : FnIs Try.prog noPrim 44 36 [ResultVar.tmp 2] k44 := FnIs.of_fn Try.func44 (by kernel_rfl)
def k45_r0 : List COp := [
  ⟨some 4, .assign (.const (.slice .none 0 0)), none, true⟩]
theorem k45_r0_e : Eo P pr N k45_r0 e σ Q = Eo P pr N [
  ⟨some 4, .assign (.const (.slice .none 0 0)), none, true⟩] e σ Q := propext ⟨fun h => h, fun h => h⟩
def k45_r1 : List COp := [
  ⟨some 6, .move (.tmp 0), none, true⟩,
  ⟨some 7, .binOp .eql 42 (.tmp 6) (.const (.pointer .none)) 42, none, true⟩,
  ⟨some 8, .move (.tmp 7), none, true⟩,
  ⟨some 9, .move (.tmp 0), some (8, false), true⟩,
  ⟨some 10, .nilCheck (.tmp 9), some (8, false), true⟩,
  ⟨some 11, .fieldAddr 78 (.tmp 10) 1, some (8, false), true⟩,
  ⟨some 12, .load 4 (.tmp 11), some (8, false), true⟩,
  ⟨some 13, .pick (.tmp 8) (.const (.bool true)) (.tmp 12), none, true⟩]
theorem k45_r1_e : Eo P pr N k45_r1 e σ Q = Eo P pr N [
  ⟨some 6, .move (.tmp 0), none, true⟩,
  ⟨some 7, .binOp .eql 42 (.tmp 6) (.const (.pointer .none)) 42, none, true⟩,
  ⟨some 8, .move (.tmp 7), none, true⟩,
  ⟨some 9, .move (.tmp 0), some (8, false), true⟩,
  ⟨some 10, .nilCheck (.tmp 9), some (8, false), true⟩,
  ⟨some 11, .fieldAddr 78 (.tmp 10) 1, some (8, false), true⟩,
  ⟨some 12, .load 4 (.tmp 11), some (8, false), true⟩,
  ⟨some 13, .pick (.tmp 8) (.const (.bool true)) (.tmp 12), none, true⟩] e σ Q := propext ⟨fun h => h, fun h => h⟩
def k45_r2 : List COp := [
  ⟨some 4, .assign (.const (.slice .none 0 0)), none, true⟩]
theorem k45_r2_e : Eo P pr N k45_r2 e σ Q = Eo P pr N [
  ⟨some 4, .assign (.const (.slice .none 0 0)), none, true⟩] e σ Q := propext ⟨fun h => h, fun h => h⟩
def k45_r3 : List COp := [
  ⟨some 14, .move (.tmp 1), none, true⟩,
  ⟨some 15, .binOp .lss 3 (.tmp 14) (.const (.int .i64 0)) 3, none, true⟩,
  ⟨some 16, .move (.tmp 15), none, true⟩,
  ⟨some 17, .move (.tmp 1), some (16, false), true⟩,
  ⟨some 18, .move (.tmp 0), some (16, false), true⟩,
  ⟨some 19, .nilCheck (.tmp 18), some (16, false), true⟩,
  ⟨some 20, .fieldAddr 78 (.tmp 19) 0, some (16, false), true⟩,
  ⟨some 21, .load 27 (.tmp 20), some (16, false), true⟩,
  ⟨some 22, .call { callee := .builtin .len, args := #[.tmp 21], argTypes := #[27] }, some (16, false), true⟩,
  ⟨some 23, .binOp .gtr 3 (.tmp 17) (.tmp 22) 3, some (16, false), true⟩,
  ⟨some 24, .pick (.tmp 16) (.const (.bool true)) (.tmp 23), none, true⟩]
theorem k45_r3_e : Eo P pr N k45_r3 e σ Q = Eo P pr N [
  ⟨some 14, .move (.tmp 1), none, true⟩,
  ⟨some 15, .binOp .lss 3 (.tmp 14) (.const (.int .i64 0)) 3, none, true⟩,
  ⟨some 16, .move (.tmp 15), none, true⟩,
  ⟨some 17, .move (.tmp 1), some (16, false), true⟩,
  ⟨some 18, .move (.tmp 0), some (16, false), true⟩,
  ⟨some 19, .nilCheck (.tmp 18), some (16, false), true⟩,
  ⟨some 20, .fieldAddr 78 (.tmp 19) 0, some (16, false), true⟩,
  ⟨some 21, .load 27 (.tmp 20), some (16, false), true⟩,
  ⟨some 22, .call { callee := .builtin .len, args := #[.tmp 21], argTypes := #[27] }, some (16, false), true⟩,
  ⟨some 23, .binOp .gtr 3 (.tmp 17) (.tmp 22) 3, some (16, false), true⟩,
  ⟨some 24, .pick (.tmp 16) (.const (.bool true)) (.tmp 23), none, true⟩] e σ Q := propext ⟨fun h => h, fun h => h⟩
def k45_r4 : List COp := [
  ⟨some 25, .move (.tmp 0), none, true⟩,
  ⟨some 26, .nilCheck (.tmp 25), none, true⟩,
  ⟨some 27, .fieldAddr 78 (.tmp 26) 1, none, true⟩,
  ⟨none, .store 4 (.tmp 27) (.const (.bool true)), none, true⟩]
theorem k45_r4_e : Eo P pr N k45_r4 e σ Q = Eo P pr N [
  ⟨some 25, .move (.tmp 0), none, true⟩,
  ⟨some 26, .nilCheck (.tmp 25), none, true⟩,
  ⟨some 27, .fieldAddr 78 (.tmp 26) 1, none, true⟩,
  ⟨none, .store 4 (.tmp 27) (.const (.bool true)), none, true⟩] e σ Q := propext ⟨fun h => h, fun h => h⟩
def k45_r5 : List COp := [
  ⟨some 4, .assign (.const (.slice .none 0 0)), none, true⟩]
theorem k45_r5_e : Eo P pr N k45_r5 e σ Q = Eo P pr N [
  ⟨some 4, .assign (.const (.slice .none 0 0)), none, true⟩] e σ Q := propext ⟨fun h => h, fun h => h⟩
def k45_r6 : List COp := [
  ⟨some 28, .buildSlice 27 0 #[], none, true⟩,
  ⟨some 29, .move (.tmp 0), none, true⟩,
  ⟨some 30, .nilCheck (.tmp 29), none, true⟩,
  ⟨some 31, .fieldAddr 78 (.tmp 30) 0, none, true⟩,
  ⟨some 32, .load 27 (.tmp 31), none, true⟩,
  ⟨some 33, .move (.tmp 1), none, true⟩,
  ⟨some 34, .slice 27 (.tmp 32) .none (some (.tmp 33)) .none, none, true⟩,
  ⟨some 35, .call { callee := .builtin .append, args := #[.tmp 28, .tmp 34], argTypes := #[27, 27] }, none, true⟩,
  ⟨some 5, .assign (.tmp 35), none, true⟩]
theorem k45_r6_e : Eo P pr N k45_r6 e σ Q = Eo P pr N [
  ⟨some 28, .buildSlice 27 0 #[], none, true⟩,
  ⟨some 29, .move (.tmp 0), none, true⟩,
  ⟨some 30, .nilCheck (.tmp 29), none, true⟩,
  ⟨some 31, .fieldAddr 78 (.tmp 30) 0, none, true⟩,
  ⟨some 32, .load 27 (.tmp 31), none, true⟩,
  ⟨some 33, .move (.tmp 1), none, true⟩,
  ⟨some 34, .slice 27 (.tmp 32) .none (some (.tmp 33)) .none, none, true⟩,
  ⟨some 35, .call { callee := .builtin .append, args := #[.tmp 28, .tmp 34], argTypes := #[27, 27] }, none, true⟩,
  ⟨some 5, .assign (.tmp 35), none, true⟩] e σ Q := propext ⟨fun h => h, fun h => h⟩
def k45_r7 : List COp := [
  ⟨some 36, .move (.tmp 0), none, true⟩,
  ⟨some 37, .move (.tmp 0), none, true⟩,
  ⟨some 38, .nilCheck (.tmp 37), none, true⟩,
  ⟨some 39, .fieldAddr 78 (.tmp 38) 0, none, true⟩,
  ⟨some 40, .load 27 (.tmp 39), none, true⟩,
  ⟨some 41, .move (.tmp 1), none, true⟩,
  ⟨some 42, .slice 27 (.tmp 40) (some (.tmp 41)) .none .none, none, true⟩,
  ⟨some 43, .nilCheck (.tmp 36), none, true⟩,
  ⟨some 44, .fieldAddr 78 (.tmp 43) 0, none, true⟩,
  ⟨none, .store 27 (.tmp 44) (.tmp 42), none, true⟩]
theorem k45_r7_e : Eo P pr N k45_r7 e σ Q = Eo P pr N [
  ⟨some 36, .move (.tmp 0), none, true⟩,
  ⟨some 37, .move (.tmp 0), none, true⟩,
  ⟨some 38, .nilCheck (.tmp 37), none, true⟩,
  ⟨some 39, .fieldAddr 78 (.tmp 38) 0, none, true⟩,
  ⟨some 40, .load 27 (.tmp 39), none, true⟩,
  ⟨some 41, .move (.tmp 1), none, true⟩,
  ⟨some 42, .slice 27 (.tmp 40) (some (.tmp 41)) .none .none, none, true⟩,
  ⟨some 43, .nilCheck (.tmp 36), none, true⟩,
  ⟨some 44, .fieldAddr 78 (.tmp 43) 0, none, true⟩,
  ⟨none, .store 27 (.tmp 44) (.tmp 42), none, true⟩] e σ Q := propext ⟨fun h => h, fun h => h⟩
def k45_r8 : List COp := [
  ⟨some 45, .move (.tmp 5), none, true⟩,
  ⟨some 4, .assign (.tmp 45), none, true⟩]
theorem k45_r8_e : Eo P pr N k45_r8 e σ Q = Eo P pr N [
  ⟨some 45, .move (.tmp 5), none, true⟩,
  ⟨some 4, .assign (.tmp 45), none, true⟩] e σ Q := propext ⟨fun h => h, fun h => h⟩
def k45 : CC := (.seq (.region k45_r0) (.seq (.seq (.region k45_r1) (.cond (.tmp 13) (.seq (.region k45_r2) .ret) .skip)) (.seq (.seq (.region k45_r3) (.cond (.tmp 24) (.seq (.region k45_r4) (.seq (.region k45_r5) .ret)) .skip)) (.seq (.region k45_r6) (.seq (.region k45_r7) (.seq (.region k45_r8) .ret))))))
theorem k45_e : Ev P pr N k45 e σ Q = Ev P pr N (.seq (.region k45_r0) (.seq (.seq (.region k45_r1) (.cond (.tmp 13) (.seq (.region k45_r2) .ret) .skip)) (.seq (.seq (.region k45_r3) (.cond (.tmp 24) (.seq (.region k45_r4) (.seq (.region k45_r5) .ret)) .skip)) (.seq (.region k45_r6) (.seq (.region k45_r7) (.seq (.region k45_r8) .ret)))))) e σ Q := propext ⟨fun h => h, fun h => h⟩
/-- (*quern/pack.Reader).Bytes -/
theorem k45_is : FnIs Try.prog noPrim 45 46 [ResultVar.tmp 4] k45 := FnIs.of_fn Try.func45 (by kernel_rfl)
def k46_r0 : List COp := [
  ⟨some 2, .assign (.const (.bool false)), none, true⟩]
theorem k46_r0_e : Eo P pr N k46_r0 e σ Q = Eo P pr N [
  ⟨some 2, .assign (.const (.bool false)), none, true⟩] e σ Q := propext ⟨fun h => h, fun h => h⟩
def k46_r1 : List COp := [
  ⟨some 3, .move (.tmp 0), none, true⟩,
  ⟨some 4, .binOp .neq 42 (.tmp 3) (.const (.pointer .none)) 42, none, true⟩,
  ⟨some 5, .move (.tmp 4), none, true⟩,
  ⟨some 6, .move (.tmp 0), some (5, true), true⟩,
  ⟨some 7, .nilCheck (.tmp 6), some (5, true), true⟩,
  ⟨some 8, .fieldAddr 78 (.tmp 7) 1, some (5, true), true⟩,
  ⟨some 9, .load 4 (.tmp 8), some (5, true), true⟩,
  ⟨some 10, .unOp .not 4 (.tmp 9), some (5, true), true⟩,
  ⟨some 11, .pick (.tmp 5) (.tmp 10) (.const (.bool false)), none, true⟩,
  ⟨some 12, .move (.tmp 11), none, true⟩,
  ⟨some 13, .move (.tmp 0), some (12, true), true⟩,
  ⟨some 14, .nilCheck (.tmp 13), some (12, true), true⟩,
  ⟨some 15, .fieldAddr 78 (.tmp 14) 0, some (12, true), true⟩,
  ⟨some 16, .load 27 (.tmp 15), some (12, true), true⟩,
  ⟨some 17, .call { callee := .builtin .len, args := #[.tmp 16], argTypes := #[27] }, some (12, true), true⟩,
  ⟨some 18, .binOp .eql 3 (.tmp 17) (.const (.int .i64 0)) 3, some (12, true), true⟩,
  ⟨some 19, .pick (.tmp 12) (.tmp 18) (.const (.bool false)), none, true⟩,
  ⟨some 2, .assign (.tmp 19), none, true⟩]
theorem k46_r1_e : Eo P pr N k46_r1 e σ Q = Eo P pr N [
  ⟨some 3, .move (.tmp 0), none, true⟩,
  ⟨some 4, .binOp .neq 42 (.tmp 3) (.const (.pointer .none)) 42, none, true⟩,
  ⟨some 5, .move (.tmp 4), none, true⟩,
  ⟨some 6, .move (.tmp 0), some (5, true), true⟩,
  ⟨some 7, .nilCheck (.tmp 6), some (5, true), true⟩,
  ⟨some 8, .fieldAddr 78 (.tmp 7) 1, some (5, true), true⟩,
  ⟨some 9, .load 4 (.tmp 8), some (5, true), true⟩,
  ⟨some 10, .unOp .not 4 (.tmp 9), some (5, true), true⟩,
  ⟨some 11, .pick (.tmp 5) (.tmp 10) (.const (.bool false)), none, true⟩,
  ⟨some 12, .move (.tmp 11), none, true⟩,
  ⟨some 13, .move (.tmp 0), some (12, true), true⟩,
  ⟨some 14, .nilCheck (.tmp 13), some (12, true), true⟩,
  ⟨some 15, .fieldAddr 78 (.tmp 14) 0, some (12, true), true⟩,
  ⟨some 16, .load 27 (.tmp 15), some (12, true), true⟩,
  ⟨some 17, .call { callee := .builtin .len, args := #[.tmp 16], argTypes := #[27] }, some (12, true), true⟩,
  ⟨some 18, .binOp .eql 3 (.tmp 17) (.const (.int .i64 0)) 3, some (12, true), true⟩,
  ⟨some 19, .pick (.tmp 12) (.tmp 18) (.const (.bool false)), none, true⟩,
  ⟨some 2, .assign (.tmp 19), none, true⟩] e σ Q := propext ⟨fun h => h, fun h => h⟩
def k46 : CC := (.seq (.region k46_r0) (.seq (.region k46_r1) .ret))
theorem k46_e : Ev P pr N k46 e σ Q = Ev P pr N (.seq (.region k46_r0) (.seq (.region k46_r1) .ret)) e σ Q := propext ⟨fun h => h, fun h => h⟩
/-- (*quern/pack.Reader).End -/
theorem k46_is : FnIs Try.prog noPrim 46 20 [ResultVar.tmp 2] k46 := FnIs.of_fn Try.func46 (by kernel_rfl)
def k47_r0 : List COp := [
  ⟨some 1, .box 64 (.tmp 0), none, true⟩,
  ⟨some 2, .assign (.const (.bool false)), none, true⟩]
theorem k47_r0_e : Eo P pr N k47_r0 e σ Q = Eo P pr N [
  ⟨some 1, .box 64 (.tmp 0), none, true⟩,
  ⟨some 2, .assign (.const (.bool false)), none, true⟩] e σ Q := propext ⟨fun h => h, fun h => h⟩
def k47_r1 : List COp := [
  ⟨some 3, .fieldAddr 64 (.tmp 1) 0, none, true⟩,
  ⟨some 4, .load 3 (.tmp 3), none, true⟩,
  ⟨some 5, .binOp .geq 3 (.tmp 4) (.const (.int .i64 1)) 3, none, true⟩,
  ⟨some 6, .move (.tmp 5), none, true⟩,
  ⟨some 7, .fieldAddr 64 (.tmp 1) 0, some (6, true), true⟩,
  ⟨some 8, .load 3 (.tmp 7), some (6, true), true⟩,
  ⟨some 9, .binOp .leq 3 (.tmp 8) (.const (.int .i64 3)) 3, some (6, true), true⟩,
  ⟨some 10, .pick (.tmp 6) (.tmp 9) (.const (.bool false)), none, true⟩,
  ⟨some 11, .move (.tmp 10), none, true⟩,
  ⟨some 12, .fieldAddr 64 (.tmp 1) 1, some (11, true), true⟩,
  ⟨some 13, .load 3 (.tmp 12), some (11, true), true⟩,
  ⟨some 14, .binOp .geq 3 (.tmp 13) (.const (.int .i64 0)) 3, some (11, true), true⟩,
  ⟨some 15, .pick (.tmp 11) (.tmp 14) (.const (.bool false)), none, true⟩,
  ⟨some 16, .move (.tmp 15), none, true⟩,
  ⟨some 17, .fieldAddr 64 (.tmp 1) 2, some (16, true), true⟩,
  ⟨some 18, .load 3 (.tmp 17), some (16, true), true⟩,
  ⟨some 19, .binOp .geq 3 (.tmp 18) (.const (.int .i64 0)) 3, some (16, true), true⟩,
  ⟨some 20, .pick (.tmp 16) (.tmp 19) (.const (.bool false)), none, true⟩,
  ⟨some 21, .move (.tmp 20), none, true⟩,
  ⟨some 22, .fieldAddr 64 (.tmp 1) 3, some (21, true), true⟩,
  ⟨some 23, .load 3 (.tmp 22), some (21, true), true⟩,
  ⟨some 24, .binOp .geq 3 (.tmp 23) (.const (.int .i64 0)) 3, some (21, true), true⟩,
  ⟨some 25, .pick (.tmp 21) (.tmp 24) (.const (.bool false)), none, true⟩,
  ⟨some 26, .move (.tmp 25), none, true⟩,
  ⟨some 27, .fieldAddr 64 (.tmp 1) 4, some (26, true), true⟩,
  ⟨some 28, .load 9 (.tmp 27), some (26, true), true⟩,
  ⟨some 29, .call { callee := .builtin .len, args := #[.tmp 28], argTypes := #[9] }, some (26, true), true⟩,
  ⟨some 30, .binOp .leq 3 (.tmp 29) (.const (.int .i64 16384)) 3, some (26, true), true⟩,
  ⟨some 31, .pick (.tmp 26) (.tmp 30) (.const (.bool false)), none, true⟩,
  ⟨some 2, .assign (.tmp 31), none, true⟩]
theorem k47_r1_e : Eo P pr N k47_r1 e σ Q = Eo P pr N [
  ⟨some 3, .fieldAddr 64 (.tmp 1) 0, none, true⟩,
  ⟨some 4, .load 3 (.tmp 3), none, true⟩,
  ⟨some 5, .binOp .geq 3 (.tmp 4) (.const (.int .i64 1)) 3, none, true⟩,
  ⟨some 6, .move (.tmp 5), none, true⟩,
  ⟨some 7, .fieldAddr 64 (.tmp 1) 0, some (6, true), true⟩,
  ⟨some 8, .load 3 (.tmp 7), some (6, true), true⟩,
  ⟨some 9, .binOp .leq 3 (.tmp 8) (.const (.int .i64 3)) 3, some (6, true), true⟩,
  ⟨some 10, .pick (.tmp 6) (.tmp 9) (.const (.bool false)), none, true⟩,
  ⟨some 11, .move (.tmp 10), none, true⟩,
  ⟨some 12, .fieldAddr 64 (.tmp 1) 1, some (11, true), true⟩,
  ⟨some 13, .load 3 (.tmp 12), some (11, true), true⟩,
  ⟨some 14, .binOp .geq 3 (.tmp 13) (.const (.int .i64 0)) 3, some (11, true), true⟩,
  ⟨some 15, .pick (.tmp 11) (.tmp 14) (.const (.bool false)), none, true⟩,
  ⟨some 16, .move (.tmp 15), none, true⟩,
  ⟨some 17, .fieldAddr 64 (.tmp 1) 2, some (16, true), true⟩,
  ⟨some 18, .load 3 (.tmp 17), some (16, true), true⟩,
  ⟨some 19, .binOp .geq 3 (.tmp 18) (.const (.int .i64 0)) 3, some (16, true), true⟩,
  ⟨some 20, .pick (.tmp 16) (.tmp 19) (.const (.bool false)), none, true⟩,
  ⟨some 21, .move (.tmp 20), none, true⟩,
  ⟨some 22, .fieldAddr 64 (.tmp 1) 3, some (21, true), true⟩,
  ⟨some 23, .load 3 (.tmp 22), some (21, true), true⟩,
  ⟨some 24, .binOp .geq 3 (.tmp 23) (.const (.int .i64 0)) 3, some (21, true), true⟩,
  ⟨some 25, .pick (.tmp 21) (.tmp 24) (.const (.bool false)), none, true⟩,
  ⟨some 26, .move (.tmp 25), none, true⟩,
  ⟨some 27, .fieldAddr 64 (.tmp 1) 4, some (26, true), true⟩,
  ⟨some 28, .load 9 (.tmp 27), some (26, true), true⟩,
  ⟨some 29, .call { callee := .builtin .len, args := #[.tmp 28], argTypes := #[9] }, some (26, true), true⟩,
  ⟨some 30, .binOp .leq 3 (.tmp 29) (.const (.int .i64 16384)) 3, some (26, true), true⟩,
  ⟨some 31, .pick (.tmp 26) (.tmp 30) (.const (.bool false)), none, true⟩,
  ⟨some 2, .assign (.tmp 31), none, true⟩] e σ Q := propext ⟨fun h => h, fun h => h⟩
def k47 : CC := (.seq (.region k47_r0) (.seq (.region k47_r1) .ret))
theorem k47_e : Ev P pr N k47 e σ Q = Ev P pr N (.seq (.region k47_r0) (.seq (.region k47_r1) .ret)) e σ Q := propext ⟨fun h => h, fun h => h⟩
/-- quern/book.Valid -/
theorem k47_is : FnIs Try.prog noPrim 47 32 [ResultVar.tmp 2] k47 := FnIs.of_fn Try.func47 (by kernel_rfl)
def k48_r0 : List COp := [
  ⟨some 2, .box 33 (.tmp 0), none, true⟩,
  ⟨some 4, .assign (.const (.bool false)), none, true⟩]
theorem k48_r0_e : Eo P pr N k48_r0 e σ Q = Eo P pr N [
  ⟨some 2, .box 33 (.tmp 0), none, true⟩,
  ⟨some 4, .assign (.const (.bool false)), none, true⟩] e σ Q := propext ⟨fun h => h, fun h => h⟩
def k48_r1 : List COp := [
  ⟨some 9, .fieldAddr 33 (.tmp 2) 0, none, true⟩,
  ⟨some 10, .load 3 (.tmp 9), none, true⟩,
  ⟨some 11, .binOp .geq 3 (.tmp 10) (.const (.int .i64 0)) 3, none, true⟩,
  ⟨some 12, .move (.tmp 11), none, true⟩,
  ⟨some 13, .fieldAddr 33 (.tmp 2) 0, some (12, true), true⟩,
  ⟨some 14, .load 3 (.tmp 13), some (12, true), true⟩,
  ⟨some 15, .binOp .leq 3 (.tmp 14) (.const (.int .i64 1099511627776)) 3, some (12, true), true⟩,
  ⟨some 16, .pick (.tmp 12) (.tmp 15) (.const (.bool false)), none, true⟩,
  ⟨some 17, .move (.tmp 16), none, true⟩,
  ⟨some 18, .fieldAddr 33 (.tmp 2) 1, some (17, true), true⟩,
  ⟨some 19, .load 3 (.tmp 18), some (17, true), true⟩,
  ⟨some 20, .binOp .geq 3 (.tmp 19) (.const (.int .i64 (-1))) 3, some (17, true), true⟩,
  ⟨some 21, .pick (.tmp 17) (.tmp 20) (.const (.bool false)), none, true⟩,
  ⟨some 22, .move (.tmp 21), none, true⟩,
  ⟨some 23, .fieldAddr 33 (.tmp 2) 1, some (22, true), true⟩,
  ⟨some 24, .load 3 (.tmp 23), some (22, true), true⟩,
  ⟨some 25, .move (.tmp 1), some (22, true), true⟩,
  ⟨some 26, .binOp .lss 3 (.tmp 24) (.tmp 25) 3, some (22, true), true⟩,
  ⟨some 27, .pick (.tmp 22) (.tmp 26) (.const (.bool false)), none, true⟩,
  ⟨some 28, .move (.tmp 27), none, true⟩,
  ⟨some 29, .fieldAddr 33 (.tmp 2) 2, some (28, true), true⟩,
  ⟨some 30, .load 3 (.tmp 29), some (28, true), true⟩,
  ⟨some 31, .binOp .geq 3 (.tmp 30) (.const (.int .i64 0)) 3, some (28, true), true⟩,
  ⟨some 32, .pick (.tmp 28) (.tmp 31) (.const (.bool false)), none, true⟩,
  ⟨some 33, .move (.tmp 32), none, true⟩,
  ⟨some 34, .fieldAddr 33 (.tmp 2) 2, some (33, true), true⟩,
  ⟨some 35, .load 3 (.tmp 34), some (33, true), true⟩,
  ⟨some 36, .binOp .leq 3 (.tmp 35) (.const (.int .i64 1099511627776)) 3, some (33, true), true⟩,
  ⟨some 37, .pick (.tmp 33) (.tmp 36) (.const (.bool false)), none, true⟩,
  ⟨some 38, .move (.tmp 37), none, true⟩,
  ⟨some 39, .fieldAddr 33 (.tmp 2) 3, some (38, true), true⟩,
  ⟨some 40, .load 3 (.tmp 39), some (38, true), true⟩,
  ⟨some 41, .binOp .geq 3 (.tmp 40) (.const (.int .i64 0)) 3, some (38, true), true⟩,
  ⟨some 42, .pick (.tmp 38) (.tmp 41) (.const (.bool false)), none, true⟩,
  ⟨some 43, .move (.tmp 42), none, true⟩,
  ⟨some 44, .fieldAddr 33 (.tmp 2) 3, some (43, true), true⟩,
  ⟨some 45, .load 3 (.tmp 44), some (43, true), true⟩,
  ⟨some 46, .fieldAddr 33 (.tmp 2) 0, some (43, true), true⟩,
  ⟨some 47, .load 3 (.tmp 46), some (43, true), true⟩,
  ⟨some 48, .binOp .leq 3 (.tmp 45) (.tmp 47) 3, some (43, true), true⟩,
  ⟨some 49, .pick (.tmp 43) (.tmp 48) (.const (.bool false)), none, true⟩,
  ⟨some 50, .move (.tmp 49), none, true⟩,
  ⟨some 51, .fieldAddr 33 (.tmp 2) 5, some (50, true), true⟩,
  ⟨some 52, .load 22 (.tmp 51), some (50, true), true⟩,
  ⟨some 53, .call { callee := .builtin .len, args := #[.tmp 52], argTypes := #[22] }, some (50, true), true⟩,
  ⟨some 54, .binOp .leq 3 (.tmp 53) (.const (.int .i64 256)) 3, some (50, true), true⟩,
  ⟨some 55, .pick (.tmp 50) (.tmp 54) (.const (.bool false)), none, true⟩,
  ⟨some 5, .assign (.tmp 55), none, true⟩]
theorem k48_r1_e : Eo P pr N k48_r1 e σ Q = Eo P pr N [
  ⟨some 9, .fieldAddr 33 (.tmp 2) 0, none, true⟩,
  ⟨some 10, .load 3 (.tmp 9), none, true⟩,
  ⟨some 11, .binOp .geq 3 (.tmp 10) (.const (.int .i64 0)) 3, none, true⟩,
  ⟨some 12, .move (.tmp 11), none, true⟩,
  ⟨some 13, .fieldAddr 33 (.tmp 2) 0, some (12, true), true⟩,
  ⟨some 14, .load 3 (.tmp 13), some (12, true), true⟩,
  ⟨some 15, .binOp .leq 3 (.tmp 14) (.const (.int .i64 1099511627776)) 3, some (12, true), true⟩,
  ⟨some 16, .pick (.tmp 12) (.tmp 15) (.const (.bool false)), none, true⟩,
  ⟨some 17, .move (.tmp 16), none, true⟩,
  ⟨some 18, .fieldAddr 33 (.tmp 2) 1, some (17, true), true⟩,
  ⟨some 19, .load 3 (.tmp 18), some (17, true), true⟩,
  ⟨some 20, .binOp .geq 3 (.tmp 19) (.const (.int .i64 (-1))) 3, some (17, true), true⟩,
  ⟨some 21, .pick (.tmp 17) (.tmp 20) (.const (.bool false)), none, true⟩,
  ⟨some 22, .move (.tmp 21), none, true⟩,
  ⟨some 23, .fieldAddr 33 (.tmp 2) 1, some (22, true), true⟩,
  ⟨some 24, .load 3 (.tmp 23), some (22, true), true⟩,
  ⟨some 25, .move (.tmp 1), some (22, true), true⟩,
  ⟨some 26, .binOp .lss 3 (.tmp 24) (.tmp 25) 3, some (22, true), true⟩,
  ⟨some 27, .pick (.tmp 22) (.tmp 26) (.const (.bool false)), none, true⟩,
  ⟨some 28, .move (.tmp 27), none, true⟩,
  ⟨some 29, .fieldAddr 33 (.tmp 2) 2, some (28, true), true⟩,
  ⟨some 30, .load 3 (.tmp 29), some (28, true), true⟩,
  ⟨some 31, .binOp .geq 3 (.tmp 30) (.const (.int .i64 0)) 3, some (28, true), true⟩,
  ⟨some 32, .pick (.tmp 28) (.tmp 31) (.const (.bool false)), none, true⟩,
  ⟨some 33, .move (.tmp 32), none, true⟩,
  ⟨some 34, .fieldAddr 33 (.tmp 2) 2, some (33, true), true⟩,
  ⟨some 35, .load 3 (.tmp 34), some (33, true), true⟩,
  ⟨some 36, .binOp .leq 3 (.tmp 35) (.const (.int .i64 1099511627776)) 3, some (33, true), true⟩,
  ⟨some 37, .pick (.tmp 33) (.tmp 36) (.const (.bool false)), none, true⟩,
  ⟨some 38, .move (.tmp 37), none, true⟩,
  ⟨some 39, .fieldAddr 33 (.tmp 2) 3, some (38, true), true⟩,
  ⟨some 40, .load 3 (.tmp 39), some (38, true), true⟩,
  ⟨some 41, .binOp .geq 3 (.tmp 40) (.const (.int .i64 0)) 3, some (38, true), true⟩,
  ⟨some 42, .pick (.tmp 38) (.tmp 41) (.const (.bool false)), none, true⟩,
  ⟨some 43, .move (.tmp 42), none, true⟩,
  ⟨some 44, .fieldAddr 33 (.tmp 2) 3, some (43, true), true⟩,
  ⟨some 45, .load 3 (.tmp 44), some (43, true), true⟩,
  ⟨some 46, .fieldAddr 33 (.tmp 2) 0, some (43, true), true⟩,
  ⟨some 47, .load 3 (.tmp 46), some (43, true), true⟩,
  ⟨some 48, .binOp .leq 3 (.tmp 45) (.tmp 47) 3, some (43, true), true⟩,
  ⟨some 49, .pick (.tmp 43) (.tmp 48) (.const (.bool false)), none, true⟩,
  ⟨some 50, .move (.tmp 49), none, true⟩,
  ⟨some 51, .fieldAddr 33 (.tmp 2) 5, some (50, true), true⟩,
  ⟨some 52, .load 22 (.tmp 51), some (50, true), true⟩,
  ⟨some 53, .call { callee := .builtin .len, args := #[.tmp 52], argTypes := #[22] }, some (50, true), true⟩,
  ⟨some 54, .binOp .leq 3 (.tmp 53) (.const (.int .i64 256)) 3, some (50, true), true⟩,
  ⟨some 55, .pick (.tmp 50) (.tmp 54) (.const (.bool false)), none, true⟩,
  ⟨some 5, .assign (.tmp 55), none, true⟩] e σ Q := propext ⟨fun h => h, fun h => h⟩
def k48_r2 : List COp := [
  ⟨some 56, .fieldAddr 33 (.tmp 2) 3, none, true⟩,
  ⟨some 57, .load 3 (.tmp 56), none, true⟩,
  ⟨some 6, .assign (.tmp 57), none, true⟩]
theorem k48_r2_e : Eo P pr N k48_r2 e σ Q = Eo P pr N [
  ⟨some 56, .fieldAddr 33 (.tmp 2) 3, none, true⟩,
  ⟨some 57, .load 3 (.tmp 56), none, true⟩,
  ⟨some 6, .assign (.tmp 57), none, true⟩] e σ Q := propext ⟨fun h => h, fun h => h⟩
def k48_r3 : List COp := [
  ⟨some 58, .fieldAddr 33 (.tmp 2) 5, none, true⟩,
  ⟨some 59, .load 22 (.tmp 58), none, true⟩,
  ⟨some 60, .call { callee := .builtin .len, args := #[.tmp 59], argTypes := #[22] }, none, true⟩,
  ⟨some 61, .move (.const (.int .i64 0)), none, true⟩]
theorem k48_r3_e : Eo P pr N k48_r3 e σ Q = Eo P pr N [
  ⟨some 58, .fieldAddr 33 (.tmp 2) 5, none, true⟩,
  ⟨some 59, .load 22 (.tmp 58), none, true⟩,
  ⟨some 60, .call { callee := .builtin .len, args := #[.tmp 59], argTypes := #[22] }, none, true⟩,
  ⟨some 61, .move (.const (.int .i64 0)), none, true⟩] e σ Q := propext ⟨fun h => h, fun h => h⟩
def k48_r4 : List COp := [
  ⟨some 62, .binOp .lss 3 (.tmp 61) (.tmp 60) 3, none, true⟩]
theorem k48_r4_e : Eo P pr N k48_r4 e σ Q = Eo P pr N [
  ⟨some 62, .binOp .lss 3 (.tmp 61) (.tmp 60) 3, none, true⟩] e σ Q := propext ⟨fun h => h, fun h => h⟩
def k48_r5 : List COp := [
  ⟨some 63, .indexAddr 22 (.tmp 59) (.tmp 61), none, true⟩,
  ⟨some 64, .load 66 (.tmp 63), none, true⟩,
  ⟨some 8, .alloc 66, none, true⟩,
  ⟨none, .store 66 (.tmp 8) (.tmp 64), none, true⟩]
theorem k48_r5_e : Eo P pr N k48_r5 e σ Q = Eo P pr N [
  ⟨some 63, .indexAddr 22 (.tmp 59) (.tmp 61), none, true⟩,
  ⟨some 64, .load 66 (.tmp 63), none, true⟩,
  ⟨some 8, .alloc 66, none, true⟩,
  ⟨none, .store 66 (.tmp 8) (.tmp 64), none, true⟩] e σ Q := propext ⟨fun h => h, fun h => h⟩
def k48_r6 : List COp := [
  ⟨some 65, .move (.tmp 5), none, true⟩,
  ⟨some 66, .move (.tmp 65), none, true⟩,
  ⟨some 67, .fieldAddr 66 (.tmp 8) 0, some (66, true), true⟩,
  ⟨some 68, .load 3 (.tmp 67), some (66, true), true⟩,
  ⟨some 69, .move (.tmp 6), some (66, true), true⟩,
  ⟨some 70, .binOp .geq 3 (.tmp 68) (.tmp 69) 3, some (66, true), true⟩,
  ⟨some 71, .pick (.tmp 66) (.tmp 70) (.const (.bool false)), none, true⟩,
  ⟨some 72, .move (.tmp 71), none, true⟩,
  ⟨some 73, .fieldAddr 66 (.tmp 8) 0, some (72, true), true⟩,
  ⟨some 74, .load 3 (.tmp 73), some (72, true), true⟩,
  ⟨some 75, .fieldAddr 33 (.tmp 2) 0, some (72, true), true⟩,
  ⟨some 76, .load 3 (.tmp 75), some (72, true), true⟩,
  ⟨some 77, .binOp .leq 3 (.tmp 74) (.tmp 76) 3, some (72, true), true⟩,
  ⟨some 78, .pick (.tmp 72) (.tmp 77) (.const (.bool false)), none, true⟩,
  ⟨some 79, .move (.tmp 78), none, true⟩,
  ⟨some 80, .fieldAddr 66 (.tmp 8) 1, some (79, true), true⟩,
  ⟨some 81, .load 64 (.tmp 80), some (79, true), true⟩,
  ⟨some 82, .call { callee := .value (.func 60), args := #[.tmp 81], argTypes := #[64] }, some (79, true), true⟩,
  ⟨some 83, .pick (.tmp 79) (.tmp 82) (.const (.bool false)), none, true⟩,
  ⟨some 5, .assign (.tmp 83), none, true⟩]
theorem k48_r6_e : Eo P pr N k48_r6 e σ Q = Eo P pr N [
  ⟨some 65, .move (.tmp 5), none, true⟩,
  ⟨some 66, .move (.tmp 65), none, true⟩,
  ⟨some 67, .fieldAddr 66 (.tmp 8) 0, some (66, true), true⟩,
  ⟨some 68, .load 3 (.tmp 67), some (66, true), true⟩,
  ⟨some 69, .move (.tmp 6), some (66, true), true⟩,
  ⟨some 70, .binOp .geq 3 (.tmp 68) (.tmp 69) 3, some (66, true), true⟩,
  ⟨some 71, .pick (.tmp 66) (.tmp 70) (.const (.bool false)), none, true⟩,
  ⟨some 72, .move (.tmp 71), none, true⟩,
  ⟨some 73, .fieldAddr 66 (.tmp 8) 0, some (72, true), true⟩,
  ⟨some 74, .load 3 (.tmp 73), some (72, true), true⟩,
  ⟨some 75, .fieldAddr 33 (.tmp 2) 0, some (72, true), true⟩,
  ⟨some 76, .load 3 (.tmp 75), some (72, true), true⟩,
  ⟨some 77, .binOp .leq 3 (.tmp 74) (.tmp 76) 3, some (72, true), true⟩,
  ⟨some 78, .pick (.tmp 72) (.tmp 77) (.const (.bool false)), none, true⟩,
  ⟨some 79, .move (.tmp 78), none, true⟩,
  ⟨some 80, .fieldAddr 66 (.tmp 8) 1, some (79, true), true⟩,
  ⟨some 81, .load 64 (.tmp 80), some (79, true), true⟩,
  ⟨some 82, .call { callee := .value (.func 60), args := #[.tmp 81], argTypes := #[64] }, some (79, true), true⟩,
  ⟨some 83, .pick (.tmp 79) (.tmp 82) (.const (.bool false)), none, true⟩,
  ⟨some 5, .assign (.tmp 83), none, true⟩] e σ Q := propext ⟨fun h => h, fun h => h⟩
def k48_r7 : List COp := [
  ⟨some 84, .fieldAddr 66 (.tmp 8) 0, none, true⟩,
  ⟨some 85, .load 3 (.tmp 84), none, true⟩,
  ⟨some 6, .assign (.tmp 85), none, true⟩]
theorem k48_r7_e : Eo P pr N k48_r7 e σ Q = Eo P pr N [
  ⟨some 84, .fieldAddr 66 (.tmp 8) 0, none, true⟩,
  ⟨some 85, .load 3 (.tmp 84), none, true⟩,
  ⟨some 6, .assign (.tmp 85), none, true⟩] e σ Q := propext ⟨fun h => h, fun h => h⟩
def k48_r8 : List COp := [
  ⟨some 86, .binOp .add 3 (.tmp 61) (.const (.int .i64 1)) 3, none, true⟩,
  ⟨some 61, .move (.tmp 86), none, true⟩]
theorem k48_r8_e : Eo P pr N k48_r8 e σ Q = Eo P pr N [
  ⟨some 86, .binOp .add 3 (.tmp 61) (.const (.int .i64 1)) 3, none, true⟩,
  ⟨some 61, .move (.tmp 86), none, true⟩] e σ Q := propext ⟨fun h => h, fun h => h⟩
def k48_l0 : CC := (.seq (.region k48_r4) (.seq (.cond (.tmp 62) .skip (.exit 0)) (.seq (.block 1 (.seq (.region k48_r5) (.seq (.region k48_r6) (.region k48_r7)))) (.region k48_r8))))
theorem k48_l0_e : Ev P pr N k48_l0 e σ Q = Ev P pr N (.seq (.region k48_r4) (.seq (.cond (.tmp 62) .skip (.exit 0)) (.seq (.block 1 (.seq (.region k48_r5) (.seq (.region k48_r6) (.region k48_r7)))) (.region k48_r8)))) e σ Q := propext ⟨fun h => h, fun h => h⟩
def k48_r9 : List COp := [
  ⟨some 87, .move (.tmp 5), none, true⟩,
  ⟨some 4, .assign (.tmp 87), none, true⟩]
theorem k48_r9_e : Eo P pr N k48_r9 e σ Q = Eo P pr N [
  ⟨some 87, .move (.tmp 5), none, true⟩,
  ⟨some 4, .assign (.tmp 87), none, true⟩] e σ Q := propext ⟨fun h => h, fun h => h⟩
def k48 : CC := (.seq (.region k48_r0) (.seq (.region k48_r1) (.seq (.region k48_r2) (.seq (.seq (.region k48_r3) (.block 0 (.loop k48_l0))) (.seq (.region k48_r9) .ret)))))
theorem k48_e : Ev P pr N k48 e σ Q = Ev P pr N (.seq (.region k48_r0) (.seq (.region k48_r1) (.seq (.region k48_r2) (.seq (.seq (.region k48_r3) (.block 0 (.loop k48_l0))) (.seq (.region k48_r9) .ret))))) e σ Q := propext ⟨fun h => h, fun h => h⟩
/-- quern/quernref20.GoodLog -/
theorem k48_is : FnIs Try.prog noPrim 48 88 [ResultVar.tmp 4] k48 := FnIs.of_fn Try.func48 (by kernel_rfl)
def k49_r0 : List COp := [
  ⟨some 4, .assign (.const (.slice .none 0 0)), none, true⟩]
theorem k49_r0_e : Eo P pr N k49_r0 e σ Q = Eo P pr N [
  ⟨some 4, .assign (.const (.slice .none 0 0)), none, true⟩] e σ Q := propext ⟨fun h => h, fun h => h⟩
def k49_r1 : List COp := [
  ⟨some 6, .buildSlice 27 0 #[], none, true⟩,
  ⟨some 7, .move (.tmp 0), none, true⟩,
  ⟨some 8, .call { callee := .builtin .append, args := #[.tmp 6, .tmp 7], argTypes := #[27, 27] }, none, true⟩,
  ⟨some 5, .assign (.tmp 8), none, true⟩]
theorem k49_r1_e : Eo P pr N k49_r1 e σ Q = Eo P pr N [
  ⟨some 6, .buildSlice 27 0 #[], none, true⟩,
  ⟨some 7, .move (.tmp 0), none, true⟩,
  ⟨some 8, .call { callee := .builtin .append, args := #[.tmp 6, .tmp 7], argTypes := #[27, 27] }, none, true⟩,
  ⟨some 5, .assign (.tmp 8), none, true⟩] e σ Q := propext ⟨fun h => h, fun h => h⟩
def k49_r2 : List COp := [
  ⟨some 9, .move (.tmp 1), none, true⟩,
  ⟨some 10, .binOp .lss 3 (.tmp 9) (.const (.int .i64 0)) 3, none, true⟩]
theorem k49_r2_e : Eo P pr N k49_r2 e σ Q = Eo P pr N [
  ⟨some 9, .move (.tmp 1), none, true⟩,
  ⟨some 10, .binOp .lss 3 (.tmp 9) (.const (.int .i64 0)) 3, none, true⟩] e σ Q := propext ⟨fun h => h, fun h => h⟩
def k49_r3 : List COp := [
  ⟨some 1, .assign (.const (.int .i64 0)), none, true⟩]
theorem k49_r3_e : Eo P pr N k49_r3 e σ Q = Eo P pr N [
  ⟨some 1, .assign (.const (.int .i64 0)), none, true⟩] e σ Q := propext ⟨fun h => h, fun h => h⟩
def k49_r4 : List COp := [
  ⟨some 11, .move (.tmp 1), none, true⟩,
  ⟨some 12, .binOp .geq 3 (.tmp 11) (.const (.int .i64 128)) 3, none, true⟩]
theorem k49_r4_e : Eo P pr N k49_r4 e σ Q = Eo P pr N [
  ⟨some 11, .move (.tmp 1), none, true⟩,
  ⟨some 12, .binOp .geq 3 (.tmp 11) (.const (.int .i64 128)) 3, none, true⟩] e σ Q := propext ⟨fun h => h, fun h => h⟩
def k49_r5 : List COp := [
  ⟨some 13, .move (.tmp 5), none, true⟩,
  ⟨some 14, .move (.tmp 1), none, true⟩,
  ⟨some 15, .binOp .rem 3 (.tmp 14) (.const (.int .i64 128)) 3, none, true⟩,
  ⟨some 16, .binOp .add 3 (.tmp 15) (.const (.int .i64 128)) 3, none, true⟩,
  ⟨some 17, .convert 3 5 (.tmp 16), none, true⟩,
  ⟨some 18, .buildSlice 27 1 #[(0, .tmp 17)], none, true⟩,
  ⟨some 19, .call { callee := .builtin .append, args := #[.tmp 13, .tmp 18], argTypes := #[27, 27] }, none, true⟩,
  ⟨some 5, .assign (.tmp 19), none, true⟩]
theorem k49_r5_e : Eo P pr N k49_r5 e σ Q = Eo P pr N [
  ⟨some 13, .move (.tmp 5), none, true⟩,
  ⟨some 14, .move (.tmp 1), none, true⟩,
  ⟨some 15, .binOp .rem 3 (.tmp 14) (.const (.int .i64 128)) 3, none, true⟩,
  ⟨some 16, .binOp .add 3 (.tmp 15) (.const (.int .i64 128)) 3, none, true⟩,
  ⟨some 17, .convert 3 5 (.tmp 16), none, true⟩,
  ⟨some 18, .buildSlice 27 1 #[(0, .tmp 17)], none, true⟩,
  ⟨some 19, .call { callee := .builtin .append, args := #[.tmp 13, .tmp 18], argTypes := #[27, 27] }, none, true⟩,
  ⟨some 5, .assign (.tmp 19), none, true⟩] e σ Q := propext ⟨fun h => h, fun h => h⟩
def k49_r6 : List COp := [
  ⟨some 20, .move (.tmp 1), none, true⟩,
  ⟨some 21, .binOp .quo 3 (.tmp 20) (.const (.int .i64 128)) 3, none, true⟩,
  ⟨some 1, .assign (.tmp 21), none, true⟩]
theorem k49_r6_e : Eo P pr N k49_r6 e σ Q = Eo P pr N [
  ⟨some 20, .move (.tmp 1), none, true⟩,
  ⟨some 21, .binOp .quo 3 (.tmp 20) (.const (.int .i64 128)) 3, none, true⟩,
  ⟨some 1, .assign (.tmp 21), none, true⟩] e σ Q := propext ⟨fun h => h, fun h => h⟩
def k49_l0 : CC := (.seq (.seq (.region k49_r4) (.cond (.tmp 12) .skip (.exit 0))) (.block 1 (.seq (.region k49_r5) (.region k49_r6))))
theorem k49_l0_e : Ev P pr N k49_l0 e σ Q = Ev P pr N (.seq (.seq (.region k49_r4) (.cond (.tmp 12) .skip (.exit 0))) (.block 1 (.seq (.region k49_r5) (.region k49_r6)))) e σ Q := propext ⟨fun h => h, fun h => h⟩
def k49_r7 : List COp := [
  ⟨some 22, .move (.tmp 5), none, true⟩,
  ⟨some 23, .move (.tmp 1), none, true⟩,
  ⟨some 24, .convert 3 5 (.tmp 23), none, true⟩,
  ⟨some 25, .buildSlice 27 1 #[(0, .tmp 24)], none, true⟩,
  ⟨some 26, .call { callee := .builtin .append, args := #[.tmp 22, .tmp 25], argTypes := #[27, 27] }, none, true⟩,
  ⟨some 4, .assign (.tmp 26), none, true⟩]
theorem k49_r7_e : Eo P pr N k49_r7 e σ Q = Eo P pr N [
  ⟨some 22, .move (.tmp 5), none, true⟩,
  ⟨some 23, .move (.tmp 1), none, true⟩,
  ⟨some 24, .convert 3 5 (.tmp 23), none, true⟩,
  ⟨some 25, .buildSlice 27 1 #[(0, .tmp 24)], none, true⟩,
  ⟨some 26, .call { callee := .builtin .append, args := #[.tmp 22, .tmp 25], argTypes := #[27, 27] }, none, true⟩,
  ⟨some 4, .assign (.tmp 26), none, true⟩] e σ Q := propext ⟨fun h => h, fun h => h⟩
def k49 : CC := (.seq (.region k49_r0) (.seq (.region k49_r1) (.seq (.seq (.region k49_r2) (.cond (.tmp 10) (.region k49_r3) .skip)) (.seq (.block 0 (.loop k49_l0)) (.seq (.region k49_r7) .ret)))))
theorem k49_e : Ev P pr N k49 e σ Q = Ev P pr N (.seq (.region k49_r0) (.seq (.region k49_r1) (.seq (.seq (.region k49_r2) (.cond (.tmp 10) (.region k49_r3) .skip)) (.seq (.block 0 (.loop k49_l0)) (.seq (.region k49_r7) .ret))))) e σ Q := propext ⟨fun h => h, fun h => h⟩
/-- quern/quernref01.Put -/
theorem k49_is : FnIs Try.prog noPrim 49 27 [ResultVar.tmp 4] k49 := FnIs.of_fn Try.func49 (by kernel_rfl)
def k50_r0 : List COp := [
  ⟨some 4, .assign (.const (.slice .none 0 0)), none, true⟩]
theorem k50_r0_e : Eo P pr N k50_r0 e σ Q = Eo P pr N [
  ⟨some 4, .assign (.const (.slice .none 0 0)), none, true⟩] e σ Q := propext ⟨fun h => h, fun h => h⟩
def k50_r1 : List COp := [
  ⟨some 5, .move (.tmp 0), none, true⟩,
  ⟨some 6, .move (.tmp 1), none, true⟩,
  ⟨some 7, .call { callee := .builtin .len, args := #[.tmp 6], argTypes := #[9] }, none, true⟩,
  ⟨some 8, .call { callee := .value (.func 49), args := #[.tmp 5, .tmp 7], argTypes := #[27, 3] }, none, true⟩,
  ⟨some 9, .move (.tmp 1), none, true⟩,
  ⟨some 10, .call { callee := .builtin .append, args := #[.tmp 8, .tmp 9], argTypes := #[27, 9] }, none, true⟩,
  ⟨some 4, .assign (.tmp 10), none, true⟩]
theorem k50_r1_e : Eo P pr N k50_r1 e σ Q = Eo P pr N [
  ⟨some 5, .move (.tmp 0), none, true⟩,
  ⟨some 6, .move (.tmp 1), none, true⟩,
  ⟨some 7, .call { callee := .builtin .len, args := #[.tmp 6], argTypes := #[9] }, none, true⟩,
  ⟨some 8, .call { callee := .value (.func 49), args := #[.tmp 5, .tmp 7], argTypes := #[27, 3] }, none, true⟩,
  ⟨some 9, .move (.tmp 1), none, true⟩,
  ⟨some 10, .call { callee := .builtin .append, args := #[.tmp 8, .tmp 9], argTypes := #[27, 9] }, none, true⟩,
  ⟨some 4, .assign (.tmp 10), none, true⟩] e σ Q := propext ⟨fun h => h, fun h => h⟩
def k50 : CC := (.seq (.region k50_r0) (.seq (.region k50_r1) .ret))
theorem k50_e : Ev P pr N k50 e σ Q = Ev P pr N (.seq (.region k50_r0) (.seq (.region k50_r1) .ret)) e σ Q := propext ⟨fun h => h, fun h => h⟩
/-- quern/quernref21.run -/
theorem k50_is : FnIs Try.prog noPrim 50 11 [ResultVar.tmp 4] k50 := FnIs.of_fn Try.func50 (by kernel_rfl)
def k51_r0 : List COp := [
  ⟨some 2, .assign (.const (.int .i64 0)), none, true⟩]
theorem k51_r0_e : Eo P pr N k51_r0 e σ Q = Eo P pr N [
  ⟨some 2, .assign (.const (.int .i64 0)), none, true⟩] e σ Q := propext ⟨fun h => h, fun h => h⟩
def k51_r1 : List COp := [
  ⟨some 5, .move (.tmp 0), none, true⟩,
  ⟨some 6, .nilCheck (.tmp 5), none, true⟩,
  ⟨some 7, .fieldAddr 46 (.tmp 6) 1, none, true⟩,
  ⟨some 8, .load 4 (.tmp 7), none, true⟩]
theorem k51_r1_e : Eo P pr N k51_r1 e σ Q = Eo P pr N [
  ⟨some 5, .move (.tmp 0), none, true⟩,
  ⟨some 6, .nilCheck (.tmp 5), none, true⟩,
  ⟨some 7, .fieldAddr 46 (.tmp 6) 1, none, true⟩,
  ⟨some 8, .load 4 (.tmp 7), none, true⟩] e σ Q := propext ⟨fun h => h, fun h => h⟩
def k51_r2 : List COp := [
  ⟨some 2, .assign (.const (.int .i64 0)), none, true⟩]
theorem k51_r2_e : Eo P pr N k51_r2 e σ Q = Eo P pr N [
  ⟨some 2, .assign (.const (.int .i64 0)), none, true⟩] e σ Q := propext ⟨fun h => h, fun h => h⟩
def k51_r3 : List COp := [
  ⟨some 10, .move (.tmp 0), none, true⟩,
  ⟨some 11, .nilCheck (.tmp 10), none, true⟩,
  ⟨some 12, .fieldAddr 46 (.tmp 11) 0, none, true⟩,
  ⟨some 13, .load 27 (.tmp 12), none, true⟩,
  ⟨some 14, .call { callee := .value (.func 64), args := #[.tmp 13], argTypes := #[27] }, none, true⟩,
  ⟨some 9, .move (.tmp 14), none, true⟩,
  ⟨some 15, .extract (.tmp 9) 0, none, true⟩,
  ⟨some 16, .extract (.tmp 9) 1, none, true⟩,
  ⟨some 3, .assign (.tmp 15), none, true⟩,
  ⟨some 4, .assign (.tmp 16), none, true⟩]
theorem k51_r3_e : Eo P pr N k51_r3 e σ Q = Eo P pr N [
  ⟨some 10, .move (.tmp 0), none, true⟩,
  ⟨some 11, .nilCheck (.tmp 10), none, true⟩,
  ⟨some 12, .fieldAddr 46 (.tmp 11) 0, none, true⟩,
  ⟨some 13, .load 27 (.tmp 12), none, true⟩,
  ⟨some 14, .call { callee := .value (.func 64), args := #[.tmp 13], argTypes := #[27] }, none, true⟩,
  ⟨some 9, .move (.tmp 14), none, true⟩,
  ⟨some 15, .extract (.tmp 9) 0, none, true⟩,
  ⟨some 16, .extract (.tmp 9) 1, none, true⟩,
  ⟨some 3, .assign (.tmp 15), none, true⟩,
  ⟨some 4, .assign (.tmp 16), none, true⟩] e σ Q := propext ⟨fun h => h, fun h => h⟩
def k51_r4 : List COp := [
  ⟨some 17, .move (.tmp 4), none, true⟩,
  ⟨some 18, .binOp .eql 3 (.tmp 17) (.const (.int .i64 0)) 3, none, true⟩]
theorem k51_r4_e : Eo P pr N k51_r4 e σ Q = Eo P pr N [
  ⟨some 17, .move (.tmp 4), none, true⟩,
  ⟨some 18, .binOp .eql 3 (.tmp 17) (.const (.int .i64 0)) 3, none, true⟩] e σ Q := propext ⟨fun h => h, fun h => h⟩
def k51_r5 : List COp := [
  ⟨some 19, .move (.tmp 0), none, true⟩,
  ⟨some 20, .nilCheck (.tmp 19), none, true⟩,
  ⟨some 21, .fieldAddr 46 (.tmp 20) 1, none, true⟩,
  ⟨none, .store 4 (.tmp 21) (.const (.bool true)), none, true⟩]
theorem k51_r5_e : Eo P pr N k51_r5 e σ Q = Eo P pr N [
  ⟨some 19, .move (.tmp 0), none, true⟩,
  ⟨some 20, .nilCheck (.tmp 19), none, true⟩,
  ⟨some 21, .fieldAddr 46 (.tmp 20) 1, none, true⟩,
  ⟨none, .store 4 (.tmp 21) (.const (.bool true)), none, true⟩] e σ Q := propext ⟨fun h => h, fun h => h⟩
def k51_r6 : List COp := [
  ⟨some 2, .assign (.const (.int .i64 0)), none, true⟩]
theorem k51_r6_e : Eo P pr N k51_r6 e σ Q = Eo P pr N [
  ⟨some 2, .assign (.const (.int .i64 0)), none, true⟩] e σ Q := propext ⟨fun h => h, fun h => h⟩
def k51_r7 : List COp := [
  ⟨some 22, .move (.tmp 0), none, true⟩,
  ⟨some 23, .move (.tmp 0), none, true⟩,
  ⟨some 24, .nilCheck (.tmp 23), none, true⟩,
  ⟨some 25, .fieldAddr 46 (.tmp 24) 0, none, true⟩,
  ⟨some 26, .load 27 (.tmp 25), none, true⟩,
  ⟨some 27, .move (.tmp 4), none, true⟩,
  ⟨some 28, .slice 27 (.tmp 26) (some (.tmp 27)) .none .none, none, true⟩,
  ⟨some 29, .nilCheck (.tmp 22), none, true⟩,
  ⟨some 30, .fieldAddr 46 (.tmp 29) 0, none, true⟩,
  ⟨none, .store 27 (.tmp 30) (.tmp 28), none, true⟩]
theorem k51_r7_e : Eo P pr N k51_r7 e σ Q = Eo P pr N [
  ⟨some 22, .move (.tmp 0), none, true⟩,
  ⟨some 23, .move (.tmp 0), none, true⟩,
  ⟨some 24, .nilCheck (.tmp 23), none, true⟩,
  ⟨some 25, .fieldAddr 46 (.tmp 24) 0, none, true⟩,
  ⟨some 26, .load 27 (.tmp 25), none, true⟩,
  ⟨some 27, .move (.tmp 4), none, true⟩,
  ⟨some 28, .slice 27 (.tmp 26) (some (.tmp 27)) .none .none, none, true⟩,
  ⟨some 29, .nilCheck (.tmp 22), none, true⟩,
  ⟨some 30, .fieldAddr 46 (.tmp 29) 0, none, true⟩,
  ⟨none, .store 27 (.tmp 30) (.tmp 28), none, true⟩] e σ Q := propext ⟨fun h => h, fun h => h⟩
def k51_r8 : List COp := [
  ⟨some 31, .move (.tmp 3), none, true⟩,
  ⟨some 2, .assign (.tmp 31), none, true⟩]
theorem k51_r8_e : Eo P pr N k51_r8 e σ Q = Eo P pr N [
  ⟨some 31, .move (.tmp 3), none, true⟩,
  ⟨some 2, .assign (.tmp 31), none, true⟩] e σ Q := propext ⟨fun h => h, fun h => h⟩
def k51 : CC := (.seq (.region k51_r0) (.seq (.seq (.region k51_r1) (.cond (.tmp 8) (.seq (.region k51_r2) .ret) .skip)) (.seq (.region k51_r3) (.seq (.seq (.region k51_r4) (.cond (.tmp 18) (.seq (.region k51_r5) (.seq (.region k51_r6) .ret)) .skip)) (.seq (.region k51_r7) (.seq (.region k51_r8) .ret))))))
theorem k51_e : Ev P pr N k51 e σ Q = Ev P pr N (.seq (.region k51_r0) (.seq (.seq (.region k51_r1) (.cond (.tmp 8) (.seq (.region k51_r2) .ret) .skip)) (.seq (.region k51_r3) (.seq (.seq (.region k51_r4) (.cond (.tmp 18) (.seq (.region k51_r5) (.seq (.region k51_r6) .ret)) .skip)) (.seq (.region k51_r7) (.seq (.region k51_r8) .ret)))))) e σ Q := propext ⟨fun h => h, fun h => h⟩
/-- (*quern/quernref01.Reader).Number -/
theorem k51_is : FnIs Try.prog noPrim 51 32 [ResultVar.tmp 2] k51 := FnIs.of_fn Try.func51 (by kernel_rfl)
def k52_r0 : List COp := [
  ⟨some 4, .assign (.const (.slice .none 0 0)), none, true⟩]
theorem k52_r0_e : Eo P pr N k52_r0 e σ Q = Eo P pr N [
  ⟨some 4, .assign (.const (.slice .none 0 0)), none, true⟩] e σ Q := propext ⟨fun h => h, fun h => h⟩
def k52_r1 : List COp := [
  ⟨some 6, .move (.tmp 0), none, true⟩,
  ⟨some 7, .nilCheck (.tmp 6), none, true⟩,
  ⟨some 8, .fieldAddr 46 (.tmp 7) 1, none, true⟩,
  ⟨some 9, .load 4 (.tmp 8), none, true⟩,
  ⟨some 10, .move (.tmp 9), none, true⟩,
  ⟨some 11, .move (.tmp 1), some (10, false), true⟩,
  ⟨some 12, .binOp .lss 3 (.tmp 11) (.const (.int .i64 0)) 3, some (10, false), true⟩,
  ⟨some 13, .pick (.tmp 10) (.const (.bool true)) (.tmp 12), none, true⟩,
  ⟨some 14, .move (.tmp 13), none, true⟩,
  ⟨some 15, .move (.tmp 1), some (14, false), true⟩,
  ⟨some 16, .move (.tmp 0), some (14, false), true⟩,
  ⟨some 17, .nilCheck (.tmp 16), some (14, false), true⟩,
  ⟨some 18, .fieldAddr 46 (.tmp 17) 0, some (14, false), true⟩,
  ⟨some 19, .load 27 (.tmp 18), some (14, false), true⟩,
  ⟨some 20, .call { callee := .builtin .len, args := #[.tmp 19], argTypes := #[27] }, some (14, false), true⟩,
  ⟨some 21, .binOp .gtr 3 (.tmp 15) (.tmp 20) 3, some (14, false), true⟩,
  ⟨some 22, .pick (.tmp 14) (.const (.bool true)) (.tmp 21), none, true⟩]
theorem k52_r1_e : Eo P pr N k52_r1 e σ Q = Eo P pr N [
  ⟨some 6, .move (.tmp 0), none, true⟩,
  ⟨some 7, .nilCheck (.tmp 6), none, true⟩,
  ⟨some 8, .fieldAddr 46 (.tmp 7) 1, none, true⟩,
  ⟨some 9, .load 4 (.tmp 8), none, true⟩,
  ⟨some 10, .move (.tmp 9), none, true⟩,
  ⟨some 11, .move (.tmp 1), some (10, false), true⟩,
  ⟨some 12, .binOp .lss 3 (.tmp 11) (.const (.int .i64 0)) 3, some (10, false), true⟩,
  ⟨some 13, .pick (.tmp 10) (.const (.bool true)) (.tmp 12), none, true⟩,
  ⟨some 14, .move (.tmp 13), none, true⟩,
  ⟨some 15, .move (.tmp 1), some (14, false), true⟩,
  ⟨some 16, .move (.tmp 0), some (14, false), true⟩,
  ⟨some 17, .nilCheck (.tmp 16), some (14, false), true⟩,
  ⟨some 18, .fieldAddr 46 (.tmp 17) 0, some (14, false), true⟩,
  ⟨some 19, .load 27 (.tmp 18), some (14, false), true⟩,
  ⟨some 20, .call { callee := .builtin .len, args := #[.tmp 19], argTypes := #[27] }, some (14, false), true⟩,
  ⟨some 21, .binOp .gtr 3 (.tmp 15) (.tmp 20) 3, some (14, false), true⟩,
  ⟨some 22, .pick (.tmp 14) (.const (.bool true)) (.tmp 21), none, true⟩] e σ Q := propext ⟨fun h => h, fun h => h⟩
def k52_r2 : List COp := [
  ⟨some 23, .move (.tmp 0), none, true⟩,
  ⟨some 24, .nilCheck (.tmp 23), none, true⟩,
  ⟨some 25, .fieldAddr 46 (.tmp 24) 1, none, true⟩,
  ⟨none, .store 4 (.tmp 25) (.const (.bool true)), none, true⟩]
theorem k52_r2_e : Eo P pr N k52_r2 e σ Q = Eo P pr N [
  ⟨some 23, .move (.tmp 0), none, true⟩,
  ⟨some 24, .nilCheck (.tmp 23), none, true⟩,
  ⟨some 25, .fieldAddr 46 (.tmp 24) 1, none, true⟩,
  ⟨none, .store 4 (.tmp 25) (.const (.bool true)), none, true⟩] e σ Q := propext ⟨fun h => h, fun h => h⟩
def k52_r3 : List COp := [
  ⟨some 4, .assign (.const (.slice .none 0 0)), none, true⟩]
theorem k52_r3_e : Eo P pr N k52_r3 e σ Q = Eo P pr N [
  ⟨some 4, .assign (.const (.slice .none 0 0)), none, true⟩] e σ Q := propext ⟨fun h => h, fun h => h⟩
def k52_r4 : List COp := [
  ⟨some 26, .buildSlice 27 0 #[], none, true⟩,
  ⟨some 27, .move (.tmp 0), none, true⟩,
  ⟨some 28, .nilCheck (.tmp 27), none, true⟩,
  ⟨some 29, .fieldAddr 46 (.tmp 28) 0, none, true⟩,
  ⟨some 30, .load 27 (.tmp 29), none, true⟩,
  ⟨some 31, .move (.tmp 1), none, true⟩,
  ⟨some 32, .slice 27 (.tmp 30) .none (some (.tmp 31)) .none, none, true⟩,
  ⟨some 33, .call { callee := .builtin .append, args := #[.tmp 26, .tmp 32], argTypes := #[27, 27] }, none, true⟩,
  ⟨some 5, .assign (.tmp 33), none, true⟩]
theorem k52_r4_e : Eo P pr N k52_r4 e σ Q = Eo P pr N [
  ⟨some 26, .buildSlice 27 0 #[], none, true⟩,
  ⟨some 27, .move (.tmp 0), none, true⟩,
  ⟨some 28, .nilCheck (.tmp 27), none, true⟩,
  ⟨some 29, .fieldAddr 46 (.tmp 28) 0, none, true⟩,
  ⟨some 30, .load 27 (.tmp 29), none, true⟩,
  ⟨some 31, .move (.tmp 1), none, true⟩,
  ⟨some 32, .slice 27 (.tmp 30) .none (some (.tmp 31)) .none, none, true⟩,
  ⟨some 33, .call { callee := .builtin .append, args := #[.tmp 26, .tmp 32], argTypes := #[27, 27] }, none, true⟩,
  ⟨some 5, .assign (.tmp 33), none, true⟩] e σ Q := propext ⟨fun h => h, fun h => h⟩
def k52_r5 : List COp := [
  ⟨some 34, .move (.tmp 0), none, true⟩,
  ⟨some 35, .move (.tmp 0), none, true⟩,
  ⟨some 36, .nilCheck (.tmp 35), none, true⟩,
  ⟨some 37, .fieldAddr 46 (.tmp 36) 0, none, true⟩,
  ⟨some 38, .load 27 (.tmp 37), none, true⟩,
  ⟨some 39, .move (.tmp 1), none, true⟩,
  ⟨some 40, .slice 27 (.tmp 38) (some (.tmp 39)) .none .none, none, true⟩,
  ⟨some 41, .nilCheck (.tmp 34), none, true⟩,
  ⟨some 42, .fieldAddr 46 (.tmp 41) 0, none, true⟩,
  ⟨none, .store 27 (.tmp 42) (.tmp 40), none, true⟩]
theorem k52_r5_e : Eo P pr N k52_r5 e σ Q = Eo P pr N [
  ⟨some 34, .move (.tmp 0), none, true⟩,
  ⟨some 35, .move (.tmp 0), none, true⟩,
  ⟨some 36, .nilCheck (.tmp 35), none, true⟩,
  ⟨some 37, .fieldAddr 46 (.tmp 36) 0, none, true⟩,
  ⟨some 38, .load 27 (.tmp 37), none, true⟩,
  ⟨some 39, .move (.tmp 1), none, true⟩,
  ⟨some 40, .slice 27 (.tmp 38) (some (.tmp 39)) .none .none, none, true⟩,
  ⟨some 41, .nilCheck (.tmp 34), none, true⟩,
  ⟨some 42, .fieldAddr 46 (.tmp 41) 0, none, true⟩,
  ⟨none, .store 27 (.tmp 42) (.tmp 40), none, true⟩] e σ Q := propext ⟨fun h => h, fun h => h⟩
def k52_r6 : List COp := [
  ⟨some 43, .move (.tmp 5), none, true⟩,
  ⟨some 4, .assign (.tmp 43), none, true⟩]
theorem k52_r6_e : Eo P pr N k52_r6 e σ Q = Eo P pr N [
  ⟨some 43, .move (.tmp 5), none, true⟩,
  ⟨some 4, .assign (.tmp 43), none, true⟩] e σ Q := propext ⟨fun h => h, fun h => h⟩
def k52 : CC := (.seq (.region k52_r0) (.seq (.seq (.region k52_r1) (.cond (.tmp 22) (.seq (.region k52_r2) (.seq (.region k52_r3) .ret)) .skip)) (.seq (.region k52_r4) (.seq (.region k52_r5) (.seq (.region k52_r6) .ret)))))
theorem k52_e : Ev P pr N k52 e σ Q = Ev P pr N (.seq (.region k52_r0) (.seq (.seq (.region k52_r1) (.cond (.tmp 22) (.seq (.region k52_r2) (.seq (.region k52_r3) .ret)) .skip)) (.seq (.region k52_r4) (.seq (.region k52_r5) (.seq (.region k52_r6) .ret))))) e σ Q := propext ⟨fun h => h, fun h => h⟩
/-- (*quern/quernref01.Reader).Bytes -/
theorem k52_is : FnIs Try.prog noPrim 52 44 [ResultVar.tmp 4] k52 := FnIs.of_fn Try.func52 (by kernel_rfl)
def k53_r0 : List COp := [
  ⟨some 1, .box 64 (.tmp 0), none, true⟩,
  ⟨some 2, .assign (.const (.slice .none 0 0)), none, true⟩,
  ⟨some 3, .assign (.const (.int .i64 0)), none, true⟩]
theorem k53_r0_e : Eo P pr N k53_r0 e σ Q = Eo P pr N [
  ⟨some 1, .box 64 (.tmp 0), none, true⟩,
  ⟨some 2, .assign (.const (.slice .none 0 0)), none, true⟩,
  ⟨some 3, .assign (.const (.int .i64 0)), none, true⟩] e σ Q := propext ⟨fun h => h, fun h => h⟩
def k53_r1 : List COp := [
  ⟨some 4, .load 64 (.tmp 1), none, true⟩,
  ⟨some 5, .call { callee := .value (.func 47), args := #[.tmp 4], argTypes := #[64] }, none, true⟩,
  ⟨some 6, .unOp .not 4 (.tmp 5), none, true⟩]
theorem k53_r1_e : Eo P pr N k53_r1 e σ Q = Eo P pr N [
  ⟨some 4, .load 64 (.tmp 1), none, true⟩,
  ⟨some 5, .call { callee := .value (.func 47), args := #[.tmp 4], argTypes := #[64] }, none, true⟩,
  ⟨some 6, .unOp .not 4 (.tmp 5), none, true⟩] e σ Q := propext ⟨fun h => h, fun h => h⟩
def k53_r2 : List COp := [
  ⟨some 2, .assign (.const (.slice .none 0 0)), none, true⟩,
  ⟨some 3, .assign (.const (.int .i64 1)), none, true⟩]
theorem k53_r2_e : Eo P pr N k53_r2 e σ Q = Eo P pr N [
  ⟨some 2, .assign (.const (.slice .none 0 0)), none, true⟩,
  ⟨some 3, .assign (.const (.int .i64 1)), none, true⟩] e σ Q := propext ⟨fun h => h, fun h => h⟩
def k53_r3 : CC := (.wregion [
  (true, ⟨some 7, .fieldAddr 64 (.tmp 1) 0, none, false⟩),
  (false, ⟨some 8, .load 3 (.tmp 7), none, false⟩),
  (false, ⟨some 9, .fieldAddr 64 (.tmp 1) 1, none, false⟩),
  (false, ⟨some 10, .load 3 (.tmp 9), none, false⟩),
  (false, ⟨some 11, .fieldAddr 64 (.tmp 1) 2, none, false⟩),
  (false, ⟨some 12, .load 3 (.tmp 11), none, false⟩),
  (false, ⟨some 13, .fieldAddr 64 (.tmp 1) 3, none, false⟩),
  (false, ⟨some 14, .load 3 (.tmp 13), none, false⟩),
  (false, ⟨some 15, .buildSlice 81 4 #[(0, .tmp 8), (1, .tmp 10), (2, .tmp 12), (3, .tmp 14)], none, false⟩),
  (false, ⟨some 16, .call { callee := .value (.func 40), args := #[.const (.slice .none 0 0), .tmp 15], argTypes := #[27, 81] }, none, false⟩),
  (true, ⟨some 17, .fieldAddr 64 (.tmp 1) 4, none, true⟩),
  (true, ⟨some 18, .load 9 (.tmp 17), none, true⟩),
  (false, ⟨some 19, .call { callee := .value (.func 65), args := #[.tmp 16, .tmp 18], argTypes := #[27, 9] }, none, true⟩),
  (false, ⟨some 2, .assign (.tmp 19), none, true⟩),
  (false, ⟨some 3, .assign (.const (.int .i64 0)), none, true⟩)] false [(11, ⟨some 18, .load 9 (.tmp 17), none, true⟩, [0, 10])])
theorem k53_r3_e : Ev P pr N k53_r3 e σ Q = Ev P pr N (.wregion [
  (true, ⟨some 7, .fieldAddr 64 (.tmp 1) 0, none, false⟩),
  (false, ⟨some 8, .load 3 (.tmp 7), none, false⟩),
  (false, ⟨some 9, .fieldAddr 64 (.tmp 1) 1, none, false⟩),
  (false, ⟨some 10, .load 3 (.tmp 9), none, false⟩),
  (false, ⟨some 11, .fieldAddr 64 (.tmp 1) 2, none, false⟩),
  (false, ⟨some 12, .load 3 (.tmp 11), none, false⟩),
  (false, ⟨some 13, .fieldAddr 64 (.tmp 1) 3, none, false⟩),
  (false, ⟨some 14, .load 3 (.tmp 13), none, false⟩),
  (false, ⟨some 15, .buildSlice 81 4 #[(0, .tmp 8), (1, .tmp 10), (2, .tmp 12), (3, .tmp 14)], none, false⟩),
  (false, ⟨some 16, .call { callee := .value (.func 40), args := #[.const (.slice .none 0 0), .tmp 15], argTypes := #[27, 81] }, none, false⟩),
  (true, ⟨some 17, .fieldAddr 64 (.tmp 1) 4, none, true⟩),
  (true, ⟨some 18, .load 9 (.tmp 17), none, true⟩),
  (false, ⟨some 19, .call { callee := .value (.func 65), args := #[.tmp 16, .tmp 18], argTypes := #[27, 9] }, none, true⟩),
  (false, ⟨some 2, .assign (.tmp 19), none, true⟩),
  (false, ⟨some 3, .assign (.const (.int .i64 0)), none, true⟩)] false [(11, ⟨some 18, .load 9 (.tmp 17), none, true⟩, [0, 10])]) e σ Q := propext ⟨fun h => h, fun h => h⟩
def k53 : CC := (.seq (.region k53_r0) (.seq (.seq (.region k53_r1) (.cond (.tmp 6) (.seq (.region k53_r2) .ret) .skip)) (.seq k53_r3 .ret)))
theorem k53_e : Ev P pr N k53 e σ Q = Ev P pr N (.seq (.region k53_r0) (.seq (.seq (.region k53_r1) (.cond (.tmp 6) (.seq (.region k53_r2) .ret) .skip)) (.seq k53_r3 .ret))) e σ Q := propext ⟨fun h => h, fun h => h⟩
/-- quern/book.Entry -/
theorem k53_is : FnIs Try.prog noPrim 53 20 [ResultVar.tmp 2, ResultVar.tmp 3] k53 := FnIs.of_fn Try.func53 (by kernel_rfl)
def k54_r0 : List COp := [
  ⟨some 1, .box 64 (.tmp 0), none, true⟩,
  ⟨some 2, .assign (.const (.slice .none 0 0)), none, true⟩,
  ⟨some 3, .assign (.const (.int .i64 0)), none, true⟩]
theorem k54_r0_e : Eo P pr N k54_r0 e σ Q = Eo P pr N [
  ⟨some 1, .box 64 (.tmp 0), none, true⟩,
  ⟨some 2, .assign (.const (.slice .none 0 0)), none, true⟩,
  ⟨some 3, .assign (.const (.int .i64 0)), none, true⟩] e σ Q := propext ⟨fun h => h, fun h => h⟩
def k54_r1 : List COp := [
  ⟨some 7, .load 64 (.tmp 1), none, true⟩,
  ⟨some 8, .call { callee := .value (.func 60), args := #[.tmp 7], argTypes := #[64] }, none, true⟩,
  ⟨some 9, .unOp .not 4 (.tmp 8), none, true⟩]
theorem k54_r1_e : Eo P pr N k54_r1 e σ Q = Eo P pr N [
  ⟨some 7, .load 64 (.tmp 1), none, true⟩,
  ⟨some 8, .call { callee := .value (.func 60), args := #[.tmp 7], argTypes := #[64] }, none, true⟩,
  ⟨some 9, .unOp .not 4 (.tmp 8), none, true⟩] e σ Q := propext ⟨fun h => h, fun h => h⟩
def k54_r2 : List COp := [
  ⟨some 2, .assign (.const (.slice .none 0 0)), none, true⟩,
  ⟨some 3, .assign (.const (.int .i64 1)), none, true⟩]
theorem k54_r2_e : Eo P pr N k54_r2 e σ Q = Eo P pr N [
  ⟨some 2, .assign (.const (.slice .none 0 0)), none, true⟩,
  ⟨some 3, .assign (.const (.int .i64 1)), none, true⟩] e σ Q := propext ⟨fun h => h, fun h => h⟩
def k54_r3 : List COp := [
  ⟨some 4, .assign (.const (.slice .none 0 0)), none, true⟩]
theorem k54_r3_e : Eo P pr N k54_r3 e σ Q = Eo P pr N [
  ⟨some 4, .assign (.const (.slice .none 0 0)), none, true⟩] e σ Q := propext ⟨fun h => h, fun h => h⟩
def k54_r4 : List COp := [
  ⟨some 10, .fieldAddr 64 (.tmp 1) 0, none, true⟩,
  ⟨some 11, .load 3 (.tmp 10), none, true⟩,
  ⟨some 12, .fieldAddr 64 (.tmp 1) 1, none, true⟩,
  ⟨some 13, .load 3 (.tmp 12), none, true⟩,
  ⟨some 14, .fieldAddr 64 (.tmp 1) 2, none, true⟩,
  ⟨some 15, .load 3 (.tmp 14), none, true⟩,
  ⟨some 16, .fieldAddr 64 (.tmp 1) 3, none, true⟩,
  ⟨some 17, .load 3 (.tmp 16), none, true⟩,
  ⟨some 18, .buildSlice 81 4 #[(0, .tmp 11), (1, .tmp 13), (2, .tmp 15), (3, .tmp 17)], none, true⟩,
  ⟨some 19, .call { callee := .builtin .len, args := #[.tmp 18], argTypes := #[81] }, none, true⟩,
  ⟨some 20, .move (.const (.int .i64 0)), none, true⟩]
theorem k54_r4_e : Eo P pr N k54_r4 e σ Q = Eo P pr N [
  ⟨some 10, .fieldAddr 64 (.tmp 1) 0, none, true⟩,
  ⟨some 11, .load 3 (.tmp 10), none, true⟩,
  ⟨some 12, .fieldAddr 64 (.tmp 1) 1, none, true⟩,
  ⟨some 13, .load 3 (.tmp 12), none, true⟩,
  ⟨some 14, .fieldAddr 64 (.tmp 1) 2, none, true⟩,
  ⟨some 15, .load 3 (.tmp 14), none, true⟩,
  ⟨some 16, .fieldAddr 64 (.tmp 1) 3, none, true⟩,
  ⟨some 17, .load 3 (.tmp 16), none, true⟩,
  ⟨some 18, .buildSlice 81 4 #[(0, .tmp 11), (1, .tmp 13), (2, .tmp 15), (3, .tmp 17)], none, true⟩,
  ⟨some 19, .call { callee := .builtin .len, args := #[.tmp 18], argTypes := #[81] }, none, true⟩,
  ⟨some 20, .move (.const (.int .i64 0)), none, true⟩] e σ Q := propext ⟨fun h => h, fun h => h⟩
def k54_r5 : List COp := [
  ⟨some 21, .binOp .lss 3 (.tmp 20) (.tmp 19) 3, none, true⟩]
theorem k54_r5_e : Eo P pr N k54_r5 e σ Q = Eo P pr N [
  ⟨some 21, .binOp .lss 3 (.tmp 20) (.tmp 19) 3, none, true⟩] e σ Q := propext ⟨fun h => h, fun h => h⟩
def k54_r6 : List COp := [
  ⟨some 22, .indexAddr 81 (.tmp 18) (.tmp 20), none, true⟩,
  ⟨some 23, .load 3 (.tmp 22), none, true⟩,
  ⟨some 6, .assign (.tmp 23), none, true⟩]
theorem k54_r6_e : Eo P pr N k54_r6 e σ Q = Eo P pr N [
  ⟨some 22, .indexAddr 81 (.tmp 18) (.tmp 20), none, true⟩,
  ⟨some 23, .load 3 (.tmp 22), none, true⟩,
  ⟨some 6, .assign (.tmp 23), none, true⟩] e σ Q := propext ⟨fun h => h, fun h => h⟩
def k54_r7 : List COp := [
  ⟨some 24, .move (.tmp 4), none, true⟩,
  ⟨some 25, .move (.tmp 6), none, true⟩,
  ⟨some 26, .call { callee := .value (.func 49), args := #[.tmp 24, .tmp 25], argTypes := #[27, 3] }, none, true⟩,
  ⟨some 4, .assign (.tmp 26), none, true⟩]
theorem k54_r7_e : Eo P pr N k54_r7 e σ Q = Eo P pr N [
  ⟨some 24, .move (.tmp 4), none, true⟩,
  ⟨some 25, .move (.tmp 6), none, true⟩,
  ⟨some 26, .call { callee := .value (.func 49), args := #[.tmp 24, .tmp 25], argTypes := #[27, 3] }, none, true⟩,
  ⟨some 4, .assign (.tmp 26), none, true⟩] e σ Q := propext ⟨fun h => h, fun h => h⟩
def k54_r8 : List COp := [
  ⟨some 27, .binOp .add 3 (.tmp 20) (.const (.int .i64 1)) 3, none, true⟩,
  ⟨some 20, .move (.tmp 27), none, true⟩]
theorem k54_r8_e : Eo P pr N k54_r8 e σ Q = Eo P pr N [
  ⟨some 27, .binOp .add 3 (.tmp 20) (.const (.int .i64 1)) 3, none, true⟩,
  ⟨some 20, .move (.tmp 27), none, true⟩] e σ Q := propext ⟨fun h => h, fun h => h⟩
def k54_l0 : CC := (.seq (.region k54_r5) (.seq (.cond (.tmp 21) .skip (.exit 0)) (.seq (.block 1 (.seq (.region k54_r6) (.region k54_r7))) (.region k54_r8))))
theorem k54_l0_e : Ev P pr N k54_l0 e σ Q = Ev P pr N (.seq (.region k54_r5) (.seq (.cond (.tmp 21) .skip (.exit 0)) (.seq (.block 1 (.seq (.region k54_r6) (.region k54_r7))) (.region k54_r8)))) e σ Q := propext ⟨fun h => h, fun h => h⟩
def k54_r9 : List COp := [
  ⟨some 28, .move (.tmp 4), none, true⟩,
  ⟨some 29, .fieldAddr 64 (.tmp 1) 4, none, true⟩,
  ⟨some 30, .load 9 (.tmp 29), none, true⟩,
  ⟨some 31, .call { callee := .value (.func 66), args := #[.tmp 28, .tmp 30], argTypes := #[27, 9] }, none, true⟩,
  ⟨some 2, .assign (.tmp 31), none, true⟩,
  ⟨some 3, .assign (.const (.int .i64 0)), none, true⟩]
theorem k54_r9_e : Eo P pr N k54_r9 e σ Q = Eo P pr N [
  ⟨some 28, .move (.tmp 4), none, true⟩,
  ⟨some 29, .fieldAddr 64 (.tmp 1) 4, none, true⟩,
  ⟨some 30, .load 9 (.tmp 29), none, true⟩,
  ⟨some 31, .call { callee := .value (.func 66), args := #[.tmp 28, .tmp 30], argTypes := #[27, 9] }, none, true⟩,
  ⟨some 2, .assign (.tmp 31), none, true⟩,
  ⟨some 3, .assign (.const (.int .i64 0)), none, true⟩] e σ Q := propext ⟨fun h => h, fun h => h⟩
def k54 : CC := (.seq (.region k54_r0) (.seq (.seq (.region k54_r1) (.cond (.tmp 9) (.seq (.region k54_r2) .ret) .skip)) (.seq (.region k54_r3) (.seq (.seq (.region k54_r4) (.block 0 (.loop k54_l0))) (.seq (.region k54_r9) .ret)))))
theorem k54_e : Ev P pr N k54 e σ Q = Ev P pr N (.seq (.region k54_r0) (.seq (.seq (.region k54_r1) (.cond (.tmp 9) (.seq (.region k54_r2) .ret) .skip)) (.seq (.region k54_r3) (.seq (.seq (.region k54_r4) (.block 0 (.loop k54_l0))) (.seq (.region k54_r9) .ret))))) e σ Q := propext ⟨fun h => h, fun h => h⟩
/-- quern/quernref18.Entry -/
theorem k54_is : FnIs Try.prog noPrim 54 32 [ResultVar.tmp 2, ResultVar.tmp 3] k54 := FnIs.of_fn Try.func54 (by kernel_rfl)
def k55_r0 : List COp := [
  ⟨some 2, .alloc 64, none, true⟩,
  ⟨some 3, .assign (.const (.int .i64 0)), none, true⟩]
theorem k55_r0_e : Eo P pr N k55_r0 e σ Q = Eo P pr N [
  ⟨some 2, .alloc 64, none, true⟩,
  ⟨some 3, .assign (.const (.int .i64 0)), none, true⟩] e σ Q := propext ⟨fun h => h, fun h => h⟩
def k55_r1 : List COp := [
  ⟨some 6, .move (.tmp 0), none, true⟩,
  ⟨some 7, .call { callee := .value (.func 23), args := #[.tmp 6], argTypes := #[27] }, none, true⟩,
  ⟨some 4, .assign (.tmp 7), none, true⟩]
theorem k55_r1_e : Eo P pr N k55_r1 e σ Q = Eo P pr N [
  ⟨some 6, .move (.tmp 0), none, true⟩,
  ⟨some 7, .call { callee := .value (.func 23), args := #[.tmp 6], argTypes := #[27] }, none, true⟩,
  ⟨some 4, .assign (.tmp 7), none, true⟩] e σ Q := propext ⟨fun h => h, fun h => h⟩
def k55_r2 : List COp := [
  ⟨some 8, .move (.tmp 4), none, true⟩,
  ⟨some 9, .call { callee := .value (.func 44), args := #[.tmp 8], argTypes := #[42] }, none, true⟩,
  ⟨some 10, .move (.tmp 4), none, true⟩,
  ⟨some 11, .call { callee := .value (.func 44), args := #[.tmp 10], argTypes := #[42] }, none, true⟩,
  ⟨some 12, .move (.tmp 4), none, true⟩,
  ⟨some 13, .call { callee := .value (.func 44), args := #[.tmp 12], argTypes := #[42] }, none, true⟩,
  ⟨some 14, .move (.tmp 4), none, true⟩,
  ⟨some 15, .call { callee := .value (.func 44), args := #[.tmp 14], argTypes := #[42] }, none, true⟩,
  ⟨some 16, .build 64 #[(0, .tmp 9), (1, .tmp 11), (2, .tmp 13), (3, .tmp 15)], none, true⟩,
  ⟨some 5, .alloc 64, none, true⟩,
  ⟨none, .store 64 (.tmp 5) (.tmp 16), none, true⟩]
theorem k55_r2_e : Eo P pr N k55_r2 e σ Q = Eo P pr N [
  ⟨some 8, .move (.tmp 4), none, true⟩,
  ⟨some 9, .call { callee := .value (.func 44), args := #[.tmp 8], argTypes := #[42] }, none, true⟩,
  ⟨some 10, .move (.tmp 4), none, true⟩,
  ⟨some 11, .call { callee := .value (.func 44), args := #[.tmp 10], argTypes := #[42] }, none, true⟩,
  ⟨some 12, .move (.tmp 4), none, true⟩,
  ⟨some 13, .call { callee := .value (.func 44), args := #[.tmp 12], argTypes := #[42] }, none, true⟩,
  ⟨some 14, .move (.tmp 4), none, true⟩,
  ⟨some 15, .call { callee := .value (.func 44), args := #[.tmp 14], argTypes := #[42] }, none, true⟩,
  ⟨some 16, .build 64 #[(0, .tmp 9), (1, .tmp 11), (2, .tmp 13), (3, .tmp 15)], none, true⟩,
  ⟨some 5, .alloc 64, none, true⟩,
  ⟨none, .store 64 (.tmp 5) (.tmp 16), none, true⟩] e σ Q := propext ⟨fun h => h, fun h => h⟩
def k55_r3 : List COp := [
  ⟨some 17, .move (.tmp 4), none, true⟩,
  ⟨some 18, .move (.tmp 4), none, true⟩,
  ⟨some 19, .call { callee := .value (.func 44), args := #[.tmp 18], argTypes := #[42] }, none, true⟩,
  ⟨some 20, .call { callee := .value (.func 45), args := #[.tmp 17, .tmp 19], argTypes := #[42, 3] }, none, true⟩,
  ⟨some 21, .convert 27 9 (.tmp 20), none, true⟩,
  ⟨some 22, .fieldAddr 64 (.tmp 5) 4, none, true⟩,
  ⟨none, .store 9 (.tmp 22) (.tmp 21), none, true⟩]
theorem k55_r3_e : Eo P pr N k55_r3 e σ Q = Eo P pr N [
  ⟨some 17, .move (.tmp 4), none, true⟩,
  ⟨some 18, .move (.tmp 4), none, true⟩,
  ⟨some 19, .call { callee := .value (.func 44), args := #[.tmp 18], argTypes := #[42] }, none, true⟩,
  ⟨some 20, .call { callee := .value (.func 45), args := #[.tmp 17, .tmp 19], argTypes := #[42, 3] }, none, true⟩,
  ⟨some 21, .convert 27 9 (.tmp 20), none, true⟩,
  ⟨some 22, .fieldAddr 64 (.tmp 5) 4, none, true⟩,
  ⟨none, .store 9 (.tmp 22) (.tmp 21), none, true⟩] e σ Q := propext ⟨fun h => h, fun h => h⟩
def k55_r4 : List COp := [
  ⟨some 23, .move (.tmp 4), none, true⟩,
  ⟨some 24, .call { callee := .value (.func 46), args := #[.tmp 23], argTypes := #[42] }, none, true⟩,
  ⟨some 25, .unOp .not 4 (.tmp 24), none, true⟩,
  ⟨some 26, .move (.tmp 25), none, true⟩,
  ⟨some 27, .load 64 (.tmp 5), some (26, false), true⟩,
  ⟨some 28, .call { callee := .value (.func 47), args := #[.tmp 27], argTypes := #[64] }, some (26, false), true⟩,
  ⟨some 29, .unOp .not 4 (.tmp 28), some (26, false), true⟩,
  ⟨some 30, .pick (.tmp 26) (.const (.bool true)) (.tmp 29), none, true⟩]
theorem k55_r4_e : Eo P pr N k55_r4 e σ Q = Eo P pr N [
  ⟨some 23, .move (.tmp 4), none, true⟩,
  ⟨some 24, .call { callee := .value (.func 46), args := #[.tmp 23], argTypes := #[42] }, none, true⟩,
  ⟨some 25, .unOp .not 4 (.tmp 24), none, true⟩,
  ⟨some 26, .move (.tmp 25), none, true⟩,
  ⟨some 27, .load 64 (.tmp 5), some (26, false), true⟩,
  ⟨some 28, .call { callee := .value (.func 47), args := #[.tmp 27], argTypes := #[64] }, some (26, false), true⟩,
  ⟨some 29, .unOp .not 4 (.tmp 28), some (26, false), true⟩,
  ⟨some 30, .pick (.tmp 26) (.const (.bool true)) (.tmp 29), none, true⟩] e σ Q := propext ⟨fun h => h, fun h => h⟩
def k55_r5 : List COp := [
  ⟨some 31, .build 64 #[], none, true⟩,
  ⟨none, .store 64 (.tmp 2) (.tmp 31), none, true⟩,
  ⟨some 3, .assign (.const (.int .i64 11)), none, true⟩]
theorem k55_r5_e : Eo P pr N k55_r5 e σ Q = Eo P pr N [
  ⟨some 31, .build 64 #[], none, true⟩,
  ⟨none, .store 64 (.tmp 2) (.tmp 31), none, true⟩,
  ⟨some 3, .assign (.const (.int .i64 11)), none, true⟩] e σ Q := propext ⟨fun h => h, fun h => h⟩
def k55_r6 : List COp := [
  ⟨some 32, .load 64 (.tmp 5), none, true⟩,
  ⟨none, .store 64 (.tmp 2) (.tmp 32), none, true⟩,
  ⟨some 3, .assign (.const (.int .i64 0)), none, true⟩]
theorem k55_r6_e : Eo P pr N k55_r6 e σ Q = Eo P pr N [
  ⟨some 32, .load 64 (.tmp 5), none, true⟩,
  ⟨none, .store 64 (.tmp 2) (.tmp 32), none, true⟩,
  ⟨some 3, .assign (.const (.int .i64 0)), none, true⟩] e σ Q := propext ⟨fun h => h, fun h => h⟩
def k55 : CC := (.seq (.region k55_r0) (.seq (.region k55_r1) (.seq (.region k55_r2) (.seq (.region k55_r3) (.seq (.seq (.region k55_r4) (.cond (.tmp 30) (.seq (.region k55_r5) .ret) .skip)) (.seq (.region k55_r6) .ret))))))
theorem k55_e : Ev P pr N k55 e σ Q = Ev P pr N (.seq (.region k55_r0) (.seq (.region k55_r1) (.seq (.region k55_r2) (.seq (.region k55_r3) (.seq (.seq (.region k55_r4) (.cond (.tmp 30) (.seq (.region k55_r5) .ret) .skip)) (.seq (.region k55_r6) .ret)))))) e σ Q := propext ⟨fun h => h, fun h => h⟩
/-- quern/book.ReadEntry -/
theorem k55_is : FnIs Try.prog noPrim 55 33 [ResultVar.cell 2 64, ResultVar.tmp 3] k55 := FnIs.of_fn Try.func55 (by kernel_rfl)
def k56_r0 : List COp := [
  ⟨some 2, .assign (.const (.bool false)), none, true⟩]
theorem k56_r0_e : Eo P pr N k56_r0 e σ Q = Eo P pr N [
  ⟨some 2, .assign (.const (.bool false)), none, true⟩] e σ Q := propext ⟨fun h => h, fun h => h⟩
def k56_r1 : List COp := [
  ⟨some 3, .move (.tmp 0), none, true⟩,
  ⟨some 4, .binOp .neq 42 (.tmp 3) (.const (.pointer .none)) 42, none, true⟩,
  ⟨some 5, .move (.tmp 4), none, true⟩,
  ⟨some 6, .move (.tmp 0), some (5, true), true⟩,
  ⟨some 7, .nilCheck (.tmp 6), some (5, true), true⟩,
  ⟨some 8, .fieldAddr 78 (.tmp 7) 1, some (5, true), true⟩,
  ⟨some 9, .load 4 (.tmp 8), some (5, true), true⟩,
  ⟨some 10, .pick (.tmp 5) (.tmp 9) (.const (.bool false)), none, true⟩,
  ⟨some 2, .assign (.tmp 10), none, true⟩]
theorem k56_r1_e : Eo P pr N k56_r1 e σ Q = Eo P pr N [
  ⟨some 3, .move (.tmp 0), none, true⟩,
  ⟨some 4, .binOp .neq 42 (.tmp 3) (.const (.pointer .none)) 42, none, true⟩,
  ⟨some 5, .move (.tmp 4), none, true⟩,
  ⟨some 6, .move (.tmp 0), some (5, true), true⟩,
  ⟨some 7, .nilCheck (.tmp 6), some (5, true), true⟩,
  ⟨some 8, .fieldAddr 78 (.tmp 7) 1, some (5, true), true⟩,
  ⟨some 9, .load 4 (.tmp 8), some (5, true), true⟩,
  ⟨some 10, .pick (.tmp 5) (.tmp 9) (.const (.bool false)), none, true⟩,
  ⟨some 2, .assign (.tmp 10), none, true⟩] e σ Q := propext ⟨fun h => h, fun h => h⟩
def k56 : CC := (.seq (.region k56_r0) (.seq (.region k56_r1) .ret))
theorem k56_e : Ev P pr N k56 e σ Q = Ev P pr N (.seq (.region k56_r0) (.seq (.region k56_r1) .ret)) e σ Q := propext ⟨fun h => h, fun h => h⟩
/-- (*quern/pack.Reader).Bad -/
theorem k56_is : FnIs Try.prog noPrim 56 11 [ResultVar.tmp 2] k56 := FnIs.of_fn Try.func56 (by kernel_rfl)
def k57_r0 : List COp := [
  ⟨some 2, .alloc 64, none, true⟩,
  ⟨some 3, .assign (.const (.int .i64 0)), none, true⟩]
theorem k57_r0_e : Eo P pr N k57_r0 e σ Q = Eo P pr N [
  ⟨some 2, .alloc 64, none, true⟩,
  ⟨some 3, .assign (.const (.int .i64 0)), none, true⟩] e σ Q := propext ⟨fun h => h, fun h => h⟩
def k57_r1 : List COp := [
  ⟨some 6, .buildSlice 27 0 #[], none, true⟩,
  ⟨some 7, .move (.tmp 0), none, true⟩,
  ⟨some 8, .call { callee := .builtin .append, args := #[.tmp 6, .tmp 7], argTypes := #[27, 27] }, none, true⟩,
  ⟨some 9, .build 46 #[(0, .tmp 8)], none, true⟩,
  ⟨some 10, .box 46 (.tmp 9), none, true⟩,
  ⟨some 4, .assign (.tmp 10), none, true⟩]
theorem k57_r1_e : Eo P pr N k57_r1 e σ Q = Eo P pr N [
  ⟨some 6, .buildSlice 27 0 #[], none, true⟩,
  ⟨some 7, .move (.tmp 0), none, true⟩,
  ⟨some 8, .call { callee := .builtin .append, args := #[.tmp 6, .tmp 7], argTypes := #[27, 27] }, none, true⟩,
  ⟨some 9, .build 46 #[(0, .tmp 8)], none, true⟩,
  ⟨some 10, .box 46 (.tmp 9), none, true⟩,
  ⟨some 4, .assign (.tmp 10), none, true⟩] e σ Q := propext ⟨fun h => h, fun h => h⟩
def k57_r2 : List COp := [
  ⟨some 11, .move (.tmp 4), none, true⟩,
  ⟨some 12, .call { callee := .value (.func 51), args := #[.tmp 11], argTypes := #[44] }, none, true⟩,
  ⟨some 13, .build 64 #[(0, .tmp 12)], none, true⟩,
  ⟨some 5, .alloc 64, none, true⟩,
  ⟨none, .store 64 (.tmp 5) (.tmp 13), none, true⟩]
theorem k57_r2_e : Eo P pr N k57_r2 e σ Q = Eo P pr N [
  ⟨some 11, .move (.tmp 4), none, true⟩,
  ⟨some 12, .call { callee := .value (.func 51), args := #[.tmp 11], argTypes := #[44] }, none, true⟩,
  ⟨some 13, .build 64 #[(0, .tmp 12)], none, true⟩,
  ⟨some 5, .alloc 64, none, true⟩,
  ⟨none, .store 64 (.tmp 5) (.tmp 13), none, true⟩] e σ Q := propext ⟨fun h => h, fun h => h⟩
def k57_r3 : List COp := [
  ⟨some 14, .move (.tmp 4), none, true⟩,
  ⟨some 15, .call { callee := .value (.func 51), args := #[.tmp 14], argTypes := #[44] }, none, true⟩,
  ⟨some 16, .fieldAddr 64 (.tmp 5) 1, none, true⟩,
  ⟨none, .store 3 (.tmp 16) (.tmp 15), none, true⟩]
theorem k57_r3_e : Eo P pr N k57_r3 e σ Q = Eo P pr N [
  ⟨some 14, .move (.tmp 4), none, true⟩,
  ⟨some 15, .call { callee := .value (.func 51), args := #[.tmp 14], argTypes := #[44] }, none, true⟩,
  ⟨some 16, .fieldAddr 64 (.tmp 5) 1, none, true⟩,
  ⟨none, .store 3 (.tmp 16) (.tmp 15), none, true⟩] e σ Q := propext ⟨fun h => h, fun h => h⟩
def k57_r4 : List COp := [
  ⟨some 17, .move (.tmp 4), none, true⟩,
  ⟨some 18, .call { callee := .value (.func 51), args := #[.tmp 17], argTypes := #[44] }, none, true⟩,
  ⟨some 19, .fieldAddr 64 (.tmp 5) 2, none, true⟩,
  ⟨none, .store 3 (.tmp 19) (.tmp 18), none, true⟩]
theorem k57_r4_e : Eo P pr N k57_r4 e σ Q = Eo P pr N [
  ⟨some 17, .move (.tmp 4), none, true⟩,
  ⟨some 18, .call { callee := .value (.func 51), args := #[.tmp 17], argTypes := #[44] }, none, true⟩,
  ⟨some 19, .fieldAddr 64 (.tmp 5) 2, none, true⟩,
  ⟨none, .store 3 (.tmp 19) (.tmp 18), none, true⟩] e σ Q := propext ⟨fun h => h, fun h => h⟩
def k57_r5 : List COp := [
  ⟨some 20, .move (.tmp 4), none, true⟩,
  ⟨some 21, .call { callee := .value (.func 51), args := #[.tmp 20], argTypes := #[44] }, none, true⟩,
  ⟨some 22, .fieldAddr 64 (.tmp 5) 3, none, true⟩,
  ⟨none, .store 3 (.tmp 22) (.tmp 21), none, true⟩]
theorem k57_r5_e : Eo P pr N k57_r5 e σ Q = Eo P pr N [
  ⟨some 20, .move (.tmp 4), none, true⟩,
  ⟨some 21, .call { callee := .value (.func 51), args := #[.tmp 20], argTypes := #[44] }, none, true⟩,
  ⟨some 22, .fieldAddr 64 (.tmp 5) 3, none, true⟩,
  ⟨none, .store 3 (.tmp 22) (.tmp 21), none, true⟩] e σ Q := propext ⟨fun h => h, fun h => h⟩
def k57_r6 : List COp := [
  ⟨some 23, .move (.tmp 4), none, true⟩,
  ⟨some 24, .move (.tmp 4), none, true⟩,
  ⟨some 25, .call { callee := .value (.func 51), args := #[.tmp 24], argTypes := #[44] }, none, true⟩,
  ⟨some 26, .call { callee := .value (.func 52), args := #[.tmp 23, .tmp 25], argTypes := #[44, 3] }, none, true⟩,
  ⟨some 27, .convert 27 9 (.tmp 26), none, true⟩,
  ⟨some 28, .fieldAddr 64 (.tmp 5) 4, none, true⟩,
  ⟨none, .store 9 (.tmp 28) (.tmp 27), none, true⟩]
theorem k57_r6_e : Eo P pr N k57_r6 e σ Q = Eo P pr N [
  ⟨some 23, .move (.tmp 4), none, true⟩,
  ⟨some 24, .move (.tmp 4), none, true⟩,
  ⟨some 25, .call { callee := .value (.func 51), args := #[.tmp 24], argTypes := #[44] }, none, true⟩,
  ⟨some 26, .call { callee := .value (.func 52), args := #[.tmp 23, .tmp 25], argTypes := #[44, 3] }, none, true⟩,
  ⟨some 27, .convert 27 9 (.tmp 26), none, true⟩,
  ⟨some 28, .fieldAddr 64 (.tmp 5) 4, none, true⟩,
  ⟨none, .store 9 (.tmp 28) (.tmp 27), none, true⟩] e σ Q := propext ⟨fun h => h, fun h => h⟩
def k57_r7 : List COp := [
  ⟨some 29, .move (.tmp 4), none, true⟩,
  ⟨some 30, .nilCheck (.tmp 29), none, true⟩,
  ⟨some 31, .fieldAddr 46 (.tmp 30) 1, none, true⟩,
  ⟨some 32, .load 4 (.tmp 31), none, true⟩,
  ⟨some 33, .move (.tmp 32), none, true⟩,
  ⟨some 34, .move (.tmp 4), some (33, false), true⟩,
  ⟨some 35, .nilCheck (.tmp 34), some (33, false), true⟩,
  ⟨some 36, .fieldAddr 46 (.tmp 35) 0, some (33, false), true⟩,
  ⟨some 37, .load 27 (.tmp 36), some (33, false), true⟩,
  ⟨some 38, .call { callee := .builtin .len, args := #[.tmp 37], argTypes := #[27] }, some (33, false), true⟩,
  ⟨some 39, .binOp .gtr 3 (.tmp 38) (.const (.int .i64 0)) 3, some (33, false), true⟩,
  ⟨some 40, .pick (.tmp 33) (.const (.bool true)) (.tmp 39), none, true⟩,
  ⟨some 41, .move (.tmp 40), none, true⟩,
  ⟨some 42, .load 64 (.tmp 5), some (41, false), true⟩,
  ⟨some 43, .call { callee := .value (.func 60), args := #[.tmp 42], argTypes := #[64] }, some (41, false), true⟩,
  ⟨some 44, .unOp .not 4 (.tmp 43), some (41, false), true⟩,
  ⟨some 45, .pick (.tmp 41) (.const (.bool true)) (.tmp 44), none, true⟩]
theorem k57_r7_e : Eo P pr N k57_r7 e σ Q = Eo P pr N [
  ⟨some 29, .move (.tmp 4), none, true⟩,
  ⟨some 30, .nilCheck (.tmp 29), none, true⟩,
  ⟨some 31, .fieldAddr 46 (.tmp 30) 1, none, true⟩,
  ⟨some 32, .load 4 (.tmp 31), none, true⟩,
  ⟨some 33, .move (.tmp 32), none, true⟩,
  ⟨some 34, .move (.tmp 4), some (33, false), true⟩,
  ⟨some 35, .nilCheck (.tmp 34), some (33, false), true⟩,
  ⟨some 36, .fieldAddr 46 (.tmp 35) 0, some (33, false), true⟩,
  ⟨some 37, .load 27 (.tmp 36), some (33, false), true⟩,
  ⟨some 38, .call { callee := .builtin .len, args := #[.tmp 37], argTypes := #[27] }, some (33, false), true⟩,
  ⟨some 39, .binOp .gtr 3 (.tmp 38) (.const (.int .i64 0)) 3, some (33, false), true⟩,
  ⟨some 40, .pick (.tmp 33) (.const (.bool true)) (.tmp 39), none, true⟩,
  ⟨some 41, .move (.tmp 40), none, true⟩,
  ⟨some 42, .load 64 (.tmp 5), some (41, false), true⟩,
  ⟨some 43, .call { callee := .value (.func 60), args := #[.tmp 42], argTypes := #[64] }, some (41, false), true⟩,
  ⟨some 44, .unOp .not 4 (.tmp 43), some (41, false), true⟩,
  ⟨some 45, .pick (.tmp 41) (.const (.bool true)) (.tmp 44), none, true⟩] e σ Q := propext ⟨fun h => h, fun h => h⟩
def k57_r8 : List COp := [
  ⟨some 46, .build 64 #[], none, true⟩,
  ⟨none, .store 64 (.tmp 2) (.tmp 46), none, true⟩,
  ⟨some 3, .assign (.const (.int .i64 11)), none, true⟩]
theorem k57_r8_e : Eo P pr N k57_r8 e σ Q = Eo P pr N [
  ⟨some 46, .build 64 #[], none, true⟩,
  ⟨none, .store 64 (.tmp 2) (.tmp 46), none, true⟩,
  ⟨some 3, .assign (.const (.int .i64 11)), none, true⟩] e σ Q := propext ⟨fun h => h, fun h => h⟩
def k57_r9 : List COp := [
  ⟨some 47, .load 64 (.tmp 5), none, true⟩,
  ⟨none, .store 64 (.tmp 2) (.tmp 47), none, true⟩,
  ⟨some 3, .assign (.const (.int .i64 0)), none, true⟩]
theorem k57_r9_e : Eo P pr N k57_r9 e σ Q = Eo P pr N [
  ⟨some 47, .load 64 (.tmp 5), none, true⟩,
  ⟨none, .store 64 (.tmp 2) (.tmp 47), none, true⟩,
  ⟨some 3, .assign (.const (.int .i64 0)), none, true⟩] e σ Q := propext ⟨fun h => h, fun h => h⟩
def k57 : CC := (.seq (.region k57_r0) (.seq (.region k57_r1) (.seq (.region k57_r2) (.seq (.region k57_r3) (.seq (.region k57_r4) (.seq (.region k57_r5) (.seq (.region k57_r6) (.seq (.seq (.region k57_r7) (.cond (.tmp 45) (.seq (.region k57_r8) .ret) .skip)) (.seq (.region k57_r9) .ret)))))))))
theorem k57_e : Ev P pr N k57 e σ Q = Ev P pr N (.seq (.region k57_r0) (.seq (.region k57_r1) (.seq (.region k57_r2) (.seq (.region k57_r3) (.seq (.region k57_r4) (.seq (.region k57_r5) (.seq (.region k57_r6) (.seq (.seq (.region k57_r7) (.cond (.tmp 45) (.seq (.region k57_r8) .ret) .skip)) (.seq (.region k57_r9) .ret))))))))) e σ Q := propext ⟨fun h => h, fun h => h⟩
/-- quern/quernref18.ReadEntry -/
theorem k57_is : FnIs Try.prog noPrim 57 48 [ResultVar.cell 2 64, ResultVar.tmp 3] k57 := FnIs.of_fn Try.func57 (by kernel_rfl)
def k58_r0 : List COp := [
  ⟨some 4, .assign (.const (.bool false)), none, true⟩]
theorem k58_r0_e : Eo P pr N k58_r0 e σ Q = Eo P pr N [
  ⟨some 4, .assign (.const (.bool false)), none, true⟩] e σ Q := propext ⟨fun h => h, fun h => h⟩
def k58_r1 : List COp := [
  ⟨some 5, .move (.tmp 0), none, true⟩,
  ⟨some 6, .move (.tmp 1), none, true⟩,
  ⟨some 7, .call { callee := .value (.func 67), args := #[.tmp 5, .tmp 6], argTypes := #[22, 83] }, none, true⟩,
  ⟨some 8, .binOp .geq 3 (.tmp 7) (.const (.int .i64 0)) 3, none, true⟩,
  ⟨some 4, .assign (.tmp 8), none, true⟩]
theorem k58_r1_e : Eo P pr N k58_r1 e σ Q = Eo P pr N [
  ⟨some 5, .move (.tmp 0), none, true⟩,
  ⟨some 6, .move (.tmp 1), none, true⟩,
  ⟨some 7, .call { callee := .value (.func 67), args := #[.tmp 5, .tmp 6], argTypes := #[22, 83] }, none, true⟩,
  ⟨some 8, .binOp .geq 3 (.tmp 7) (.const (.int .i64 0)) 3, none, true⟩,
  ⟨some 4, .assign (.tmp 8), none, true⟩] e σ Q := propext ⟨fun h => h, fun h => h⟩
def k58 : CC := (.seq (.region k58_r0) (.seq (.region k58_r1) .ret))
theorem k58_e : Ev P pr N k58 e σ Q = Ev P pr N (.seq (.region k58_r0) (.seq (.region k58_r1) .ret)) e σ Q := propext ⟨fun h => h, fun h => h⟩
/-- slices.ContainsFunc[[]quern/api.Item,quern/api.Item] -/
theorem k58_is : FnIs Try.prog noPrim 58 9 [ResultVar.tmp 4] k58 := FnIs.of_fn Try.func58 (by kernel_rfl)
def k59_r0 : List COp := [
  ⟨some 1, .box 66 (.tmp 0), none, true⟩,
  ⟨some 2, .assign (.const (.bool false)), none, true⟩]
theorem k59_r0_e : Eo P pr N k59_r0 e σ Q = Eo P pr N [
  ⟨some 1, .box 66 (.tmp 0), none, true⟩,
  ⟨some 2, .assign (.const (.bool false)), none, true⟩] e σ Q := propext ⟨fun h => h, fun h => h⟩
def k59_r1 : List COp := [
  ⟨some 3, .fieldAddr 66 (.tmp 1) 0, none, true⟩,
  ⟨some 4, .load 3 (.tmp 3), none, true⟩,
  ⟨some 5, .binOp .lss 3 (.tmp 4) (.const (.int .i64 0)) 3, none, true⟩,
  ⟨some 2, .assign (.tmp 5), none, true⟩]
theorem k59_r1_e : Eo P pr N k59_r1 e σ Q = Eo P pr N [
  ⟨some 3, .fieldAddr 66 (.tmp 1) 0, none, true⟩,
  ⟨some 4, .load 3 (.tmp 3), none, true⟩,
  ⟨some 5, .binOp .lss 3 (.tmp 4) (.const (.int .i64 0)) 3, none, true⟩,
  ⟨some 2, .assign (.tmp 5), none, true⟩] e σ Q := propext ⟨fun h => h, fun h => h⟩
def k59 : CC := (.seq (.region k59_r0) (.seq (.region k59_r1) .ret))
theorem k59_e : Ev P pr N k59 e σ Q = Ev P pr N (.seq (.region k59_r0) (.seq (.region k59_r1) .ret)) e σ Q := propext ⟨fun h => h, fun h => h⟩
/-- quern/net.Valid$1 -/
theorem k59_is : FnIs Try.prog noPrim 59 6 [ResultVar.tmp 2] k59 := FnIs.of_fn Try.func59 (by kernel_rfl)
def k60_r0 : List COp := [
  ⟨some 1, .box 64 (.tmp 0), none, true⟩,
  ⟨some 2, .assign (.const (.bool false)), none, true⟩]
theorem k60_r0_e : Eo P pr N k60_r0 e σ Q = Eo P pr N [
  ⟨some 1, .box 64 (.tmp 0), none, true⟩,
  ⟨some 2, .assign (.const (.bool false)), none, true⟩] e σ Q := propext ⟨fun h => h, fun h => h⟩
def k60_r1 : List COp := [
  ⟨some 3, .fieldAddr 64 (.tmp 1) 0, none, true⟩,
  ⟨some 4, .load 3 (.tmp 3), none, true⟩,
  ⟨some 5, .binOp .gtr 3 (.tmp 4) (.const (.int .i64 0)) 3, none, true⟩,
  ⟨some 6, .move (.tmp 5), none, true⟩,
  ⟨some 7, .fieldAddr 64 (.tmp 1) 0, some (6, true), true⟩,
  ⟨some 8, .load 3 (.tmp 7), some (6, true), true⟩,
  ⟨some 9, .binOp .lss 3 (.tmp 8) (.const (.int .i64 4)) 3, some (6, true), true⟩,
  ⟨some 10, .pick (.tmp 6) (.tmp 9) (.const (.bool false)), none, true⟩,
  ⟨some 11, .move (.tmp 10), none, true⟩,
  ⟨some 12, .fieldAddr 64 (.tmp 1) 1, some (11, true), true⟩,
  ⟨some 13, .load 3 (.tmp 12), some (11, true), true⟩,
  ⟨some 14, .binOp .geq 3 (.tmp 13) (.const (.int .i64 0)) 3, some (11, true), true⟩,
  ⟨some 15, .pick (.tmp 11) (.tmp 14) (.const (.bool false)), none, true⟩,
  ⟨some 16, .move (.tmp 15), none, true⟩,
  ⟨some 17, .fieldAddr 64 (.tmp 1) 2, some (16, true), true⟩,
  ⟨some 18, .load 3 (.tmp 17), some (16, true), true⟩,
  ⟨some 19, .binOp .geq 3 (.tmp 18) (.const (.int .i64 0)) 3, some (16, true), true⟩,
  ⟨some 20, .pick (.tmp 16) (.tmp 19) (.const (.bool false)), none, true⟩,
  ⟨some 21, .move (.tmp 20), none, true⟩,
  ⟨some 22, .fieldAddr 64 (.tmp 1) 3, some (21, true), true⟩,
  ⟨some 23, .load 3 (.tmp 22), some (21, true), true⟩,
  ⟨some 24, .binOp .geq 3 (.tmp 23) (.const (.int .i64 0)) 3, some (21, true), true⟩,
  ⟨some 25, .pick (.tmp 21) (.tmp 24) (.const (.bool false)), none, true⟩,
  ⟨some 26, .move (.tmp 25), none, true⟩,
  ⟨some 27, .fieldAddr 64 (.tmp 1) 4, some (26, true), true⟩,
  ⟨some 28, .load 9 (.tmp 27), some (26, true), true⟩,
  ⟨some 29, .call { callee := .builtin .len, args := #[.tmp 28], argTypes := #[9] }, some (26, true), true⟩,
  ⟨some 30, .binOp .leq 3 (.tmp 29) (.const (.int .i64 16384)) 3, some (26, true), true⟩,
  ⟨some 31, .pick (.tmp 26) (.tmp 30) (.const (.bool false)), none, true⟩,
  ⟨some 2, .assign (.tmp 31), none, true⟩]
theorem k60_r1_e : Eo P pr N k60_r1 e σ Q = Eo P pr N [
  ⟨some 3, .fieldAddr 64 (.tmp 1) 0, none, true⟩,
  ⟨some 4, .load 3 (.tmp 3), none, true⟩,
  ⟨some 5, .binOp .gtr 3 (.tmp 4) (.const (.int .i64 0)) 3, none, true⟩,
  ⟨some 6, .move (.tmp 5), none, true⟩,
  ⟨some 7, .fieldAddr 64 (.tmp 1) 0, some (6, true), true⟩,
  ⟨some 8, .load 3 (.tmp 7), some (6, true), true⟩,
  ⟨some 9, .binOp .lss 3 (.tmp 8) (.const (.int .i64 4)) 3, some (6, true), true⟩,
  ⟨some 10, .pick (.tmp 6) (.tmp 9) (.const (.bool false)), none, true⟩,
  ⟨some 11, .move (.tmp 10), none, true⟩,
  ⟨some 12, .fieldAddr 64 (.tmp 1) 1, some (11, true), true⟩,
  ⟨some 13, .load 3 (.tmp 12), some (11, true), true⟩,
  ⟨some 14, .binOp .geq 3 (.tmp 13) (.const (.int .i64 0)) 3, some (11, true), true⟩,
  ⟨some 15, .pick (.tmp 11) (.tmp 14) (.const (.bool false)), none, true⟩,
  ⟨some 16, .move (.tmp 15), none, true⟩,
  ⟨some 17, .fieldAddr 64 (.tmp 1) 2, some (16, true), true⟩,
  ⟨some 18, .load 3 (.tmp 17), some (16, true), true⟩,
  ⟨some 19, .binOp .geq 3 (.tmp 18) (.const (.int .i64 0)) 3, some (16, true), true⟩,
  ⟨some 20, .pick (.tmp 16) (.tmp 19) (.const (.bool false)), none, true⟩,
  ⟨some 21, .move (.tmp 20), none, true⟩,
  ⟨some 22, .fieldAddr 64 (.tmp 1) 3, some (21, true), true⟩,
  ⟨some 23, .load 3 (.tmp 22), some (21, true), true⟩,
  ⟨some 24, .binOp .geq 3 (.tmp 23) (.const (.int .i64 0)) 3, some (21, true), true⟩,
  ⟨some 25, .pick (.tmp 21) (.tmp 24) (.const (.bool false)), none, true⟩,
  ⟨some 26, .move (.tmp 25), none, true⟩,
  ⟨some 27, .fieldAddr 64 (.tmp 1) 4, some (26, true), true⟩,
  ⟨some 28, .load 9 (.tmp 27), some (26, true), true⟩,
  ⟨some 29, .call { callee := .builtin .len, args := #[.tmp 28], argTypes := #[9] }, some (26, true), true⟩,
  ⟨some 30, .binOp .leq 3 (.tmp 29) (.const (.int .i64 16384)) 3, some (26, true), true⟩,
  ⟨some 31, .pick (.tmp 26) (.tmp 30) (.const (.bool false)), none, true⟩,
  ⟨some 2, .assign (.tmp 31), none, true⟩] e σ Q := propext ⟨fun h => h, fun h => h⟩
def k60 : CC := (.seq (.region k60_r0) (.seq (.region k60_r1) .ret))
theorem k60_e : Ev P pr N k60 e σ Q = Ev P pr N (.seq (.region k60_r0) (.seq (.region k60_r1) .ret)) e σ Q := propext ⟨fun h => h, fun h => h⟩
/-- quern/quernref18.Valid -/
theorem k60_is : FnIs Try.prog noPrim 60 32 [ResultVar.tmp 2] k60 := FnIs.of_fn Try.func60 (by kernel_rfl)
def k63_r0 : List COp := [
  ⟨some 2, .assign (.const (.int .i64 0)), none, true⟩,
  ⟨some 3, .assign (.const (.int .i64 0)), none, true⟩]
theorem k63_r0_e : Eo P pr N k63_r0 e σ Q = Eo P pr N [
  ⟨some 2, .assign (.const (.int .i64 0)), none, true⟩,
  ⟨some 3, .assign (.const (.int .i64 0)), none, true⟩] e σ Q := propext ⟨fun h => h, fun h => h⟩
def k63_r1 : List COp := [
  ⟨some 4, .assign (.const (.int .i64 0)), none, true⟩]
theorem k63_r1_e : Eo P pr N k63_r1 e σ Q = Eo P pr N [
  ⟨some 4, .assign (.const (.int .i64 0)), none, true⟩] e σ Q := propext ⟨fun h => h, fun h => h⟩
def k63_r2 : List COp := [
  ⟨some 5, .assign (.const (.int .i64 0)), none, true⟩]
theorem k63_r2_e : Eo P pr N k63_r2 e σ Q = Eo P pr N [
  ⟨some 5, .assign (.const (.int .i64 0)), none, true⟩] e σ Q := propext ⟨fun h => h, fun h => h⟩
def k63_r3 : List COp := [
  ⟨some 6, .move (.tmp 5), none, true⟩,
  ⟨some 7, .move (.tmp 0), none, true⟩,
  ⟨some 8, .call { callee := .builtin .len, args := #[.tmp 7], argTypes := #[27] }, none, true⟩,
  ⟨some 9, .binOp .lss 3 (.tmp 6) (.tmp 8) 3, none, true⟩,
  ⟨some 10, .move (.tmp 9), none, true⟩,
  ⟨some 11, .move (.tmp 5), some (10, true), true⟩,
  ⟨some 12, .binOp .lss 3 (.tmp 11) (.const (.int .i64 9)) 3, some (10, true), true⟩,
  ⟨some 13, .pick (.tmp 10) (.tmp 12) (.const (.bool false)), none, true⟩]
theorem k63_r3_e : Eo P pr N k63_r3 e σ Q = Eo P pr N [
  ⟨some 6, .move (.tmp 5), none, true⟩,
  ⟨some 7, .move (.tmp 0), none, true⟩,
  ⟨some 8, .call { callee := .builtin .len, args := #[.tmp 7], argTypes := #[27] }, none, true⟩,
  ⟨some 9, .binOp .lss 3 (.tmp 6) (.tmp 8) 3, none, true⟩,
  ⟨some 10, .move (.tmp 9), none, true⟩,
  ⟨some 11, .move (.tmp 5), some (10, true), true⟩,
  ⟨some 12, .binOp .lss 3 (.tmp 11) (.const (.int .i64 9)) 3, some (10, true), true⟩,
  ⟨some 13, .pick (.tmp 10) (.tmp 12) (.const (.bool false)), none, true⟩] e σ Q := propext ⟨fun h => h, fun h => h⟩
def k63_r5 : List COp := [
  ⟨some 16, .move (.tmp 4), none, true⟩,
  ⟨some 17, .move (.tmp 0), none, true⟩,
  ⟨some 18, .move (.tmp 5), none, true⟩,
  ⟨some 19, .indexAddr 27 (.tmp 17) (.tmp 18), none, true⟩,
  ⟨some 20, .load 5 (.tmp 19), none, true⟩,
  ⟨some 21, .binOp .and 5 (.tmp 20) (.const (.int .u8 127)) 5, none, true⟩,
  ⟨some 22, .convert 5 3 (.tmp 21), none, true⟩,
  ⟨some 23, .move (.tmp 5), none, true⟩,
  ⟨some 24, .binOp .mul 3 (.const (.int .i64 7)) (.tmp 23) 3, none, true⟩,
  ⟨some 25, .binOp .shl 3 (.tmp 22) (.tmp 24) 3, none, true⟩,
  ⟨some 26, .binOp .or 3 (.tmp 16) (.tmp 25) 3, none, true⟩,
  ⟨some 4, .assign (.tmp 26), none, true⟩]
theorem k63_r5_e : Eo P pr N k63_r5 e σ Q = Eo P pr N [
  ⟨some 16, .move (.tmp 4), none, true⟩,
  ⟨some 17, .move (.tmp 0), none, true⟩,
  ⟨some 18, .move (.tmp 5), none, true⟩,
  ⟨some 19, .indexAddr 27 (.tmp 17) (.tmp 18), none, true⟩,
  ⟨some 20, .load 5 (.tmp 19), none, true⟩,
  ⟨some 21, .binOp .and 5 (.tmp 20) (.const (.int .u8 127)) 5, none, true⟩,
  ⟨some 22, .convert 5 3 (.tmp 21), none, true⟩,
  ⟨some 23, .move (.tmp 5), none, true⟩,
  ⟨some 24, .binOp .mul 3 (.const (.int .i64 7)) (.tmp 23) 3, none, true⟩,
  ⟨some 25, .binOp .shl 3 (.tmp 22) (.tmp 24) 3, none, true⟩,
  ⟨some 26, .binOp .or 3 (.tmp 16) (.tmp 25) 3, none, true⟩,
  ⟨some 4, .assign (.tmp 26), none, true⟩] e σ Q := propext ⟨fun h => h, fun h => h⟩
def k63_r6 : List COp := [
  ⟨some 27, .move (.tmp 0), none, true⟩,
  ⟨some 28, .move (.tmp 5), none, true⟩,
  ⟨some 29, .indexAddr 27 (.tmp 27) (.tmp 28), none, true⟩,
  ⟨some 30, .load 5 (.tmp 29), none, true⟩,
  ⟨some 31, .binOp .gtr 5 (.tmp 30) (.const (.int .u8 127)) 5, none, true⟩]
theorem k63_r6_e : Eo P pr N k63_r6 e σ Q = Eo P pr N [
  ⟨some 27, .move (.tmp 0), none, true⟩,
  ⟨some 28, .move (.tmp 5), none, true⟩,
  ⟨some 29, .indexAddr 27 (.tmp 27) (.tmp 28), none, true⟩,
  ⟨some 30, .load 5 (.tmp 29), none, true⟩,
  ⟨some 31, .binOp .gtr 5 (.tmp 30) (.const (.int .u8 127)) 5, none, true⟩] e σ Q := propext ⟨fun h => h, fun h => h⟩
def k63_r7 : List COp := [
  ⟨some 32, .move (.tmp 0), none, true⟩,
  ⟨some 33, .move (.tmp 5), none, true⟩,
  ⟨some 34, .indexAddr 27 (.tmp 32) (.tmp 33), none, true⟩,
  ⟨some 35, .load 5 (.tmp 34), none, true⟩,
  ⟨some 36, .binOp .eql 5 (.tmp 35) (.const (.int .u8 0)) 5, none, true⟩,
  ⟨some 37, .move (.tmp 36), none, true⟩,
  ⟨some 38, .move (.tmp 5), some (37, true), true⟩,
  ⟨some 39, .binOp .gtr 3 (.tmp 38) (.const (.int .i64 0)) 3, some (37, true), true⟩,
  ⟨some 40, .pick (.tmp 37) (.tmp 39) (.const (.bool false)), none, true⟩]
theorem k63_r7_e : Eo P pr N k63_r7 e σ Q = Eo P pr N [
  ⟨some 32, .move (.tmp 0), none, true⟩,
  ⟨some 33, .move (.tmp 5), none, true⟩,
  ⟨some 34, .indexAddr 27 (.tmp 32) (.tmp 33), none, true⟩,
  ⟨some 35, .load 5 (.tmp 34), none, true⟩,
  ⟨some 36, .binOp .eql 5 (.tmp 35) (.const (.int .u8 0)) 5, none, true⟩,
  ⟨some 37, .move (.tmp 36), none, true⟩,
  ⟨some 38, .move (.tmp 5), some (37, true), true⟩,
  ⟨some 39, .binOp .gtr 3 (.tmp 38) (.const (.int .i64 0)) 3, some (37, true), true⟩,
  ⟨some 40, .pick (.tmp 37) (.tmp 39) (.const (.bool false)), none, true⟩] e σ Q := propext ⟨fun h => h, fun h => h⟩
def k63_r8 : List COp := [
  ⟨some 41, .move (.tmp 4), none, true⟩,
  ⟨some 42, .move (.tmp 5), none, true⟩,
  ⟨some 43, .binOp .add 3 (.tmp 42) (.const (.int .i64 1)) 3, none, true⟩,
  ⟨some 2, .assign (.tmp 41), none, true⟩,
  ⟨some 3, .assign (.tmp 43), none, true⟩]
theorem k63_r8_e : Eo P pr N k63_r8 e σ Q = Eo P pr N [
  ⟨some 41, .move (.tmp 4), none, true⟩,
  ⟨some 42, .move (.tmp 5), none, true⟩,
  ⟨some 43, .binOp .add 3 (.tmp 42) (.const (.int .i64 1)) 3, none, true⟩,
  ⟨some 2, .assign (.tmp 41), none, true⟩,
  ⟨some 3, .assign (.tmp 43), none, true⟩] e σ Q := propext ⟨fun h => h, fun h => h⟩
def k63_r4 : List COp := [
  ⟨some 14, .move (.tmp 5), none, true⟩,
  ⟨some 15, .binOp .add 3 (.tmp 14) (.const (.int .i64 1)) 3, none, true⟩,
  ⟨some 5, .assign (.tmp 15), none, true⟩]
theorem k63_r4_e : Eo P pr N k63_r4 e σ Q = Eo P pr N [
  ⟨some 14, .move (.tmp 5), none, true⟩,
  ⟨some 15, .binOp .add 3 (.tmp 14) (.const (.int .i64 1)) 3, none, true⟩,
  ⟨some 5, .assign (.tmp 15), none, true⟩] e σ Q := propext ⟨fun h => h, fun h => h⟩
def k63_l0 : CC := (.seq (.seq (.region k63_r3) (.cond (.tmp 13) .skip (.exit 0))) (.seq (.block 1 (.seq (.region k63_r5) (.seq (.seq (.region k63_r6) (.cond (.tmp 31) (.exit 1) .skip)) (.seq (.seq (.region k63_r7) (.cond (.tmp 40) (.exit 0) .skip)) (.seq (.region k63_r8) .ret))))) (.region k63_r4)))
theorem k63_l0_e : Ev P pr N k63_l0 e σ Q = Ev P pr N (.seq (.seq (.region k63_r3) (.cond (.tmp 13) .skip (.exit 0))) (.seq (.block 1 (.seq (.region k63_r5) (.seq (.seq (.region k63_r6) (.cond (.tmp 31) (.exit 1) .skip)) (.seq (.seq (.region k63_r7) (.cond (.tmp 40) (.exit 0) .skip)) (.seq (.region k63_r8) .ret))))) (.region k63_r4))) e σ Q := propext ⟨fun h => h, fun h => h⟩
def k63_r9 : List COp := [
  ⟨some 2, .assign (.const (.int .i64 0)), none, true⟩,
  ⟨some 3, .assign (.const (.int .i64 0)), none, true⟩]
theorem k63_r9_e : Eo P pr N k63_r9 e σ Q = Eo P pr N [
  ⟨some 2, .assign (.const (.int .i64 0)), none, true⟩,
  ⟨some 3, .assign (.const (.int .i64 0)), none, true⟩] e σ Q := propext ⟨fun h => h, fun h => h⟩
def k63 : CC := (.seq (.region k63_r0) (.seq (.region k63_r1) (.seq (.seq (.region k63_r2) (.block 0 (.loop k63_l0))) (.seq (.region k63_r9) .ret))))
theorem k63_e : Ev P pr N k63 e σ Q = Ev P pr N (.seq (.region k63_r0) (.seq (.region k63_r1) (.seq (.seq (.region k63_r2) (.block 0 (.loop k63_l0))) (.seq (.region k63_r9) .ret)))) e σ Q := propext ⟨fun h => h, fun h => h⟩
/-- quern/pack.Take -/
theorem k63_is : FnIs Try.prog noPrim 63 44 [ResultVar.tmp 2, ResultVar.tmp 3] k63 := FnIs.of_fn Try.func63 (by kernel_rfl)
def k64_r0 : List COp := [
  ⟨some 2, .assign (.const (.int .i64 0)), none, true⟩,
  ⟨some 3, .assign (.const (.int .i64 0)), none, true⟩]
theorem k64_r0_e : Eo P pr N k64_r0 e σ Q = Eo P pr N [
  ⟨some 2, .assign (.const (.int .i64 0)), none, true⟩,
  ⟨some 3, .assign (.const (.int .i64 0)), none, true⟩] e σ Q := propext ⟨fun h => h, fun h => h⟩
def k64_r1 : List COp := [
  ⟨some 4, .assign (.const (.int .i64 0)), none, true⟩]
theorem k64_r1_e : Eo P pr N k64_r1 e σ Q = Eo P pr N [
  ⟨some 4, .assign (.const (.int .i64 0)), none, true⟩] e σ Q := propext ⟨fun h => h, fun h => h⟩
def k64_r2 : List COp := [
  ⟨some 7, .move (.tmp 4), none, true⟩,
  ⟨some 8, .move (.tmp 0), none, true⟩,
  ⟨some 9, .call { callee := .builtin .len, args := #[.tmp 8], argTypes := #[27] }, none, true⟩,
  ⟨some 10, .binOp .lss 3 (.tmp 7) (.tmp 9) 3, none, true⟩,
  ⟨some 11, .move (.tmp 10), none, true⟩,
  ⟨some 12, .move (.tmp 0), some (11, true), true⟩,
  ⟨some 13, .move (.tmp 4), some (11, true), true⟩,
  ⟨some 14, .indexAddr 27 (.tmp 12) (.tmp 13), some (11, true), true⟩,
  ⟨some 15, .load 5 (.tmp 14), some (11, true), true⟩,
  ⟨some 16, .binOp .geq 5 (.tmp 15) (.const (.int .u8 128)) 5, some (11, true), true⟩,
  ⟨some 17, .pick (.tmp 11) (.tmp 16) (.const (.bool false)), none, true⟩]
theorem k64_r2_e : Eo P pr N k64_r2 e σ Q = Eo P pr N [
  ⟨some 7, .move (.tmp 4), none, true⟩,
  ⟨some 8, .move (.tmp 0), none, true⟩,
  ⟨some 9, .call { callee := .builtin .len, args := #[.tmp 8], argTypes := #[27] }, none, true⟩,
  ⟨some 10, .binOp .lss 3 (.tmp 7) (.tmp 9) 3, none, true⟩,
  ⟨some 11, .move (.tmp 10), none, true⟩,
  ⟨some 12, .move (.tmp 0), some (11, true), true⟩,
  ⟨some 13, .move (.tmp 4), some (11, true), true⟩,
  ⟨some 14, .indexAddr 27 (.tmp 12) (.tmp 13), some (11, true), true⟩,
  ⟨some 15, .load 5 (.tmp 14), some (11, true), true⟩,
  ⟨some 16, .binOp .geq 5 (.tmp 15) (.const (.int .u8 128)) 5, some (11, true), true⟩,
  ⟨some 17, .pick (.tmp 11) (.tmp 16) (.const (.bool false)), none, true⟩] e σ Q := propext ⟨fun h => h, fun h => h⟩
def k64_r3 : List COp := [
  ⟨some 18, .move (.tmp 4), none, true⟩,
  ⟨some 19, .binOp .add 3 (.tmp 18) (.const (.int .i64 1)) 3, none, true⟩,
  ⟨some 4, .assign (.tmp 19), none, true⟩]
theorem k64_r3_e : Eo P pr N k64_r3 e σ Q = Eo P pr N [
  ⟨some 18, .move (.tmp 4), none, true⟩,
  ⟨some 19, .binOp .add 3 (.tmp 18) (.const (.int .i64 1)) 3, none, true⟩,
  ⟨some 4, .assign (.tmp 19), none, true⟩] e σ Q := propext ⟨fun h => h, fun h => h⟩
def k64_l0 : CC := (.seq (.seq (.region k64_r2) (.cond (.tmp 17) .skip (.exit 0))) (.block 1 (.region k64_r3)))
theorem k64_l0_e : Ev P pr N k64_l0 e σ Q = Ev P pr N (.seq (.seq (.region k64_r2) (.cond (.tmp 17) .skip (.exit 0))) (.block 1 (.region k64_r3))) e σ Q := propext ⟨fun h => h, fun h => h⟩
def k64_r4 : List COp := [
  ⟨some 20, .move (.tmp 4), none, true⟩,
  ⟨some 21, .move (.tmp 0), none, true⟩,
  ⟨some 22, .call { callee := .builtin .len, args := #[.tmp 21], argTypes := #[27] }, none, true⟩,
  ⟨some 23, .binOp .geq 3 (.tmp 20) (.tmp 22) 3, none, true⟩,
  ⟨some 24, .move (.tmp 23), none, true⟩,
  ⟨some 25, .move (.tmp 4), some (24, false), true⟩,
  ⟨some 26, .binOp .geq 3 (.tmp 25) (.const (.int .i64 9)) 3, some (24, false), true⟩,
  ⟨some 27, .pick (.tmp 24) (.const (.bool true)) (.tmp 26), none, true⟩,
  ⟨some 28, .move (.tmp 27), none, true⟩,
  ⟨some 29, .move (.tmp 4), some (28, false), true⟩,
  ⟨some 30, .binOp .gtr 3 (.tmp 29) (.const (.int .i64 0)) 3, some (28, false), true⟩,
  ⟨some 31, .move (.tmp 30), some (28, false), true⟩,
  ⟨some 32, .move (.tmp 0), some (31, true), true⟩,
  ⟨some 33, .move (.tmp 4), some (31, true), true⟩,
  ⟨some 34, .indexAddr 27 (.tmp 32) (.tmp 33), some (31, true), true⟩,
  ⟨some 35, .load 5 (.tmp 34), some (31, true), true⟩,
  ⟨some 36, .binOp .eql 5 (.tmp 35) (.const (.int .u8 0)) 5, some (31, true), true⟩,
  ⟨some 37, .pick (.tmp 31) (.tmp 36) (.const (.bool false)), some (28, false), true⟩,
  ⟨some 38, .pick (.tmp 28) (.const (.bool true)) (.tmp 37), none, true⟩]
theorem k64_r4_e : Eo P pr N k64_r4 e σ Q = Eo P pr N [
  ⟨some 20, .move (.tmp 4), none, true⟩,
  ⟨some 21, .move (.tmp 0), none, true⟩,
  ⟨some 22, .call { callee := .builtin .len, args := #[.tmp 21], argTypes := #[27] }, none, true⟩,
  ⟨some 23, .binOp .geq 3 (.tmp 20) (.tmp 22) 3, none, true⟩,
  ⟨some 24, .move (.tmp 23), none, true⟩,
  ⟨some 25, .move (.tmp 4), some (24, false), true⟩,
  ⟨some 26, .binOp .geq 3 (.tmp 25) (.const (.int .i64 9)) 3, some (24, false), true⟩,
  ⟨some 27, .pick (.tmp 24) (.const (.bool true)) (.tmp 26), none, true⟩,
  ⟨some 28, .move (.tmp 27), none, true⟩,
  ⟨some 29, .move (.tmp 4), some (28, false), true⟩,
  ⟨some 30, .binOp .gtr 3 (.tmp 29) (.const (.int .i64 0)) 3, some (28, false), true⟩,
  ⟨some 31, .move (.tmp 30), some (28, false), true⟩,
  ⟨some 32, .move (.tmp 0), some (31, true), true⟩,
  ⟨some 33, .move (.tmp 4), some (31, true), true⟩,
  ⟨some 34, .indexAddr 27 (.tmp 32) (.tmp 33), some (31, true), true⟩,
  ⟨some 35, .load 5 (.tmp 34), some (31, true), true⟩,
  ⟨some 36, .binOp .eql 5 (.tmp 35) (.const (.int .u8 0)) 5, some (31, true), true⟩,
  ⟨some 37, .pick (.tmp 31) (.tmp 36) (.const (.bool false)), some (28, false), true⟩,
  ⟨some 38, .pick (.tmp 28) (.const (.bool true)) (.tmp 37), none, true⟩] e σ Q := propext ⟨fun h => h, fun h => h⟩
def k64_r5 : List COp := [
  ⟨some 2, .assign (.const (.int .i64 0)), none, true⟩,
  ⟨some 3, .assign (.const (.int .i64 0)), none, true⟩]
theorem k64_r5_e : Eo P pr N k64_r5 e σ Q = Eo P pr N [
  ⟨some 2, .assign (.const (.int .i64 0)), none, true⟩,
  ⟨some 3, .assign (.const (.int .i64 0)), none, true⟩] e σ Q := propext ⟨fun h => h, fun h => h⟩
def k64_r6 : List COp := [
  ⟨some 5, .assign (.const (.int .i64 0)), none, true⟩]
theorem k64_r6_e : Eo P pr N k64_r6 e σ Q = Eo P pr N [
  ⟨some 5, .assign (.const (.int .i64 0)), none, true⟩] e σ Q := propext ⟨fun h => h, fun h => h⟩
def k64_r7 : List COp := [
  ⟨some 39, .move (.tmp 4), none, true⟩,
  ⟨some 6, .assign (.tmp 39), none, true⟩]
theorem k64_r7_e : Eo P pr N k64_r7 e σ Q = Eo P pr N [
  ⟨some 39, .move (.tmp 4), none, true⟩,
  ⟨some 6, .assign (.tmp 39), none, true⟩] e σ Q := propext ⟨fun h => h, fun h => h⟩
def k64_r8 : List COp := [
  ⟨some 40, .move (.tmp 6), none, true⟩,
  ⟨some 41, .binOp .geq 3 (.tmp 40) (.const (.int .i64 0)) 3, none, true⟩]
theorem k64_r8_e : Eo P pr N k64_r8 e σ Q = Eo P pr N [
  ⟨some 40, .move (.tmp 6), none, true⟩,
  ⟨some 41, .binOp .geq 3 (.tmp 40) (.const (.int .i64 0)) 3, none, true⟩] e σ Q := propext ⟨fun h => h, fun h => h⟩
def k64_r10 : List COp := [
  ⟨some 44, .move (.tmp 5), none, true⟩,
  ⟨some 45, .binOp .mul 3 (.tmp 44) (.const (.int .i64 128)) 3, none, true⟩,
  ⟨some 46, .move (.tmp 0), none, true⟩,
  ⟨some 47, .move (.tmp 6), none, true⟩,
  ⟨some 48, .indexAddr 27 (.tmp 46) (.tmp 47), none, true⟩,
  ⟨some 49, .load 5 (.tmp 48), none, true⟩,
  ⟨some 50, .convert 5 3 (.tmp 49), none, true⟩,
  ⟨some 51, .binOp .rem 3 (.tmp 50) (.const (.int .i64 128)) 3, none, true⟩,
  ⟨some 52, .binOp .add 3 (.tmp 45) (.tmp 51) 3, none, true⟩,
  ⟨some 5, .assign (.tmp 52), none, true⟩]
theorem k64_r10_e : Eo P pr N k64_r10 e σ Q = Eo P pr N [
  ⟨some 44, .move (.tmp 5), none, true⟩,
  ⟨some 45, .binOp .mul 3 (.tmp 44) (.const (.int .i64 128)) 3, none, true⟩,
  ⟨some 46, .move (.tmp 0), none, true⟩,
  ⟨some 47, .move (.tmp 6), none, true⟩,
  ⟨some 48, .indexAddr 27 (.tmp 46) (.tmp 47), none, true⟩,
  ⟨some 49, .load 5 (.tmp 48), none, true⟩,
  ⟨some 50, .convert 5 3 (.tmp 49), none, true⟩,
  ⟨some 51, .binOp .rem 3 (.tmp 50) (.const (.int .i64 128)) 3, none, true⟩,
  ⟨some 52, .binOp .add 3 (.tmp 45) (.tmp 51) 3, none, true⟩,
  ⟨some 5, .assign (.tmp 52), none, true⟩] e σ Q := propext ⟨fun h => h, fun h => h⟩
def k64_r9 : List COp := [
  ⟨some 42, .move (.tmp 6), none, true⟩,
  ⟨some 43, .binOp .sub 3 (.tmp 42) (.const (.int .i64 1)) 3, none, true⟩,
  ⟨some 6, .assign (.tmp 43), none, true⟩]
theorem k64_r9_e : Eo P pr N k64_r9 e σ Q = Eo P pr N [
  ⟨some 42, .move (.tmp 6), none, true⟩,
  ⟨some 43, .binOp .sub 3 (.tmp 42) (.const (.int .i64 1)) 3, none, true⟩,
  ⟨some 6, .assign (.tmp 43), none, true⟩] e σ Q := propext ⟨fun h => h, fun h => h⟩
def k64_l1 : CC := (.seq (.seq (.region k64_r8) (.cond (.tmp 41) .skip (.exit 2))) (.seq (.block 3 (.region k64_r10)) (.region k64_r9)))
theorem k64_l1_e : Ev P pr N k64_l1 e σ Q = Ev P pr N (.seq (.seq (.region k64_r8) (.cond (.tmp 41) .skip (.exit 2))) (.seq (.block 3 (.region k64_r10)) (.region k64_r9))) e σ Q := propext ⟨fun h => h, fun h => h⟩
def k64_r11 : List COp := [
  ⟨some 53, .move (.tmp 5), none, true⟩,
  ⟨some 54, .move (.tmp 4), none, true⟩,
  ⟨some 55, .binOp .add 3 (.tmp 54) (.const (.int .i64 1)) 3, none, true⟩,
  ⟨some 2, .assign (.tmp 53), none, true⟩,
  ⟨some 3, .assign (.tmp 55), none, true⟩]
theorem k64_r11_e : Eo P pr N k64_r11 e σ Q = Eo P pr N [
  ⟨some 53, .move (.tmp 5), none, true⟩,
  ⟨some 54, .move (.tmp 4), none, true⟩,
  ⟨some 55, .binOp .add 3 (.tmp 54) (.const (.int .i64 1)) 3, none, true⟩,
  ⟨some 2, .assign (.tmp 53), none, true⟩,
  ⟨some 3, .assign (.tmp 55), none, true⟩] e σ Q := propext ⟨fun h => h, fun h => h⟩
def k64 : CC := (.seq (.region k64_r0) (.seq (.region k64_r1) (.seq (.block 0 (.loop k64_l0)) (.seq (.seq (.region k64_r4) (.cond (.tmp 38) (.seq (.region k64_r5) .ret) .skip)) (.seq (.region k64_r6) (.seq (.seq (.region k64_r7) (.block 2 (.loop k64_l1))) (.seq (.region k64_r11) .ret)))))))
theorem k64_e : Ev P pr N k64 e σ Q = Ev P pr N (.seq (.region k64_r0) (.seq (.region k64_r1) (.seq (.block 0 (.loop k64_l0)) (.seq (.seq (.region k64_r4) (.cond (.tmp 38) (.seq (.region k64_r5) .ret) .skip)) (.seq (.region k64_r6) (.seq (.seq (.region k64_r7) (.block 2 (.loop k64_l1))) (.seq (.region k64_r11) .ret))))))) e σ Q := propext ⟨fun h => h, fun h => h⟩
/-- quern/quernref01.Take -/
theorem k64_is : FnIs Try.prog noPrim 64 56 [ResultVar.tmp 2, ResultVar.tmp 3] k64 := FnIs.of_fn Try.func64 (by kernel_rfl)
def k65_r0 : List COp := [
  ⟨some 4, .assign (.const (.slice .none 0 0)), none, true⟩]
theorem k65_r0_e : Eo P pr N k65_r0 e σ Q = Eo P pr N [
  ⟨some 4, .assign (.const (.slice .none 0 0)), none, true⟩] e σ Q := propext ⟨fun h => h, fun h => h⟩
def k65_r1 : List COp := [
  ⟨some 5, .move (.tmp 0), none, true⟩,
  ⟨some 6, .move (.tmp 1), none, true⟩,
  ⟨some 7, .call { callee := .builtin .len, args := #[.tmp 6], argTypes := #[9] }, none, true⟩,
  ⟨some 8, .buildSlice 81 1 #[(0, .tmp 7)], none, true⟩,
  ⟨some 9, .call { callee := .value (.func 40), args := #[.tmp 5, .tmp 8], argTypes := #[27, 81] }, none, true⟩,
  ⟨some 10, .move (.tmp 1), none, true⟩,
  ⟨some 11, .call { callee := .builtin .append, args := #[.tmp 9, .tmp 10], argTypes := #[27, 9] }, none, true⟩,
  ⟨some 4, .assign (.tmp 11), none, true⟩]
theorem k65_r1_e : Eo P pr N k65_r1 e σ Q = Eo P pr N [
  ⟨some 5, .move (.tmp 0), none, true⟩,
  ⟨some 6, .move (.tmp 1), none, true⟩,
  ⟨some 7, .call { callee := .builtin .len, args := #[.tmp 6], argTypes := #[9] }, none, true⟩,
  ⟨some 8, .buildSlice 81 1 #[(0, .tmp 7)], none, true⟩,
  ⟨some 9, .call { callee := .value (.func 40), args := #[.tmp 5, .tmp 8], argTypes := #[27, 81] }, none, true⟩,
  ⟨some 10, .move (.tmp 1), none, true⟩,
  ⟨some 11, .call { callee := .builtin .append, args := #[.tmp 9, .tmp 10], argTypes := #[27, 9] }, none, true⟩,
  ⟨some 4, .assign (.tmp 11), none, true⟩] e σ Q := propext ⟨fun h => h, fun h => h⟩
def k65 : CC := (.seq (.region k65_r0) (.seq (.region k65_r1) .ret))
theorem k65_e : Ev P pr N k65 e σ Q = Ev P pr N (.seq (.region k65_r0) (.seq (.region k65_r1) .ret)) e σ Q := propext ⟨fun h => h, fun h => h⟩
/-- quern/book.run -/
theorem k65_is : FnIs Try.prog noPrim 65 12 [ResultVar.tmp 4] k65 := FnIs.of_fn Try.func65 (by kernel_rfl)
def k66_r0 : List COp := [
  ⟨some 4, .assign (.const (.slice .none 0 0)), none, true⟩]
theorem k66_r0_e : Eo P pr N k66_r0 e σ Q = Eo P pr N [
  ⟨some 4, .assign (.const (.slice .none 0 0)), none, true⟩] e σ Q := propext ⟨fun h => h, fun h => h⟩
def k66_r1 : List COp := [
  ⟨some 5, .move (.tmp 0), none, true⟩,
  ⟨some 6, .move (.tmp 1), none, true⟩,
  ⟨some 7, .call { callee := .builtin .len, args := #[.tmp 6], argTypes := #[9] }, none, true⟩,
  ⟨some 8, .call { callee := .value (.func 49), args := #[.tmp 5, .tmp 7], argTypes := #[27, 3] }, none, true⟩,
  ⟨some 9, .move (.tmp 1), none, true⟩,
  ⟨some 10, .call { callee := .builtin .append, args := #[.tmp 8, .tmp 9], argTypes := #[27, 9] }, none, true⟩,
  ⟨some 4, .assign (.tmp 10), none, true⟩]
theorem k66_r1_e : Eo P pr N k66_r1 e σ Q = Eo P pr N [
  ⟨some 5, .move (.tmp 0), none, true⟩,
  ⟨some 6, .move (.tmp 1), none, true⟩,
  ⟨some 7, .call { callee := .builtin .len, args := #[.tmp 6], argTypes := #[9] }, none, true⟩,
  ⟨some 8, .call { callee := .value (.func 49), args := #[.tmp 5, .tmp 7], argTypes := #[27, 3] }, none, true⟩,
  ⟨some 9, .move (.tmp 1), none, true⟩,
  ⟨some 10, .call { callee := .builtin .append, args := #[.tmp 8, .tmp 9], argTypes := #[27, 9] }, none, true⟩,
  ⟨some 4, .assign (.tmp 10), none, true⟩] e σ Q := propext ⟨fun h => h, fun h => h⟩
def k66 : CC := (.seq (.region k66_r0) (.seq (.region k66_r1) .ret))
theorem k66_e : Ev P pr N k66 e σ Q = Ev P pr N (.seq (.region k66_r0) (.seq (.region k66_r1) .ret)) e σ Q := propext ⟨fun h => h, fun h => h⟩
/-- quern/quernref18.run -/
theorem k66_is : FnIs Try.prog noPrim 66 11 [ResultVar.tmp 4] k66 := FnIs.of_fn Try.func66 (by kernel_rfl)
def k67_r0 : List COp := [
  ⟨some 4, .assign (.const (.int .i64 0)), none, true⟩]
theorem k67_r0_e : Eo P pr N k67_r0 e σ Q = Eo P pr N [
  ⟨some 4, .assign (.const (.int .i64 0)), none, true⟩] e σ Q := propext ⟨fun h => h, fun h => h⟩
def k67_r1 : List COp := [
  ⟨some 6, .move (.tmp 0), none, true⟩,
  ⟨some 7, .call { callee := .builtin .len, args := #[.tmp 6], argTypes := #[22] }, none, true⟩,
  ⟨some 8, .move (.const (.int .i64 0)), none, true⟩]
theorem k67_r1_e : Eo P pr N k67_r1 e σ Q = Eo P pr N [
  ⟨some 6, .move (.tmp 0), none, true⟩,
  ⟨some 7, .call { callee := .builtin .len, args := #[.tmp 6], argTypes := #[22] }, none, true⟩,
  ⟨some 8, .move (.const (.int .i64 0)), none, true⟩] e σ Q := propext ⟨fun h => h, fun h => h⟩
def k67_r2 : List COp := [
  ⟨some 9, .binOp .lss 3 (.tmp 8) (.tmp 7) 3, none, true⟩]
theorem k67_r2_e : Eo P pr N k67_r2 e σ Q = Eo P pr N [
  ⟨some 9, .binOp .lss 3 (.tmp 8) (.tmp 7) 3, none, true⟩] e σ Q := propext ⟨fun h => h, fun h => h⟩
def k67_r3 : List COp := [
  ⟨some 10, .move (.tmp 8), none, true⟩,
  ⟨some 5, .assign (.tmp 10), none, true⟩]
theorem k67_r3_e : Eo P pr N k67_r3 e σ Q = Eo P pr N [
  ⟨some 10, .move (.tmp 8), none, true⟩,
  ⟨some 5, .assign (.tmp 10), none, true⟩] e σ Q := propext ⟨fun h => h, fun h => h⟩
def k67_r4 : List COp := [
  ⟨some 11, .move (.tmp 1), none, true⟩,
  ⟨some 12, .move (.tmp 0), none, true⟩,
  ⟨some 13, .move (.tmp 5), none, true⟩,
  ⟨some 14, .indexAddr 22 (.tmp 12) (.tmp 13), none, true⟩,
  ⟨some 15, .load 66 (.tmp 14), none, true⟩,
  ⟨some 16, .call { callee := .value (.tmp 11), args := #[.tmp 15], argTypes := #[66] }, none, true⟩]
theorem k67_r4_e : Eo P pr N k67_r4 e σ Q = Eo P pr N [
  ⟨some 11, .move (.tmp 1), none, true⟩,
  ⟨some 12, .move (.tmp 0), none, true⟩,
  ⟨some 13, .move (.tmp 5), none, true⟩,
  ⟨some 14, .indexAddr 22 (.tmp 12) (.tmp 13), none, true⟩,
  ⟨some 15, .load 66 (.tmp 14), none, true⟩,
  ⟨some 16, .call { callee := .value (.tmp 11), args := #[.tmp 15], argTypes := #[66] }, none, true⟩] e σ Q := propext ⟨fun h => h, fun h => h⟩
def k67_r5 : List COp := [
  ⟨some 17, .move (.tmp 5), none, true⟩,
  ⟨some 4, .assign (.tmp 17), none, true⟩]
theorem k67_r5_e : Eo P pr N k67_r5 e σ Q = Eo P pr N [
  ⟨some 17, .move (.tmp 5), none, true⟩,
  ⟨some 4, .assign (.tmp 17), none, true⟩] e σ Q := propext ⟨fun h => h, fun h => h⟩
def k67_r6 : List COp := [
  ⟨some 18, .binOp .add 3 (.tmp 8) (.const (.int .i64 1)) 3, none, true⟩,
  ⟨some 8, .move (.tmp 18), none, true⟩]
theorem k67_r6_e : Eo P pr N k67_r6 e σ Q = Eo P pr N [
  ⟨some 18, .binOp .add 3 (.tmp 8) (.const (.int .i64 1)) 3, none, true⟩,
  ⟨some 8, .move (.tmp 18), none, true⟩] e σ Q := propext ⟨fun h => h, fun h => h⟩
def k67_l0 : CC := (.seq (.region k67_r2) (.seq (.cond (.tmp 9) .skip (.exit 0)) (.seq (.block 1 (.seq (.region k67_r3) (.seq (.region k67_r4) (.cond (.tmp 16) (.seq (.region k67_r5) .ret) .skip)))) (.region k67_r6))))
theorem k67_l0_e : Ev P pr N k67_l0 e σ Q = Ev P pr N (.seq (.region k67_r2) (.seq (.cond (.tmp 9) .skip (.exit 0)) (.seq (.block 1 (.seq (.region k67_r3) (.seq (.region k67_r4) (.cond (.tmp 16) (.seq (.region k67_r5) .ret) .skip)))) (.region k67_r6)))) e σ Q := propext ⟨fun h => h, fun h => h⟩
def k67_r7 : List COp := [
  ⟨some 4, .assign (.const (.int .i64 (-1))), none, true⟩]
theorem k67_r7_e : Eo P pr N k67_r7 e σ Q = Eo P pr N [
  ⟨some 4, .assign (.const (.int .i64 (-1))), none, true⟩] e σ Q := propext ⟨fun h => h, fun h => h⟩
def k67 : CC := (.seq (.region k67_r0) (.seq (.seq (.region k67_r1) (.block 0 (.loop k67_l0))) (.seq (.region k67_r7) .ret)))
theorem k67_e : Ev P pr N k67 e σ Q = Ev P pr N (.seq (.region k67_r0) (.seq (.seq (.region k67_r1) (.block 0 (.loop k67_l0))) (.seq (.region k67_r7) .ret))) e σ Q := propext ⟨fun h => h, fun h => h⟩
/-- slices.IndexFunc[[]quern/api.Item,quern/api.Item] -/
theorem k67_is : FnIs Try.prog noPrim 67 19 [ResultVar.tmp 4] k67 := FnIs.of_fn Try.func67 (by kernel_rfl)
end Go.Proofs.Ytcogghmmlndmgaa.Q
