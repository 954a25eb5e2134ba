/- The code of some functions without its ornaments. Written by gen.py. -/
import Derived.Test.YtlimedbanpfkgaaQp
import Derived.Test.YtlimedbanpfkgaaChecked
import Derived.Test.YtlimedbanpfkgaaPr
set_option maxRecDepth 100000
namespace Go.Proofs.Ytlimedbanpfkgaa.Q
open Go Go.RowKit Go.Proofs
variable {P : Program} {pr : Prim} {N : Nat} {e : Nat → V} {σ : St} {Q : VX → (Nat → V) → St → Prop}
def k3_r0 : List COp := [
  ⟨some 3, .box 24 (.tmp 1), none, true⟩,
  ⟨some 4, .assign (.const (.bool false)), none, true⟩]
theorem k3_r0_e : type_of% (@Eo_of P pr N e σ Q _ _ k3_r0.eq_1) := Eo_of k3_r0.eq_1
def k3_r1 : List COp := [
  ⟨some 12, .call { callee := .value (.func 11), args := #[], argTypes := #[] }, none, true⟩,
  ⟨some 13, .unOp .not 4 (.tmp 12), none, true⟩]
theorem k3_r1_e : type_of% (@Eo_of P pr N e σ Q _ _ k3_r1.eq_1) := Eo_of k3_r1.eq_1
def k3_r2 : List COp := [
  ⟨some 4, .assign (.const (.bool false)), none, true⟩]
theorem k3_r2_e : type_of% (@Eo_of P pr N e σ Q _ _ k3_r2.eq_1) := Eo_of k3_r2.eq_1
def k3_r3 : List COp := [
  ⟨some 14, .load 24 (.tmp 3), none, true⟩,
  ⟨some 15, .call { callee := .value (.func 12), args := #[.tmp 14], argTypes := #[24] }, none, true⟩]
theorem k3_r3_e : type_of% (@Eo_of P pr N e σ Q _ _ k3_r3.eq_1) := Eo_of k3_r3.eq_1
def k3_r4 : List COp := [
  ⟨some 4, .assign (.const (.bool true)), none, true⟩]
theorem k3_r4_e : type_of% (@Eo_of P pr N e σ Q _ _ k3_r4.eq_1) := Eo_of k3_r4.eq_1
def k3_r5 : CC := (.wregion [
  (true, ⟨some 16, .fieldAddr 24 (.tmp 3) 1, none, false⟩),
  (false, ⟨some 17, .load 3 (.tmp 16), none, false⟩),
  (false, ⟨some 18, .binOp .eql 3 (.tmp 17) (.const (.int .i64 1)) 3, none, false⟩),
  (false, ⟨some 19, .call { callee := .value (.func 14), args := #[.tmp 18], argTypes := #[4] }, none, false⟩),
  (true, ⟨some 20, .fieldAddr 24 (.tmp 3) 1, none, true⟩),
  (true, ⟨some 21, .load 3 (.tmp 20), none, true⟩),
  (false, ⟨some 22, .binOp .eql 3 (.tmp 21) (.const (.int .i64 1)) 3, none, true⟩),
  (false, ⟨some 23, .call { callee := .value (.func 15), args := #[.tmp 22], argTypes := #[4] }, none, true⟩),
  (false, ⟨some 24, .build 24 #[(0, .const (.int .i64 2)), (1, .tmp 23)], none, true⟩),
  (false, ⟨some 25, .call { callee := .value (.func 13), args := #[.tmp 19, .tmp 24], argTypes := #[24, 24] }, none, true⟩),
  (true, ⟨some 26, .unOp .not 4 (.tmp 25), none, true⟩),
  (false, ⟨some 27, .move (.tmp 26), none, true⟩),
  (false, ⟨some 28, .fieldAddr 24 (.tmp 3) 1, some (27, false), false⟩),
  (false, ⟨some 29, .load 3 (.tmp 28), some (27, false), false⟩),
  (false, ⟨some 30, .call { callee := .value (.func 16), args := #[.tmp 29], argTypes := #[3] }, some (27, false), false⟩),
  (true, ⟨some 31, .fieldAddr 24 (.tmp 3) 1, some (27, false), true⟩),
  (true, ⟨some 32, .load 3 (.tmp 31), some (27, false), true⟩),
  (false, ⟨some 33, .build 24 #[(0, .const (.int .i64 1)), (1, .tmp 32)], some (27, false), true⟩),
  (false, ⟨some 34, .call { callee := .value (.func 13), args := #[.tmp 30, .tmp 33], argTypes := #[24, 24] }, some (27, false), true⟩),
  (true, ⟨some 35, .unOp .not 4 (.tmp 34), some (27, false), true⟩),
  (false, ⟨some 36, .pick (.tmp 27) (.const (.bool true)) (.tmp 35), none, true⟩),
  (false, ⟨some 37, .move (.tmp 36), none, true⟩),
  (false, ⟨some 38, .fieldAddr 24 (.tmp 3) 2, some (37, false), false⟩),
  (false, ⟨some 39, .load 9 (.tmp 38), some (37, false), false⟩),
  (false, ⟨some 40, .call { callee := .value (.func 17), args := #[.tmp 39], argTypes := #[9] }, some (37, false), false⟩),
  (true, ⟨some 41, .fieldAddr 24 (.tmp 3) 2, some (37, false), true⟩),
  (true, ⟨some 42, .load 9 (.tmp 41), some (37, false), true⟩),
  (false, ⟨some 43, .build 24 #[(0, .const (.int .i64 3)), (2, .tmp 42)], some (37, false), true⟩),
  (false, ⟨some 44, .call { callee := .value (.func 13), args := #[.tmp 40, .tmp 43], argTypes := #[24, 24] }, some (37, false), true⟩),
  (false, ⟨some 45, .unOp .not 4 (.tmp 44), some (37, false), true⟩),
  (false, ⟨some 46, .pick (.tmp 37) (.const (.bool true)) (.tmp 45), none, true⟩)] false [(5, ⟨some 21, .load 3 (.tmp 20), none, true⟩, [0, 4]), (16, ⟨some 32, .load 3 (.tmp 31), some (27, false), true⟩, [10, 15]), (26, ⟨some 42, .load 9 (.tmp 41), some (37, false), true⟩, [19, 25])])
theorem k3_r5_e : type_of% (@Ev_of P pr N e σ Q _ _ k3_r5.eq_1) := Ev_of k3_r5.eq_1
def k3_r6 : List COp := [
  ⟨some 4, .assign (.const (.bool false)), none, true⟩]
theorem k3_r6_e : type_of% (@Eo_of P pr N e σ Q _ _ k3_r6.eq_1) := Eo_of k3_r6.eq_1
def k3_r7 : List COp := [
  ⟨some 48, .move (.tmp 0), none, true⟩,
  ⟨some 49, .call { callee := .value (.func 18), args := #[.tmp 48], argTypes := #[9] }, none, true⟩,
  ⟨some 47, .move (.tmp 49), none, true⟩,
  ⟨some 50, .extract (.tmp 47) 0, none, true⟩,
  ⟨some 51, .extract (.tmp 47) 1, none, true⟩,
  ⟨some 5, .assign (.tmp 50), none, true⟩,
  ⟨some 6, .assign (.tmp 51), none, true⟩]
theorem k3_r7_e : type_of% (@Eo_of P pr N e σ Q _ _ k3_r7.eq_1) := Eo_of k3_r7.eq_1
def k3_r8 : List COp := [
  ⟨some 53, .move (.tmp 0), none, true⟩,
  ⟨some 54, .call { callee := .value (.func 19), args := #[.tmp 53], argTypes := #[9] }, none, true⟩,
  ⟨some 52, .move (.tmp 54), none, true⟩,
  ⟨some 55, .extract (.tmp 52) 0, none, true⟩,
  ⟨some 56, .extract (.tmp 52) 1, none, true⟩,
  ⟨some 57, .extract (.tmp 52) 2, none, true⟩,
  ⟨some 7, .assign (.tmp 55), none, true⟩,
  ⟨some 8, .assign (.tmp 56), none, true⟩,
  ⟨some 9, .assign (.tmp 57), none, true⟩]
theorem k3_r8_e : type_of% (@Eo_of P pr N e σ Q _ _ k3_r8.eq_1) := Eo_of k3_r8.eq_1
def k3_r9 : List COp := [
  ⟨some 59, .move (.tmp 0), none, true⟩,
  ⟨some 60, .call { callee := .value (.func 20), args := #[.tmp 59], argTypes := #[9] }, none, true⟩,
  ⟨some 58, .move (.tmp 60), none, true⟩,
  ⟨some 61, .extract (.tmp 58) 0, none, true⟩,
  ⟨some 62, .extract (.tmp 58) 1, none, true⟩,
  ⟨some 10, .assign (.tmp 61), none, true⟩,
  ⟨some 11, .assign (.tmp 62), none, true⟩]
theorem k3_r9_e : type_of% (@Eo_of P pr N e σ Q _ _ k3_r9.eq_1) := Eo_of k3_r9.eq_1
def k3_r10 : CC := (.wregion [
  (false, ⟨some 63, .move (.tmp 5), none, false⟩),
  (false, ⟨some 64, .move (.tmp 0), none, true⟩),
  (false, ⟨some 65, .call { callee := .value (.func 21), args := #[.tmp 64], argTypes := #[9] }, none, true⟩),
  (false, ⟨some 66, .binOp .eql 9 (.tmp 63) (.tmp 65) 9, none, true⟩),
  (false, ⟨some 67, .move (.tmp 66), none, true⟩),
  (false, ⟨some 68, .move (.tmp 6), some (67, true), false⟩),
  (false, ⟨some 69, .move (.tmp 5), some (67, true), true⟩),
  (false, ⟨some 70, .binOp .neq 9 (.tmp 69) (.const (.string { data := #[] })) 9, some (67, true), true⟩),
  (false, ⟨some 71, .binOp .eql 4 (.tmp 68) (.tmp 70) 4, some (67, true), true⟩),
  (false, ⟨some 72, .pick (.tmp 67) (.tmp 71) (.const (.bool false)), none, true⟩),
  (false, ⟨some 73, .move (.tmp 72), none, true⟩),
  (false, ⟨some 74, .move (.tmp 7), some (73, true), false⟩),
  (false, ⟨some 75, .move (.tmp 10), some (73, true), true⟩),
  (false, ⟨some 76, .binOp .eql 9 (.tmp 74) (.tmp 75) 9, some (73, true), true⟩),
  (false, ⟨some 77, .pick (.tmp 73) (.tmp 76) (.const (.bool false)), none, true⟩),
  (false, ⟨some 78, .move (.tmp 77), none, true⟩),
  (false, ⟨some 79, .move (.tmp 8), some (78, true), false⟩),
  (false, ⟨some 80, .move (.tmp 11), some (78, true), true⟩),
  (false, ⟨some 81, .binOp .eql 9 (.tmp 79) (.tmp 80) 9, some (78, true), true⟩),
  (false, ⟨some 82, .pick (.tmp 78) (.tmp 81) (.const (.bool false)), none, true⟩),
  (false, ⟨some 83, .move (.tmp 82), none, true⟩),
  (false, ⟨some 84, .move (.tmp 9), some (83, true), false⟩),
  (false, ⟨some 85, .move (.tmp 7), some (83, true), true⟩),
  (false, ⟨some 86, .binOp .neq 9 (.tmp 85) (.const (.string { data := #[] })) 9, some (83, true), true⟩),
  (false, ⟨some 87, .binOp .eql 4 (.tmp 84) (.tmp 86) 4, some (83, true), true⟩),
  (false, ⟨some 88, .pick (.tmp 83) (.tmp 87) (.const (.bool false)), none, true⟩),
  (false, ⟨some 89, .move (.tmp 88), none, true⟩),
  (false, ⟨some 90, .move (.tmp 0), some (89, true), false⟩),
  (false, ⟨some 91, .call { callee := .value (.func 22), args := #[.tmp 90], argTypes := #[9] }, some (89, true), false⟩),
  (false, ⟨some 92, .move (.tmp 0), some (89, true), true⟩),
  (false, ⟨some 93, .call { callee := .value (.func 23), args := #[.tmp 92], argTypes := #[9] }, some (89, true), true⟩),
  (false, ⟨some 94, .call { callee := .value (.func 13), args := #[.tmp 91, .tmp 93], argTypes := #[24, 24] }, some (89, true), true⟩),
  (true, ⟨some 95, .pick (.tmp 89) (.tmp 94) (.const (.bool false)), none, true⟩),
  (false, ⟨some 96, .move (.tmp 95), none, true⟩),
  (false, ⟨some 97, .load 24 (.tmp 3), some (96, true), false⟩),
  (false, ⟨some 98, .move (.tmp 0), some (96, true), false⟩),
  (false, ⟨some 99, .call { callee := .value (.func 24), args := #[.tmp 97, .tmp 98], argTypes := #[24, 9] }, some (96, true), false⟩),
  (true, ⟨some 100, .load 24 (.tmp 3), some (96, true), false⟩),
  (false, ⟨some 101, .move (.tmp 0), some (96, true), true⟩),
  (false, ⟨some 102, .call { callee := .value (.func 25), args := #[.tmp 100, .tmp 101], argTypes := #[24, 9] }, some (96, true), true⟩),
  (false, ⟨some 103, .binOp .eql 4 (.tmp 99) (.tmp 102) 4, some (96, true), true⟩),
  (false, ⟨some 104, .pick (.tmp 96) (.tmp 103) (.const (.bool false)), none, true⟩),
  (false, ⟨some 4, .assign (.tmp 104), none, true⟩)] false [(37, ⟨some 100, .load 24 (.tmp 3), some (96, true), false⟩, [32, 37])])
theorem k3_r10_e : type_of% (@Ev_of P pr N e σ Q _ _ k3_r10.eq_1) := Ev_of k3_r10.eq_1
def k3 : CC := (.seq (.region k3_r0) (.seq (.seq (.region k3_r1) (.cond (.tmp 13) (.seq (.region k3_r2) .ret) .skip)) (.seq (.seq (.region k3_r3) (.cond (.tmp 15) (.seq (.region k3_r4) .ret) .skip)) (.seq (.seq k3_r5 (.cond (.tmp 46) (.seq (.region k3_r6) .ret) .skip)) (.seq (.region k3_r7) (.seq (.region k3_r8) (.seq (.region k3_r9) (.seq k3_r10 .ret))))))))
theorem k3_e : type_of% (@Ev_of P pr N e σ Q _ _ k3.eq_1) := Ev_of k3.eq_1
theorem k3_a : type_of% @k3_e ∧ type_of% @k3_r0_e ∧ type_of% @k3_r1_e ∧ type_of% @k3_r2_e ∧ type_of% @k3_r3_e ∧ type_of% @k3_r4_e ∧ type_of% @k3_r5_e ∧ type_of% @k3_r6_e ∧ type_of% @k3_r7_e ∧ type_of% @k3_r8_e ∧ type_of% @k3_r9_e ∧ type_of% @k3_r10_e := ⟨@k3_e, @k3_r0_e, @k3_r1_e, @k3_r2_e, @k3_r3_e, @k3_r4_e, @k3_r5_e, @k3_r6_e, @k3_r7_e, @k3_r8_e, @k3_r9_e, @k3_r10_e⟩
/-- quern/quernlaw09.ValueTypes -/
theorem k3_is : FnIs Try.prog prims 3 105 [ResultVar.tmp 4] k3 := FnIs.of_fn Try.func3 (by kernel_rfl) rfl
def k4_r0 : List COp := [
  ⟨some 3, .box 24 (.tmp 0), none, true⟩,
  ⟨some 4, .box 24 (.tmp 1), none, true⟩,
  ⟨some 5, .box 24 (.tmp 2), none, true⟩,
  ⟨some 6, .assign (.const (.bool false)), none, true⟩]
theorem k4_r0_e : type_of% (@Eo_of P pr N e σ Q _ _ k4_r0.eq_1) := Eo_of k4_r0.eq_1
def k4_r1 : List COp := [
  ⟨some 8, .call { callee := .value (.func 11), args := #[], argTypes := #[] }, none, true⟩,
  ⟨some 9, .unOp .not 4 (.tmp 8), none, true⟩]
theorem k4_r1_e : type_of% (@Eo_of P pr N e σ Q _ _ k4_r1.eq_1) := Eo_of k4_r1.eq_1
def k4_r2 : List COp := [
  ⟨some 6, .assign (.const (.bool false)), none, true⟩]
theorem k4_r2_e : type_of% (@Eo_of P pr N e σ Q _ _ k4_r2.eq_1) := Eo_of k4_r2.eq_1
def k4_r3 : List COp := [
  ⟨some 10, .load 24 (.tmp 3), none, true⟩,
  ⟨some 11, .call { callee := .value (.func 12), args := #[.tmp 10], argTypes := #[24] }, none, true⟩,
  ⟨some 12, .move (.tmp 11), none, true⟩,
  ⟨some 13, .load 24 (.tmp 4), some (12, false), true⟩,
  ⟨some 14, .call { callee := .value (.func 12), args := #[.tmp 13], argTypes := #[24] }, some (12, false), true⟩,
  ⟨some 15, .pick (.tmp 12) (.const (.bool true)) (.tmp 14), none, true⟩,
  ⟨some 16, .move (.tmp 15), none, true⟩,
  ⟨some 17, .load 24 (.tmp 5), some (16, false), true⟩,
  ⟨some 18, .call { callee := .value (.func 12), args := #[.tmp 17], argTypes := #[24] }, some (16, false), true⟩,
  ⟨some 19, .pick (.tmp 16) (.const (.bool true)) (.tmp 18), none, true⟩]
theorem k4_r3_e : type_of% (@Eo_of P pr N e σ Q _ _ k4_r3.eq_1) := Eo_of k4_r3.eq_1
def k4_r4 : List COp := [
  ⟨some 6, .assign (.const (.bool true)), none, true⟩]
theorem k4_r4_e : type_of% (@Eo_of P pr N e σ Q _ _ k4_r4.eq_1) := Eo_of k4_r4.eq_1
def k4_r5 : List COp := [
  ⟨some 20, .load 24 (.tmp 3), none, true⟩,
  ⟨some 21, .load 24 (.tmp 4), none, true⟩,
  ⟨some 22, .call { callee := .value (.func 26), args := #[.tmp 20, .tmp 21], argTypes := #[24, 24] }, none, true⟩,
  ⟨some 7, .assign (.tmp 22), none, true⟩]
theorem k4_r5_e : type_of% (@Eo_of P pr N e σ Q _ _ k4_r5.eq_1) := Eo_of k4_r5.eq_1
def k4_r6 : CC := (.wregion [
  (false, ⟨some 23, .move (.tmp 7), none, false⟩),
  (false, ⟨some 24, .load 24 (.tmp 3), none, false⟩),
  (false, ⟨some 25, .load 24 (.tmp 4), none, true⟩),
  (false, ⟨some 26, .call { callee := .value (.func 27), args := #[.tmp 24, .tmp 25], argTypes := #[24, 24] }, none, true⟩),
  (false, ⟨some 27, .binOp .neq 3 (.tmp 23) (.tmp 26) 3, none, true⟩),
  (false, ⟨some 28, .move (.tmp 27), none, true⟩),
  (false, ⟨some 29, .move (.tmp 7), some (28, false), false⟩),
  (false, ⟨some 30, .load 24 (.tmp 4), some (28, false), false⟩),
  (false, ⟨some 31, .load 24 (.tmp 3), some (28, false), true⟩),
  (false, ⟨some 32, .call { callee := .value (.func 26), args := #[.tmp 30, .tmp 31], argTypes := #[24, 24] }, some (28, false), true⟩),
  (false, ⟨some 33, .unOp .neg 3 (.tmp 32), some (28, false), true⟩),
  (false, ⟨some 34, .binOp .neq 3 (.tmp 29) (.tmp 33) 3, some (28, false), true⟩),
  (false, ⟨some 35, .pick (.tmp 28) (.const (.bool true)) (.tmp 34), none, true⟩),
  (false, ⟨some 36, .move (.tmp 35), none, true⟩),
  (false, ⟨some 37, .load 24 (.tmp 3), some (36, false), false⟩),
  (false, ⟨some 38, .load 24 (.tmp 3), some (36, false), true⟩),
  (false, ⟨some 39, .call { callee := .value (.func 26), args := #[.tmp 37, .tmp 38], argTypes := #[24, 24] }, some (36, false), true⟩),
  (true, ⟨some 40, .binOp .neq 3 (.tmp 39) (.const (.int .i64 0)) 3, some (36, false), true⟩),
  (false, ⟨some 41, .pick (.tmp 36) (.const (.bool true)) (.tmp 40), none, true⟩),
  (false, ⟨some 42, .move (.tmp 41), none, true⟩),
  (false, ⟨some 43, .load 24 (.tmp 3), some (42, false), false⟩),
  (false, ⟨some 44, .call { callee := .value (.func 28), args := #[.tmp 43], argTypes := #[24] }, some (42, false), false⟩),
  (true, ⟨some 45, .load 24 (.tmp 3), some (42, false), true⟩),
  (false, ⟨some 46, .call { callee := .value (.func 29), args := #[.tmp 45], argTypes := #[24] }, some (42, false), true⟩),
  (false, ⟨some 47, .binOp .neq 3 (.tmp 44) (.tmp 46) 3, some (42, false), true⟩),
  (false, ⟨some 48, .pick (.tmp 42) (.const (.bool true)) (.tmp 47), none, true⟩)] false [(22, ⟨some 45, .load 24 (.tmp 3), some (42, false), true⟩, [17, 22])])
theorem k4_r6_e : type_of% (@Ev_of P pr N e σ Q _ _ k4_r6.eq_1) := Ev_of k4_r6.eq_1
def k4_r7 : List COp := [
  ⟨some 6, .assign (.const (.bool false)), none, true⟩]
theorem k4_r7_e : type_of% (@Eo_of P pr N e σ Q _ _ k4_r7.eq_1) := Eo_of k4_r7.eq_1
def k4_r8 : List COp := [
  ⟨some 49, .move (.tmp 7), none, true⟩,
  ⟨some 50, .binOp .leq 3 (.tmp 49) (.const (.int .i64 0)) 3, none, true⟩,
  ⟨some 51, .move (.tmp 50), none, true⟩,
  ⟨some 52, .load 24 (.tmp 4), some (51, true), true⟩,
  ⟨some 53, .load 24 (.tmp 5), some (51, true), true⟩,
  ⟨some 54, .call { callee := .value (.func 26), args := #[.tmp 52, .tmp 53], argTypes := #[24, 24] }, some (51, true), true⟩,
  ⟨some 55, .binOp .leq 3 (.tmp 54) (.const (.int .i64 0)) 3, some (51, true), true⟩,
  ⟨some 56, .pick (.tmp 51) (.tmp 55) (.const (.bool false)), none, true⟩,
  ⟨some 57, .unOp .not 4 (.tmp 56), none, true⟩,
  ⟨some 58, .move (.tmp 57), none, true⟩,
  ⟨some 59, .load 24 (.tmp 3), some (58, false), true⟩,
  ⟨some 60, .load 24 (.tmp 5), some (58, false), true⟩,
  ⟨some 61, .call { callee := .value (.func 26), args := #[.tmp 59, .tmp 60], argTypes := #[24, 24] }, some (58, false), true⟩,
  ⟨some 62, .binOp .leq 3 (.tmp 61) (.const (.int .i64 0)) 3, some (58, false), true⟩,
  ⟨some 63, .pick (.tmp 58) (.const (.bool true)) (.tmp 62), none, true⟩,
  ⟨some 6, .assign (.tmp 63), none, true⟩]
theorem k4_r8_e : type_of% (@Eo_of P pr N e σ Q _ _ k4_r8.eq_1) := Eo_of k4_r8.eq_1
def k4 : CC := (.seq (.region k4_r0) (.seq (.seq (.region k4_r1) (.cond (.tmp 9) (.seq (.region k4_r2) .ret) .skip)) (.seq (.seq (.region k4_r3) (.cond (.tmp 19) (.seq (.region k4_r4) .ret) .skip)) (.seq (.region k4_r5) (.seq (.seq k4_r6 (.cond (.tmp 48) (.seq (.region k4_r7) .ret) .skip)) (.seq (.region k4_r8) .ret))))))
theorem k4_e : type_of% (@Ev_of P pr N e σ Q _ _ k4.eq_1) := Ev_of k4.eq_1
theorem k4_a : type_of% @k4_e ∧ type_of% @k4_r0_e ∧ type_of% @k4_r1_e ∧ type_of% @k4_r2_e ∧ type_of% @k4_r3_e ∧ type_of% @k4_r4_e ∧ type_of% @k4_r5_e ∧ type_of% @k4_r6_e ∧ type_of% @k4_r7_e ∧ type_of% @k4_r8_e := ⟨@k4_e, @k4_r0_e, @k4_r1_e, @k4_r2_e, @k4_r3_e, @k4_r4_e, @k4_r5_e, @k4_r6_e, @k4_r7_e, @k4_r8_e⟩
/-- quern/quernlaw09.ValueOrders -/
theorem k4_is : FnIs Try.prog prims 4 64 [ResultVar.tmp 6] k4 := FnIs.of_fn Try.func4 (by kernel_rfl) rfl
def k5_r0 : List COp := [
  ⟨some 3, .box 24 (.tmp 0), none, true⟩,
  ⟨some 6, .assign (.const (.bool false)), none, true⟩]
theorem k5_r0_e : type_of% (@Eo_of P pr N e σ Q _ _ k5_r0.eq_1) := Eo_of k5_r0.eq_1
def k5_r1 : List COp := [
  ⟨some 15, .call { callee := .value (.func 11), args := #[], argTypes := #[] }, none, true⟩,
  ⟨some 16, .unOp .not 4 (.tmp 15), none, true⟩]
theorem k5_r1_e : type_of% (@Eo_of P pr N e σ Q _ _ k5_r1.eq_1) := Eo_of k5_r1.eq_1
def k5_r2 : List COp := [
  ⟨some 6, .assign (.const (.bool false)), none, true⟩]
theorem k5_r2_e : type_of% (@Eo_of P pr N e σ Q _ _ k5_r2.eq_1) := Eo_of k5_r2.eq_1
def k5_r3 : List COp := [
  ⟨some 17, .load 24 (.tmp 3), none, true⟩,
  ⟨some 18, .call { callee := .value (.func 12), args := #[.tmp 17], argTypes := #[24] }, none, true⟩,
  ⟨some 19, .move (.tmp 18), none, true⟩,
  ⟨some 20, .move (.tmp 2), some (19, false), true⟩,
  ⟨some 21, .call { callee := .builtin .len, args := #[.tmp 20], argTypes := #[44] }, some (19, false), true⟩,
  ⟨some 22, .binOp .gtr 3 (.tmp 21) (.const (.int .i64 65536)) 3, some (19, false), true⟩,
  ⟨some 23, .pick (.tmp 19) (.const (.bool true)) (.tmp 22), none, true⟩]
theorem k5_r3_e : type_of% (@Eo_of P pr N e σ Q _ _ k5_r3.eq_1) := Eo_of k5_r3.eq_1
def k5_r4 : List COp := [
  ⟨some 6, .assign (.const (.bool true)), none, true⟩]
theorem k5_r4_e : type_of% (@Eo_of P pr N e σ Q _ _ k5_r4.eq_1) := Eo_of k5_r4.eq_1
def k5_r5 : List COp := [
  ⟨some 25, .load 24 (.tmp 3), none, true⟩,
  ⟨some 26, .move (.tmp 1), none, true⟩,
  ⟨some 27, .call { callee := .value (.func 30), args := #[.tmp 25, .tmp 26], argTypes := #[24, 9] }, none, true⟩,
  ⟨some 24, .move (.tmp 27), none, true⟩,
  ⟨some 28, .extract (.tmp 24) 0, none, true⟩,
  ⟨some 29, .extract (.tmp 24) 1, none, true⟩,
  ⟨some 7, .assign (.tmp 28), none, true⟩,
  ⟨some 8, .assign (.tmp 29), none, true⟩]
theorem k5_r5_e : type_of% (@Eo_of P pr N e σ Q _ _ k5_r5.eq_1) := Eo_of k5_r5.eq_1
def k5_r6 : List COp := [
  ⟨some 31, .load 24 (.tmp 3), none, true⟩,
  ⟨some 32, .move (.tmp 1), none, true⟩,
  ⟨some 33, .call { callee := .value (.func 31), args := #[.tmp 31, .tmp 32], argTypes := #[24, 9] }, none, true⟩,
  ⟨some 30, .move (.tmp 33), none, true⟩,
  ⟨some 34, .extract (.tmp 30) 0, none, true⟩,
  ⟨some 35, .extract (.tmp 30) 1, none, true⟩,
  ⟨some 9, .assign (.tmp 34), none, true⟩,
  ⟨some 10, .assign (.tmp 35), none, true⟩]
theorem k5_r6_e : type_of% (@Eo_of P pr N e σ Q _ _ k5_r6.eq_1) := Eo_of k5_r6.eq_1
def k5_r7 : List COp := [
  ⟨some 37, .move (.tmp 2), none, true⟩,
  ⟨some 38, .move (.tmp 1), none, true⟩,
  ⟨some 39, .call { callee := .value (.func 32), args := #[.tmp 37, .tmp 38], argTypes := #[44, 9] }, none, true⟩,
  ⟨some 36, .move (.tmp 39), none, true⟩,
  ⟨some 40, .extract (.tmp 36) 0, none, true⟩,
  ⟨some 41, .extract (.tmp 36) 1, none, true⟩,
  ⟨some 11, .alloc 24, none, true⟩,
  ⟨none, .store 24 (.tmp 11) (.tmp 40), none, true⟩,
  ⟨some 12, .assign (.tmp 41), none, true⟩]
theorem k5_r7_e : type_of% (@Eo_of P pr N e σ Q _ _ k5_r7.eq_1) := Eo_of k5_r7.eq_1
def k5_r8 : List COp := [
  ⟨some 43, .move (.tmp 2), none, true⟩,
  ⟨some 44, .move (.tmp 1), none, true⟩,
  ⟨some 45, .call { callee := .value (.func 33), args := #[.tmp 43, .tmp 44], argTypes := #[44, 9] }, none, true⟩,
  ⟨some 42, .move (.tmp 45), none, true⟩,
  ⟨some 46, .extract (.tmp 42) 0, none, true⟩,
  ⟨some 47, .extract (.tmp 42) 1, none, true⟩,
  ⟨some 13, .alloc 24, none, true⟩,
  ⟨none, .store 24 (.tmp 13) (.tmp 46), none, true⟩,
  ⟨some 14, .assign (.tmp 47), none, true⟩]
theorem k5_r8_e : type_of% (@Eo_of P pr N e σ Q _ _ k5_r8.eq_1) := Eo_of k5_r8.eq_1
def k5_r9 : List COp := [
  ⟨some 48, .move (.tmp 7), none, true⟩,
  ⟨some 49, .convert 44 9 (.tmp 48), none, true⟩,
  ⟨some 50, .move (.tmp 9), none, true⟩,
  ⟨some 51, .convert 44 9 (.tmp 50), none, true⟩,
  ⟨some 52, .binOp .eql 9 (.tmp 49) (.tmp 51) 9, none, true⟩,
  ⟨some 53, .move (.tmp 52), none, true⟩,
  ⟨some 54, .move (.tmp 8), some (53, true), true⟩,
  ⟨some 55, .move (.tmp 10), some (53, true), true⟩,
  ⟨some 56, .binOp .eql 45 (.tmp 54) (.tmp 55) 45, some (53, true), true⟩,
  ⟨some 57, .pick (.tmp 53) (.tmp 56) (.const (.bool false)), none, true⟩,
  ⟨some 58, .move (.tmp 57), none, true⟩,
  ⟨some 59, .load 24 (.tmp 11), some (58, true), true⟩,
  ⟨some 60, .load 24 (.tmp 13), some (58, true), true⟩,
  ⟨some 61, .call { callee := .value (.func 13), args := #[.tmp 59, .tmp 60], argTypes := #[24, 24] }, some (58, true), true⟩,
  ⟨some 62, .pick (.tmp 58) (.tmp 61) (.const (.bool false)), none, true⟩,
  ⟨some 63, .move (.tmp 62), none, true⟩,
  ⟨some 64, .move (.tmp 12), some (63, true), true⟩,
  ⟨some 65, .move (.tmp 14), some (63, true), true⟩,
  ⟨some 66, .binOp .eql 45 (.tmp 64) (.tmp 65) 45, some (63, true), true⟩,
  ⟨some 67, .pick (.tmp 63) (.tmp 66) (.const (.bool false)), none, true⟩,
  ⟨some 6, .assign (.tmp 67), none, true⟩]
theorem k5_r9_e : type_of% (@Eo_of P pr N e σ Q _ _ k5_r9.eq_1) := Eo_of k5_r9.eq_1
def k5 : CC := (.seq (.region k5_r0) (.seq (.seq (.region k5_r1) (.cond (.tmp 16) (.seq (.region k5_r2) .ret) .skip)) (.seq (.seq (.region k5_r3) (.cond (.tmp 23) (.seq (.region k5_r4) .ret) .skip)) (.seq (.region k5_r5) (.seq (.region k5_r6) (.seq (.region k5_r7) (.seq (.region k5_r8) (.seq (.region k5_r9) .ret))))))))
theorem k5_e : type_of% (@Ev_of P pr N e σ Q _ _ k5.eq_1) := Ev_of k5.eq_1
theorem k5_a : type_of% @k5_e ∧ type_of% @k5_r0_e ∧ type_of% @k5_r1_e ∧ type_of% @k5_r2_e ∧ type_of% @k5_r3_e ∧ type_of% @k5_r4_e ∧ type_of% @k5_r5_e ∧ type_of% @k5_r6_e ∧ type_of% @k5_r7_e ∧ type_of% @k5_r8_e ∧ type_of% @k5_r9_e := ⟨@k5_e, @k5_r0_e, @k5_r1_e, @k5_r2_e, @k5_r3_e, @k5_r4_e, @k5_r5_e, @k5_r6_e, @k5_r7_e, @k5_r8_e, @k5_r9_e⟩
/-- quern/quernlaw09.ValueBytes -/
theorem k5_is : FnIs Try.prog prims 5 68 [ResultVar.tmp 6] k5 := FnIs.of_fn Try.func5 (by kernel_rfl) rfl
def k6_r0 : List COp := [
  ⟨some 3, .box 24 (.tmp 0), none, true⟩,
  ⟨some 6, .assign (.const (.bool false)), none, true⟩]
theorem k6_r0_e : type_of% (@Eo_of P pr N e σ Q _ _ k6_r0.eq_1) := Eo_of k6_r0.eq_1
def k6_r1 : List COp := [
  ⟨some 15, .call { callee := .value (.func 11), args := #[], argTypes := #[] }, none, true⟩,
  ⟨some 16, .unOp .not 4 (.tmp 15), none, true⟩]
theorem k6_r1_e : type_of% (@Eo_of P pr N e σ Q _ _ k6_r1.eq_1) := Eo_of k6_r1.eq_1
def k6_r2 : List COp := [
  ⟨some 6, .assign (.const (.bool false)), none, true⟩]
theorem k6_r2_e : type_of% (@Eo_of P pr N e σ Q _ _ k6_r2.eq_1) := Eo_of k6_r2.eq_1
def k6_r3 : List COp := [
  ⟨some 17, .load 24 (.tmp 3), none, true⟩,
  ⟨some 18, .call { callee := .value (.func 12), args := #[.tmp 17], argTypes := #[24] }, none, true⟩,
  ⟨some 19, .move (.tmp 18), none, true⟩,
  ⟨some 20, .move (.tmp 2), some (19, false), true⟩,
  ⟨some 21, .call { callee := .builtin .len, args := #[.tmp 20], argTypes := #[44] }, some (19, false), true⟩,
  ⟨some 22, .binOp .gtr 3 (.tmp 21) (.const (.int .i64 16384)) 3, some (19, false), true⟩,
  ⟨some 23, .pick (.tmp 19) (.const (.bool true)) (.tmp 22), none, true⟩]
theorem k6_r3_e : type_of% (@Eo_of P pr N e σ Q _ _ k6_r3.eq_1) := Eo_of k6_r3.eq_1
def k6_r4 : List COp := [
  ⟨some 6, .assign (.const (.bool true)), none, true⟩]
theorem k6_r4_e : type_of% (@Eo_of P pr N e σ Q _ _ k6_r4.eq_1) := Eo_of k6_r4.eq_1
def k6_r5 : List COp := [
  ⟨some 25, .load 24 (.tmp 3), none, true⟩,
  ⟨some 26, .move (.tmp 1), none, true⟩,
  ⟨some 27, .call { callee := .value (.func 30), args := #[.tmp 25, .tmp 26], argTypes := #[24, 9] }, none, true⟩,
  ⟨some 24, .move (.tmp 27), none, true⟩,
  ⟨some 28, .extract (.tmp 24) 0, none, true⟩,
  ⟨some 29, .extract (.tmp 24) 1, none, true⟩,
  ⟨some 7, .assign (.tmp 28), none, true⟩,
  ⟨some 8, .assign (.tmp 29), none, true⟩]
theorem k6_r5_e : type_of% (@Eo_of P pr N e σ Q _ _ k6_r5.eq_1) := Eo_of k6_r5.eq_1
def k6_r6 : List COp := [
  ⟨some 30, .move (.tmp 8), none, true⟩,
  ⟨some 31, .binOp .eql 45 (.tmp 30) (.const (.int .i64 0)) 45, none, true⟩]
theorem k6_r6_e : type_of% (@Eo_of P pr N e σ Q _ _ k6_r6.eq_1) := Eo_of k6_r6.eq_1
def k6_r7 : List COp := [
  ⟨some 33, .move (.tmp 7), none, true⟩,
  ⟨some 34, .move (.tmp 1), none, true⟩,
  ⟨some 35, .call { callee := .value (.func 32), args := #[.tmp 33, .tmp 34], argTypes := #[44, 9] }, none, true⟩,
  ⟨some 32, .move (.tmp 35), none, true⟩,
  ⟨some 36, .extract (.tmp 32) 0, none, true⟩,
  ⟨some 37, .extract (.tmp 32) 1, none, true⟩,
  ⟨some 9, .alloc 24, none, true⟩,
  ⟨none, .store 24 (.tmp 9) (.tmp 36), none, true⟩,
  ⟨some 10, .assign (.tmp 37), none, true⟩]
theorem k6_r7_e : type_of% (@Eo_of P pr N e σ Q _ _ k6_r7.eq_1) := Eo_of k6_r7.eq_1
def k6_r8 : List COp := [
  ⟨some 38, .move (.tmp 10), none, true⟩,
  ⟨some 39, .binOp .neq 45 (.tmp 38) (.const (.int .i64 0)) 45, none, true⟩,
  ⟨some 40, .move (.tmp 39), none, true⟩,
  ⟨some 41, .load 24 (.tmp 9), some (40, false), true⟩,
  ⟨some 42, .load 24 (.tmp 3), some (40, false), true⟩,
  ⟨some 43, .call { callee := .value (.func 26), args := #[.tmp 41, .tmp 42], argTypes := #[24, 24] }, some (40, false), true⟩,
  ⟨some 44, .binOp .neq 3 (.tmp 43) (.const (.int .i64 0)) 3, some (40, false), true⟩,
  ⟨some 45, .pick (.tmp 40) (.const (.bool true)) (.tmp 44), none, true⟩]
theorem k6_r8_e : type_of% (@Eo_of P pr N e σ Q _ _ k6_r8.eq_1) := Eo_of k6_r8.eq_1
def k6_r9 : List COp := [
  ⟨some 6, .assign (.const (.bool false)), none, true⟩]
theorem k6_r9_e : type_of% (@Eo_of P pr N e σ Q _ _ k6_r9.eq_1) := Eo_of k6_r9.eq_1
def k6_r10 : List COp := [
  ⟨some 11, .assign (.const (.int .i64 0)), none, true⟩]
theorem k6_r10_e : type_of% (@Eo_of P pr N e σ Q _ _ k6_r10.eq_1) := Eo_of k6_r10.eq_1
def k6_r11 : List COp := [
  ⟨some 46, .move (.tmp 11), none, true⟩,
  ⟨some 47, .move (.tmp 7), none, true⟩,
  ⟨some 48, .call { callee := .builtin .len, args := #[.tmp 47], argTypes := #[44] }, none, true⟩,
  ⟨some 49, .binOp .lss 3 (.tmp 46) (.tmp 48) 3, none, true⟩,
  ⟨some 50, .move (.tmp 49), none, true⟩,
  ⟨some 51, .move (.tmp 11), some (50, true), true⟩,
  ⟨some 52, .binOp .lss 3 (.tmp 51) (.const (.int .i64 40)) 3, some (50, true), true⟩,
  ⟨some 53, .pick (.tmp 50) (.tmp 52) (.const (.bool false)), none, true⟩]
theorem k6_r11_e : type_of% (@Eo_of P pr N e σ Q _ _ k6_r11.eq_1) := Eo_of k6_r11.eq_1
def k6_r13 : List COp := [
  ⟨some 57, .move (.tmp 7), none, true⟩,
  ⟨some 58, .move (.tmp 11), none, true⟩,
  ⟨some 59, .slice 44 (.tmp 57) .none (some (.tmp 58)) .none, none, true⟩,
  ⟨some 60, .move (.tmp 1), none, true⟩,
  ⟨some 61, .call { callee := .value (.func 32), args := #[.tmp 59, .tmp 60], argTypes := #[44, 9] }, none, true⟩,
  ⟨some 56, .move (.tmp 61), none, true⟩,
  ⟨some 62, .extract (.tmp 56) 0, none, true⟩,
  ⟨some 63, .extract (.tmp 56) 1, none, true⟩,
  ⟨some 10, .assign (.tmp 63), none, true⟩]
theorem k6_r13_e : type_of% (@Eo_of P pr N e σ Q _ _ k6_r13.eq_1) := Eo_of k6_r13.eq_1
def k6_r14 : List COp := [
  ⟨some 64, .move (.tmp 10), none, true⟩,
  ⟨some 65, .binOp .neq 45 (.tmp 64) (.const (.int .i64 11)) 45, none, true⟩]
theorem k6_r14_e : type_of% (@Eo_of P pr N e σ Q _ _ k6_r14.eq_1) := Eo_of k6_r14.eq_1
def k6_r15 : List COp := [
  ⟨some 6, .assign (.const (.bool false)), none, true⟩]
theorem k6_r15_e : type_of% (@Eo_of P pr N e σ Q _ _ k6_r15.eq_1) := Eo_of k6_r15.eq_1
def k6_r12 : List COp := [
  ⟨some 54, .move (.tmp 11), none, true⟩,
  ⟨some 55, .binOp .add 3 (.tmp 54) (.const (.int .i64 1)) 3, none, true⟩,
  ⟨some 11, .assign (.tmp 55), none, true⟩]
theorem k6_r12_e : type_of% (@Eo_of P pr N e σ Q _ _ k6_r12.eq_1) := Eo_of k6_r12.eq_1
def k6_l0 : CC := (.seq (.seq (.region k6_r11) (.cond (.tmp 53) .skip (.exit 0))) (.seq (.block 1 (.seq (.region k6_r13) (.seq (.region k6_r14) (.cond (.tmp 65) (.seq (.region k6_r15) .ret) .skip)))) (.region k6_r12)))
theorem k6_l0_e : type_of% (@Ev_of P pr N e σ Q _ _ k6_l0.eq_1) := Ev_of k6_l0.eq_1
def k6_r16 : List COp := [
  ⟨some 67, .buildSlice 44 0 #[], none, true⟩,
  ⟨some 68, .move (.tmp 7), none, true⟩,
  ⟨some 69, .call { callee := .builtin .append, args := #[.tmp 67, .tmp 68], argTypes := #[44, 44] }, none, true⟩,
  ⟨some 70, .buildSlice 44 1 #[(0, .const (.int .u8 0))], none, true⟩,
  ⟨some 71, .call { callee := .builtin .append, args := #[.tmp 69, .tmp 70], argTypes := #[44, 44] }, none, true⟩,
  ⟨some 72, .move (.tmp 1), none, true⟩,
  ⟨some 73, .call { callee := .value (.func 32), args := #[.tmp 71, .tmp 72], argTypes := #[44, 9] }, none, true⟩,
  ⟨some 66, .move (.tmp 73), none, true⟩,
  ⟨some 74, .extract (.tmp 66) 0, none, true⟩,
  ⟨some 75, .extract (.tmp 66) 1, none, true⟩,
  ⟨some 10, .assign (.tmp 75), none, true⟩]
theorem k6_r16_e : type_of% (@Eo_of P pr N e σ Q _ _ k6_r16.eq_1) := Eo_of k6_r16.eq_1
def k6_r17 : List COp := [
  ⟨some 76, .move (.tmp 10), none, true⟩,
  ⟨some 77, .binOp .neq 45 (.tmp 76) (.const (.int .i64 11)) 45, none, true⟩]
theorem k6_r17_e : type_of% (@Eo_of P pr N e σ Q _ _ k6_r17.eq_1) := Eo_of k6_r17.eq_1
def k6_r18 : List COp := [
  ⟨some 6, .assign (.const (.bool false)), none, true⟩]
theorem k6_r18_e : type_of% (@Eo_of P pr N e σ Q _ _ k6_r18.eq_1) := Eo_of k6_r18.eq_1
def k6_r19 : List COp := [
  ⟨some 78, .move (.tmp 8), none, true⟩,
  ⟨some 79, .binOp .neq 45 (.tmp 78) (.const (.int .i64 1)) 45, none, true⟩,
  ⟨some 80, .move (.tmp 79), none, true⟩,
  ⟨some 81, .load 24 (.tmp 3), some (80, false), true⟩,
  ⟨some 82, .move (.tmp 1), some (80, false), true⟩,
  ⟨some 83, .call { callee := .value (.func 24), args := #[.tmp 81, .tmp 82], argTypes := #[24, 9] }, some (80, false), true⟩,
  ⟨some 84, .pick (.tmp 80) (.const (.bool true)) (.tmp 83), none, true⟩]
theorem k6_r19_e : type_of% (@Eo_of P pr N e σ Q _ _ k6_r19.eq_1) := Eo_of k6_r19.eq_1
def k6_r20 : List COp := [
  ⟨some 6, .assign (.const (.bool false)), none, true⟩]
theorem k6_r20_e : type_of% (@Eo_of P pr N e σ Q _ _ k6_r20.eq_1) := Eo_of k6_r20.eq_1
def k6_r21 : List COp := [
  ⟨some 86, .move (.tmp 2), none, true⟩,
  ⟨some 87, .move (.tmp 1), none, true⟩,
  ⟨some 88, .call { callee := .value (.func 32), args := #[.tmp 86, .tmp 87], argTypes := #[44, 9] }, none, true⟩,
  ⟨some 85, .move (.tmp 88), none, true⟩,
  ⟨some 89, .extract (.tmp 85) 0, none, true⟩,
  ⟨some 90, .extract (.tmp 85) 1, none, true⟩,
  ⟨some 12, .alloc 24, none, true⟩,
  ⟨none, .store 24 (.tmp 12) (.tmp 89), none, true⟩,
  ⟨some 8, .assign (.tmp 90), none, true⟩]
theorem k6_r21_e : type_of% (@Eo_of P pr N e σ Q _ _ k6_r21.eq_1) := Eo_of k6_r21.eq_1
def k6_r22 : List COp := [
  ⟨some 91, .move (.tmp 8), none, true⟩,
  ⟨some 92, .binOp .neq 45 (.tmp 91) (.const (.int .i64 0)) 45, none, true⟩]
theorem k6_r22_e : type_of% (@Eo_of P pr N e σ Q _ _ k6_r22.eq_1) := Eo_of k6_r22.eq_1
def k6_r23 : List COp := [
  ⟨some 93, .fieldAddr 24 (.tmp 12) 0, none, true⟩,
  ⟨some 94, .load 3 (.tmp 93), none, true⟩,
  ⟨some 95, .binOp .eql 3 (.tmp 94) (.const (.int .i64 0)) 3, none, true⟩,
  ⟨some 96, .move (.tmp 95), none, true⟩,
  ⟨some 97, .move (.tmp 8), some (96, true), true⟩,
  ⟨some 98, .binOp .eql 45 (.tmp 97) (.const (.int .i64 1)) 45, some (96, true), true⟩,
  ⟨some 99, .move (.tmp 1), some (96, true), true⟩,
  ⟨some 100, .call { callee := .value (.func 34), args := #[.tmp 99], argTypes := #[9] }, some (96, true), true⟩,
  ⟨some 101, .unOp .not 4 (.tmp 100), some (96, true), true⟩,
  ⟨some 102, .binOp .eql 4 (.tmp 98) (.tmp 101) 4, some (96, true), true⟩,
  ⟨some 103, .pick (.tmp 96) (.tmp 102) (.const (.bool false)), none, true⟩,
  ⟨some 6, .assign (.tmp 103), none, true⟩]
theorem k6_r23_e : type_of% (@Eo_of P pr N e σ Q _ _ k6_r23.eq_1) := Eo_of k6_r23.eq_1
def k6_r24 : List COp := [
  ⟨some 105, .load 24 (.tmp 12), none, true⟩,
  ⟨some 106, .move (.tmp 1), none, true⟩,
  ⟨some 107, .call { callee := .value (.func 30), args := #[.tmp 105, .tmp 106], argTypes := #[24, 9] }, none, true⟩,
  ⟨some 104, .move (.tmp 107), none, true⟩,
  ⟨some 108, .extract (.tmp 104) 0, none, true⟩,
  ⟨some 109, .extract (.tmp 104) 1, none, true⟩,
  ⟨some 13, .assign (.tmp 108), none, true⟩,
  ⟨some 14, .assign (.tmp 109), none, true⟩]
theorem k6_r24_e : type_of% (@Eo_of P pr N e σ Q _ _ k6_r24.eq_1) := Eo_of k6_r24.eq_1
def k6_r25 : List COp := [
  ⟨some 110, .move (.tmp 14), none, true⟩,
  ⟨some 111, .binOp .eql 45 (.tmp 110) (.const (.int .i64 0)) 45, none, true⟩,
  ⟨some 112, .move (.tmp 111), none, true⟩,
  ⟨some 113, .move (.tmp 13), some (112, true), true⟩,
  ⟨some 114, .convert 44 9 (.tmp 113), some (112, true), true⟩,
  ⟨some 115, .move (.tmp 2), some (112, true), true⟩,
  ⟨some 116, .convert 44 9 (.tmp 115), some (112, true), true⟩,
  ⟨some 117, .binOp .eql 9 (.tmp 114) (.tmp 116) 9, some (112, true), true⟩,
  ⟨some 118, .pick (.tmp 112) (.tmp 117) (.const (.bool false)), none, true⟩,
  ⟨some 6, .assign (.tmp 118), none, true⟩]
theorem k6_r25_e : type_of% (@Eo_of P pr N e σ Q _ _ k6_r25.eq_1) := Eo_of k6_r25.eq_1
def k6 : CC := (.seq (.region k6_r0) (.seq (.seq (.region k6_r1) (.cond (.tmp 16) (.seq (.region k6_r2) .ret) .skip)) (.seq (.seq (.region k6_r3) (.cond (.tmp 23) (.seq (.region k6_r4) .ret) .skip)) (.seq (.region k6_r5) (.seq (.seq (.region k6_r6) (.cond (.tmp 31) (.seq (.region k6_r7) (.seq (.seq (.region k6_r8) (.cond (.tmp 45) (.seq (.region k6_r9) .ret) .skip)) (.seq (.seq (.region k6_r10) (.block 0 (.loop k6_l0))) (.seq (.region k6_r16) (.seq (.region k6_r17) (.cond (.tmp 77) (.seq (.region k6_r18) .ret) .skip)))))) (.seq (.region k6_r19) (.cond (.tmp 84) (.seq (.region k6_r20) .ret) .skip)))) (.seq (.region k6_r21) (.seq (.seq (.region k6_r22) (.cond (.tmp 92) (.seq (.region k6_r23) .ret) .skip)) (.seq (.region k6_r24) (.seq (.region k6_r25) .ret)))))))))
theorem k6_e : type_of% (@Ev_of P pr N e σ Q _ _ k6.eq_1) := Ev_of k6.eq_1
theorem k6_a : type_of% @k6_e ∧ type_of% @k6_r0_e ∧ type_of% @k6_r1_e ∧ type_of% @k6_r2_e ∧ type_of% @k6_r3_e ∧ type_of% @k6_r4_e ∧ type_of% @k6_r5_e ∧ type_of% @k6_r6_e ∧ type_of% @k6_r7_e ∧ type_of% @k6_r8_e ∧ type_of% @k6_r9_e ∧ type_of% @k6_r10_e ∧ type_of% @k6_r11_e ∧ type_of% @k6_r13_e ∧ type_of% @k6_r14_e ∧ type_of% @k6_r15_e ∧ type_of% @k6_r12_e ∧ type_of% @k6_l0_e ∧ type_of% @k6_r16_e ∧ type_of% @k6_r17_e ∧ type_of% @k6_r18_e ∧ type_of% @k6_r19_e ∧ type_of% @k6_r20_e ∧ type_of% @k6_r21_e ∧ type_of% @k6_r22_e ∧ type_of% @k6_r23_e ∧ type_of% @k6_r24_e ∧ type_of% @k6_r25_e := ⟨@k6_e, @k6_r0_e, @k6_r1_e, @k6_r2_e, @k6_r3_e, @k6_r4_e, @k6_r5_e, @k6_r6_e, @k6_r7_e, @k6_r8_e, @k6_r9_e, @k6_r10_e, @k6_r11_e, @k6_r13_e, @k6_r14_e, @k6_r15_e, @k6_r12_e, @k6_l0_e, @k6_r16_e, @k6_r17_e, @k6_r18_e, @k6_r19_e, @k6_r20_e, @k6_r21_e, @k6_r22_e, @k6_r23_e, @k6_r24_e, @k6_r25_e⟩
/-- quern/quernlaw09.ValueBack -/
theorem k6_is : FnIs Try.prog prims 6 119 [ResultVar.tmp 6] k6 := FnIs.of_fn Try.func6 (by kernel_rfl) rfl
def k7_r0 : List COp := [
  ⟨some 3, .box 24 (.tmp 1), none, true⟩,
  ⟨some 4, .assign (.const (.bool false)), none, true⟩]
theorem k7_r0_e : type_of% (@Eo_of P pr N e σ Q _ _ k7_r0.eq_1) := Eo_of k7_r0.eq_1
def k7_r1 : List COp := [
  ⟨some 10, .call { callee := .value (.func 11), args := #[], argTypes := #[] }, none, true⟩,
  ⟨some 11, .unOp .not 4 (.tmp 10), none, true⟩]
theorem k7_r1_e : type_of% (@Eo_of P pr N e σ Q _ _ k7_r1.eq_1) := Eo_of k7_r1.eq_1
def k7_r2 : List COp := [
  ⟨some 4, .assign (.const (.bool false)), none, true⟩]
theorem k7_r2_e : type_of% (@Eo_of P pr N e σ Q _ _ k7_r2.eq_1) := Eo_of k7_r2.eq_1
def k7_r3 : List COp := [
  ⟨some 12, .load 24 (.tmp 3), none, true⟩,
  ⟨some 13, .call { callee := .value (.func 12), args := #[.tmp 12], argTypes := #[24] }, none, true⟩]
theorem k7_r3_e : type_of% (@Eo_of P pr N e σ Q _ _ k7_r3.eq_1) := Eo_of k7_r3.eq_1
def k7_r4 : List COp := [
  ⟨some 4, .assign (.const (.bool true)), none, true⟩]
theorem k7_r4_e : type_of% (@Eo_of P pr N e σ Q _ _ k7_r4.eq_1) := Eo_of k7_r4.eq_1
def k7_r5 : List COp := [
  ⟨some 14, .move (.tmp 0), none, true⟩,
  ⟨some 15, .call { callee := .value (.func 22), args := #[.tmp 14], argTypes := #[9] }, none, true⟩,
  ⟨some 5, .alloc 24, none, true⟩,
  ⟨none, .store 24 (.tmp 5) (.tmp 15), none, true⟩]
theorem k7_r5_e : type_of% (@Eo_of P pr N e σ Q _ _ k7_r5.eq_1) := Eo_of k7_r5.eq_1
def k7_r6 : List COp := [
  ⟨some 16, .move (.tmp 0), none, true⟩,
  ⟨some 17, .call { callee := .value (.func 34), args := #[.tmp 16], argTypes := #[9] }, none, true⟩,
  ⟨some 18, .unOp .not 4 (.tmp 17), none, true⟩]
theorem k7_r6_e : type_of% (@Eo_of P pr N e σ Q _ _ k7_r6.eq_1) := Eo_of k7_r6.eq_1
def k7_r7 : List COp := [
  ⟨some 19, .fieldAddr 24 (.tmp 5) 0, none, true⟩,
  ⟨some 20, .load 3 (.tmp 19), none, true⟩,
  ⟨some 21, .binOp .eql 3 (.tmp 20) (.const (.int .i64 0)) 3, none, true⟩,
  ⟨some 22, .move (.tmp 21), none, true⟩,
  ⟨some 23, .load 24 (.tmp 5), some (22, true), true⟩,
  ⟨some 24, .move (.tmp 0), some (22, true), true⟩,
  ⟨some 25, .call { callee := .value (.func 24), args := #[.tmp 23, .tmp 24], argTypes := #[24, 9] }, some (22, true), true⟩,
  ⟨some 26, .unOp .not 4 (.tmp 25), some (22, true), true⟩,
  ⟨some 27, .pick (.tmp 22) (.tmp 26) (.const (.bool false)), none, true⟩,
  ⟨some 28, .move (.tmp 27), none, true⟩,
  ⟨some 29, .load 24 (.tmp 3), some (28, true), true⟩,
  ⟨some 30, .move (.tmp 0), some (28, true), true⟩,
  ⟨some 31, .call { callee := .value (.func 24), args := #[.tmp 29, .tmp 30], argTypes := #[24, 9] }, some (28, true), true⟩,
  ⟨some 32, .unOp .not 4 (.tmp 31), some (28, true), true⟩,
  ⟨some 33, .pick (.tmp 28) (.tmp 32) (.const (.bool false)), none, true⟩,
  ⟨some 4, .assign (.tmp 33), none, true⟩]
theorem k7_r7_e : type_of% (@Eo_of P pr N e σ Q _ _ k7_r7.eq_1) := Eo_of k7_r7.eq_1
def k7_r8 : List COp := [
  ⟨some 35, .load 24 (.tmp 5), none, true⟩,
  ⟨some 36, .move (.tmp 0), none, true⟩,
  ⟨some 37, .call { callee := .value (.func 30), args := #[.tmp 35, .tmp 36], argTypes := #[24, 9] }, none, true⟩,
  ⟨some 34, .move (.tmp 37), none, true⟩,
  ⟨some 38, .extract (.tmp 34) 0, none, true⟩,
  ⟨some 39, .extract (.tmp 34) 1, none, true⟩,
  ⟨some 6, .assign (.tmp 38), none, true⟩,
  ⟨some 7, .assign (.tmp 39), none, true⟩]
theorem k7_r8_e : type_of% (@Eo_of P pr N e σ Q _ _ k7_r8.eq_1) := Eo_of k7_r8.eq_1
def k7_r9 : List COp := [
  ⟨some 41, .move (.tmp 6), none, true⟩,
  ⟨some 42, .move (.tmp 0), none, true⟩,
  ⟨some 43, .call { callee := .value (.func 32), args := #[.tmp 41, .tmp 42], argTypes := #[44, 9] }, none, true⟩,
  ⟨some 40, .move (.tmp 43), none, true⟩,
  ⟨some 44, .extract (.tmp 40) 0, none, true⟩,
  ⟨some 45, .extract (.tmp 40) 1, none, true⟩,
  ⟨some 8, .alloc 24, none, true⟩,
  ⟨none, .store 24 (.tmp 8) (.tmp 44), none, true⟩,
  ⟨some 9, .assign (.tmp 45), none, true⟩]
theorem k7_r9_e : type_of% (@Eo_of P pr N e σ Q _ _ k7_r9.eq_1) := Eo_of k7_r9.eq_1
def k7_r10 : List COp := [
  ⟨some 46, .load 24 (.tmp 5), none, true⟩,
  ⟨some 47, .move (.tmp 0), none, true⟩,
  ⟨some 48, .call { callee := .value (.func 24), args := #[.tmp 46, .tmp 47], argTypes := #[24, 9] }, none, true⟩,
  ⟨some 49, .unOp .not 4 (.tmp 48), none, true⟩,
  ⟨some 50, .move (.tmp 49), none, true⟩,
  ⟨some 51, .move (.tmp 7), some (50, false), true⟩,
  ⟨some 52, .binOp .neq 45 (.tmp 51) (.const (.int .i64 0)) 45, some (50, false), true⟩,
  ⟨some 53, .pick (.tmp 50) (.const (.bool true)) (.tmp 52), none, true⟩,
  ⟨some 54, .move (.tmp 53), none, true⟩,
  ⟨some 55, .move (.tmp 9), some (54, false), true⟩,
  ⟨some 56, .binOp .neq 45 (.tmp 55) (.const (.int .i64 0)) 45, some (54, false), true⟩,
  ⟨some 57, .pick (.tmp 54) (.const (.bool true)) (.tmp 56), none, true⟩,
  ⟨some 58, .move (.tmp 57), none, true⟩,
  ⟨some 59, .load 24 (.tmp 8), some (58, false), true⟩,
  ⟨some 60, .load 24 (.tmp 5), some (58, false), true⟩,
  ⟨some 61, .call { callee := .value (.func 26), args := #[.tmp 59, .tmp 60], argTypes := #[24, 24] }, some (58, false), true⟩,
  ⟨some 62, .binOp .neq 3 (.tmp 61) (.const (.int .i64 0)) 3, some (58, false), true⟩,
  ⟨some 63, .pick (.tmp 58) (.const (.bool true)) (.tmp 62), none, true⟩,
  ⟨some 64, .move (.tmp 63), none, true⟩,
  ⟨some 65, .load 24 (.tmp 5), some (64, false), true⟩,
  ⟨some 66, .call { callee := .value (.func 28), args := #[.tmp 65], argTypes := #[24] }, some (64, false), true⟩,
  ⟨some 67, .binOp .neq 3 (.tmp 66) (.const (.int .i64 1)) 3, some (64, false), true⟩,
  ⟨some 68, .pick (.tmp 64) (.const (.bool true)) (.tmp 67), none, true⟩]
theorem k7_r10_e : type_of% (@Eo_of P pr N e σ Q _ _ k7_r10.eq_1) := Eo_of k7_r10.eq_1
def k7_r11 : List COp := [
  ⟨some 4, .assign (.const (.bool false)), none, true⟩]
theorem k7_r11_e : type_of% (@Eo_of P pr N e σ Q _ _ k7_r11.eq_1) := Eo_of k7_r11.eq_1
def k7_r12 : List COp := [
  ⟨some 69, .load 24 (.tmp 3), none, true⟩,
  ⟨some 70, .move (.tmp 0), none, true⟩,
  ⟨some 71, .call { callee := .value (.func 24), args := #[.tmp 69, .tmp 70], argTypes := #[24, 9] }, none, true⟩,
  ⟨some 72, .unOp .not 4 (.tmp 71), none, true⟩,
  ⟨some 73, .move (.tmp 72), none, true⟩,
  ⟨some 74, .fieldAddr 24 (.tmp 3) 0, some (73, false), true⟩,
  ⟨some 75, .load 3 (.tmp 74), some (73, false), true⟩,
  ⟨some 76, .fieldAddr 24 (.tmp 5) 0, some (73, false), true⟩,
  ⟨some 77, .load 3 (.tmp 76), some (73, false), true⟩,
  ⟨some 78, .binOp .eql 3 (.tmp 75) (.tmp 77) 3, some (73, false), true⟩,
  ⟨some 79, .move (.tmp 78), some (73, false), true⟩,
  ⟨some 80, .load 24 (.tmp 3), some (79, true), true⟩,
  ⟨some 81, .call { callee := .value (.func 28), args := #[.tmp 80], argTypes := #[24] }, some (79, true), true⟩,
  ⟨some 82, .binOp .geq 3 (.tmp 81) (.const (.int .i64 1)) 3, some (79, true), true⟩,
  ⟨some 83, .pick (.tmp 79) (.tmp 82) (.const (.bool false)), some (73, false), true⟩,
  ⟨some 84, .move (.tmp 83), some (73, false), true⟩,
  ⟨some 85, .fieldAddr 24 (.tmp 3) 0, some (84, true), true⟩,
  ⟨some 86, .load 3 (.tmp 85), some (84, true), true⟩,
  ⟨some 87, .binOp .eql 3 (.tmp 86) (.const (.int .i64 1)) 3, some (84, true), true⟩,
  ⟨some 88, .move (.tmp 87), some (84, true), true⟩,
  ⟨some 89, .load 24 (.tmp 5), some (88, false), true⟩,
  ⟨some 90, .load 24 (.tmp 3), some (88, false), true⟩,
  ⟨some 91, .call { callee := .value (.func 26), args := #[.tmp 89, .tmp 90], argTypes := #[24, 24] }, some (88, false), true⟩,
  ⟨some 92, .binOp .leq 3 (.tmp 91) (.const (.int .i64 0)) 3, some (88, false), true⟩,
  ⟨some 93, .pick (.tmp 88) (.const (.bool true)) (.tmp 92), some (84, true), true⟩,
  ⟨some 94, .pick (.tmp 84) (.tmp 93) (.const (.bool false)), some (73, false), true⟩,
  ⟨some 95, .pick (.tmp 73) (.const (.bool true)) (.tmp 94), none, true⟩,
  ⟨some 4, .assign (.tmp 95), none, true⟩]
theorem k7_r12_e : type_of% (@Eo_of P pr N e σ Q _ _ k7_r12.eq_1) := Eo_of k7_r12.eq_1
def k7 : CC := (.seq (.region k7_r0) (.seq (.seq (.region k7_r1) (.cond (.tmp 11) (.seq (.region k7_r2) .ret) .skip)) (.seq (.seq (.region k7_r3) (.cond (.tmp 13) (.seq (.region k7_r4) .ret) .skip)) (.seq (.region k7_r5) (.seq (.seq (.region k7_r6) (.cond (.tmp 18) (.seq (.region k7_r7) .ret) .skip)) (.seq (.region k7_r8) (.seq (.region k7_r9) (.seq (.seq (.region k7_r10) (.cond (.tmp 68) (.seq (.region k7_r11) .ret) .skip)) (.seq (.region k7_r12) .ret)))))))))
theorem k7_e : type_of% (@Ev_of P pr N e σ Q _ _ k7.eq_1) := Ev_of k7.eq_1
theorem k7_a : type_of% @k7_e ∧ type_of% @k7_r0_e ∧ type_of% @k7_r1_e ∧ type_of% @k7_r2_e ∧ type_of% @k7_r3_e ∧ type_of% @k7_r4_e ∧ type_of% @k7_r5_e ∧ type_of% @k7_r6_e ∧ type_of% @k7_r7_e ∧ type_of% @k7_r8_e ∧ type_of% @k7_r9_e ∧ type_of% @k7_r10_e ∧ type_of% @k7_r11_e ∧ type_of% @k7_r12_e := ⟨@k7_e, @k7_r0_e, @k7_r1_e, @k7_r2_e, @k7_r3_e, @k7_r4_e, @k7_r5_e, @k7_r6_e, @k7_r7_e, @k7_r8_e, @k7_r9_e, @k7_r10_e, @k7_r11_e, @k7_r12_e⟩
/-- quern/quernlaw09.ValueZeros -/
theorem k7_is : FnIs Try.prog prims 7 96 [ResultVar.tmp 4] k7 := FnIs.of_fn Try.func7 (by kernel_rfl) rfl
def k11_r0 : List COp := [
  ⟨some 0, .assign (.const (.bool false)), none, true⟩]
theorem k11_r0_e : type_of% (@Eo_of P pr N e σ Q _ _ k11_r0.eq_1) := Eo_of k11_r0.eq_1
def k11_r1 : List COp := [
  ⟨some 8, .call { callee := .value (.func 16), args := #[.const (.int .i64 300)], argTypes := #[3] }, none, true⟩,
  ⟨some 9, .call { callee := .value (.func 30), args := #[.tmp 8, .const (.string { data := #[105, 110, 116] })], argTypes := #[24, 9] }, none, true⟩,
  ⟨some 7, .move (.tmp 9), none, true⟩,
  ⟨some 10, .extract (.tmp 7) 0, none, true⟩,
  ⟨some 11, .extract (.tmp 7) 1, none, true⟩,
  ⟨some 1, .assign (.tmp 10), none, true⟩,
  ⟨some 2, .assign (.tmp 11), none, true⟩]
theorem k11_r1_e : type_of% (@Eo_of P pr N e σ Q _ _ k11_r1.eq_1) := Eo_of k11_r1.eq_1
def k11_r2 : List COp := [
  ⟨some 13, .call { callee := .value (.func 22), args := #[.const (.string { data := #[91, 116, 101, 120, 116, 93] })], argTypes := #[9] }, none, true⟩,
  ⟨some 14, .call { callee := .value (.func 17), args := #[.const (.string { data := #[97] })], argTypes := #[9] }, none, true⟩,
  ⟨some 15, .call { callee := .value (.func 38), args := #[.tmp 13, .tmp 14], argTypes := #[24, 24] }, none, true⟩,
  ⟨some 12, .move (.tmp 15), none, true⟩,
  ⟨some 16, .extract (.tmp 12) 0, none, true⟩,
  ⟨some 17, .extract (.tmp 12) 1, none, true⟩,
  ⟨some 3, .alloc 24, none, true⟩,
  ⟨none, .store 24 (.tmp 3) (.tmp 16), none, true⟩,
  ⟨some 4, .assign (.tmp 17), none, true⟩]
theorem k11_r2_e : type_of% (@Eo_of P pr N e σ Q _ _ k11_r2.eq_1) := Eo_of k11_r2.eq_1
def k11_r3 : List COp := [
  ⟨some 19, .load 24 (.tmp 3), none, true⟩,
  ⟨some 20, .call { callee := .value (.func 30), args := #[.tmp 19, .const (.string { data := #[91, 116, 101, 120, 116, 93] })], argTypes := #[24, 9] }, none, true⟩,
  ⟨some 18, .move (.tmp 20), none, true⟩,
  ⟨some 21, .extract (.tmp 18) 0, none, true⟩,
  ⟨some 22, .extract (.tmp 18) 1, none, true⟩,
  ⟨some 5, .assign (.tmp 21), none, true⟩,
  ⟨some 6, .assign (.tmp 22), none, true⟩]
theorem k11_r3_e : type_of% (@Eo_of P pr N e σ Q _ _ k11_r3.eq_1) := Eo_of k11_r3.eq_1
def k11_r4 : List COp := [
  ⟨some 23, .move (.tmp 2), none, true⟩,
  ⟨some 24, .binOp .eql 45 (.tmp 23) (.const (.int .i64 0)) 45, none, true⟩,
  ⟨some 25, .move (.tmp 24), none, true⟩,
  ⟨some 26, .move (.tmp 4), some (25, true), true⟩,
  ⟨some 27, .binOp .eql 45 (.tmp 26) (.const (.int .i64 0)) 45, some (25, true), true⟩,
  ⟨some 28, .pick (.tmp 25) (.tmp 27) (.const (.bool false)), none, true⟩,
  ⟨some 29, .move (.tmp 28), none, true⟩,
  ⟨some 30, .move (.tmp 6), some (29, true), true⟩,
  ⟨some 31, .binOp .eql 45 (.tmp 30) (.const (.int .i64 0)) 45, some (29, true), true⟩,
  ⟨some 32, .pick (.tmp 29) (.tmp 31) (.const (.bool false)), none, true⟩,
  ⟨some 33, .move (.tmp 32), none, true⟩,
  ⟨some 34, .move (.tmp 1), some (33, true), true⟩,
  ⟨some 35, .convert 44 9 (.tmp 34), some (33, true), true⟩,
  ⟨some 36, .binOp .eql 9 (.tmp 35) (.const (.string { data := #[0, 172, 2] })) 9, some (33, true), true⟩,
  ⟨some 37, .pick (.tmp 33) (.tmp 36) (.const (.bool false)), none, true⟩,
  ⟨some 38, .move (.tmp 37), none, true⟩,
  ⟨some 39, .move (.tmp 5), some (38, true), true⟩,
  ⟨some 40, .convert 44 9 (.tmp 39), some (38, true), true⟩,
  ⟨some 41, .binOp .eql 9 (.tmp 40) (.const (.string { data := #[1, 1, 97] })) 9, some (38, true), true⟩,
  ⟨some 42, .pick (.tmp 38) (.tmp 41) (.const (.bool false)), none, true⟩,
  ⟨some 0, .assign (.tmp 42), none, true⟩]
theorem k11_r4_e : type_of% (@Eo_of P pr N e σ Q _ _ k11_r4.eq_1) := Eo_of k11_r4.eq_1
def k11 : CC := (.seq (.region k11_r0) (.seq (.region k11_r1) (.seq (.region k11_r2) (.seq (.region k11_r3) (.seq (.region k11_r4) .ret)))))
theorem k11_e : type_of% (@Ev_of P pr N e σ Q _ _ k11.eq_1) := Ev_of k11.eq_1
theorem k11_a : type_of% @k11_e ∧ type_of% @k11_r0_e ∧ type_of% @k11_r1_e ∧ type_of% @k11_r2_e ∧ type_of% @k11_r3_e ∧ type_of% @k11_r4_e := ⟨@k11_e, @k11_r0_e, @k11_r1_e, @k11_r2_e, @k11_r3_e, @k11_r4_e⟩
/-- quern/quernlaw09.wakes -/
theorem k11_is : FnIs Try.prog prims 11 43 [ResultVar.tmp 0] k11 := FnIs.of_fn Try.func11 (by kernel_rfl) rfl
def k12_r0 : List COp := [
  ⟨some 1, .box 24 (.tmp 0), none, true⟩,
  ⟨some 2, .assign (.const (.bool false)), none, true⟩]
theorem k12_r0_e : type_of% (@Eo_of P pr N e σ Q _ _ k12_r0.eq_1) := Eo_of k12_r0.eq_1
def k12_r1 : List COp := [
  ⟨some 3, .alloc 3, none, true⟩,
  ⟨none, .store 3 (.tmp 3) (.const (.int .i64 0)), none, true⟩]
theorem k12_r1_e : type_of% (@Eo_of P pr N e σ Q _ _ k12_r1.eq_1) := Eo_of k12_r1.eq_1
def k12_r2 : List COp := [
  ⟨some 4, .load 24 (.tmp 1), none, true⟩,
  ⟨some 5, .call { callee := .value (.func 51), args := #[.tmp 4, .tmp 3], argTypes := #[24, 62] }, none, true⟩,
  ⟨some 2, .assign (.tmp 5), none, true⟩]
theorem k12_r2_e : type_of% (@Eo_of P pr N e σ Q _ _ k12_r2.eq_1) := Eo_of k12_r2.eq_1
def k12 : CC := (.seq (.region k12_r0) (.seq (.region k12_r1) (.seq (.region k12_r2) .ret)))
theorem k12_e : type_of% (@Ev_of P pr N e σ Q _ _ k12.eq_1) := Ev_of k12.eq_1
theorem k12_a : type_of% @k12_e ∧ type_of% @k12_r0_e ∧ type_of% @k12_r1_e ∧ type_of% @k12_r2_e := ⟨@k12_e, @k12_r0_e, @k12_r1_e, @k12_r2_e⟩
/-- quern/quernlaw09.large -/
theorem k12_is : FnIs Try.prog prims 12 6 [ResultVar.tmp 2] k12 := FnIs.of_fn Try.func12 (by kernel_rfl) rfl
def k13_r0 : List COp := [
  ⟨some 2, .box 24 (.tmp 0), none, true⟩,
  ⟨some 3, .box 24 (.tmp 1), none, true⟩,
  ⟨some 4, .assign (.const (.bool false)), none, true⟩]
theorem k13_r0_e : type_of% (@Eo_of P pr N e σ Q _ _ k13_r0.eq_1) := Eo_of k13_r0.eq_1
def k13_r1 : List COp := [
  ⟨some 5, .load 24 (.tmp 2), none, true⟩,
  ⟨some 6, .load 24 (.tmp 3), none, true⟩,
  ⟨some 7, .call { callee := .value (.func 27), args := #[.tmp 5, .tmp 6], argTypes := #[24, 24] }, none, true⟩,
  ⟨some 8, .binOp .eql 3 (.tmp 7) (.const (.int .i64 0)) 3, none, true⟩,
  ⟨some 4, .assign (.tmp 8), none, true⟩]
theorem k13_r1_e : type_of% (@Eo_of P pr N e σ Q _ _ k13_r1.eq_1) := Eo_of k13_r1.eq_1
def k13 : CC := (.seq (.region k13_r0) (.seq (.region k13_r1) .ret))
theorem k13_e : type_of% (@Ev_of P pr N e σ Q _ _ k13.eq_1) := Ev_of k13.eq_1
theorem k13_a : type_of% @k13_e ∧ type_of% @k13_r0_e ∧ type_of% @k13_r1_e := ⟨@k13_e, @k13_r0_e, @k13_r1_e⟩
/-- quern/quernref09.Same -/
theorem k13_is : FnIs Try.prog prims 13 9 [ResultVar.tmp 4] k13 := FnIs.of_fn Try.func13 (by kernel_rfl) rfl
def k14_r0 : List COp := [
  ⟨some 2, .alloc 24, none, true⟩]
theorem k14_r0_e : type_of% (@Eo_of P pr N e σ Q _ _ k14_r0.eq_1) := Eo_of k14_r0.eq_1
def k14_r1 : List COp := [
  ⟨some 3, .move (.tmp 0), none, true⟩]
theorem k14_r1_e : type_of% (@Eo_of P pr N e σ Q _ _ k14_r1.eq_1) := Eo_of k14_r1.eq_1
def k14_r2 : List COp := [
  ⟨some 4, .build 24 #[(0, .const (.int .i64 2)), (1, .const (.int .i64 1))], none, true⟩,
  ⟨none, .store 24 (.tmp 2) (.tmp 4), none, true⟩]
theorem k14_r2_e : type_of% (@Eo_of P pr N e σ Q _ _ k14_r2.eq_1) := Eo_of k14_r2.eq_1
def k14_r3 : List COp := [
  ⟨some 5, .build 24 #[(0, .const (.int .i64 2))], none, true⟩,
  ⟨none, .store 24 (.tmp 2) (.tmp 5), none, true⟩]
theorem k14_r3_e : type_of% (@Eo_of P pr N e σ Q _ _ k14_r3.eq_1) := Eo_of k14_r3.eq_1
def k14 : CC := (.seq (.region k14_r0) (.seq (.seq (.region k14_r1) (.cond (.tmp 3) (.seq (.region k14_r2) .ret) .skip)) (.seq (.region k14_r3) .ret)))
theorem k14_e : type_of% (@Ev_of P pr N e σ Q _ _ k14.eq_1) := Ev_of k14.eq_1
theorem k14_a : type_of% @k14_e ∧ type_of% @k14_r0_e ∧ type_of% @k14_r1_e ∧ type_of% @k14_r2_e ∧ type_of% @k14_r3_e := ⟨@k14_e, @k14_r0_e, @k14_r1_e, @k14_r2_e, @k14_r3_e⟩
/-- quern/value.Bool -/
theorem k14_is : FnIs Try.prog prims 14 6 [ResultVar.cell 2 24] k14 := FnIs.of_fn Try.func14 (by kernel_rfl) rfl
def k15_r0 : List COp := [
  ⟨some 2, .assign (.const (.int .i64 0)), none, true⟩]
theorem k15_r0_e : type_of% (@Eo_of P pr N e σ Q _ _ k15_r0.eq_1) := Eo_of k15_r0.eq_1
def k15_r1 : List COp := [
  ⟨some 3, .move (.tmp 0), none, true⟩]
theorem k15_r1_e : type_of% (@Eo_of P pr N e σ Q _ _ k15_r1.eq_1) := Eo_of k15_r1.eq_1
def k15_r2 : List COp := [
  ⟨some 2, .assign (.const (.int .i64 1)), none, true⟩]
theorem k15_r2_e : type_of% (@Eo_of P pr N e σ Q _ _ k15_r2.eq_1) := Eo_of k15_r2.eq_1
def k15_r3 : List COp := [
  ⟨some 2, .assign (.const (.int .i64 0)), none, true⟩]
theorem k15_r3_e : type_of% (@Eo_of P pr N e σ Q _ _ k15_r3.eq_1) := Eo_of k15_r3.eq_1
def k15 : CC := (.seq (.region k15_r0) (.seq (.seq (.region k15_r1) (.cond (.tmp 3) (.seq (.region k15_r2) .ret) .skip)) (.seq (.region k15_r3) .ret)))
theorem k15_e : type_of% (@Ev_of P pr N e σ Q _ _ k15.eq_1) := Ev_of k15.eq_1
theorem k15_a : type_of% @k15_e ∧ type_of% @k15_r0_e ∧ type_of% @k15_r1_e ∧ type_of% @k15_r2_e ∧ type_of% @k15_r3_e := ⟨@k15_e, @k15_r0_e, @k15_r1_e, @k15_r2_e, @k15_r3_e⟩
/-- quern/quernlaw09.flag -/
theorem k15_is : FnIs Try.prog prims 15 4 [ResultVar.tmp 2] k15 := FnIs.of_fn Try.func15 (by kernel_rfl) rfl
def k16_r0 : List COp := [
  ⟨some 2, .alloc 24, none, true⟩]
theorem k16_r0_e : type_of% (@Eo_of P pr N e σ Q _ _ k16_r0.eq_1) := Eo_of k16_r0.eq_1
def k16_r1 : List COp := [
  ⟨some 3, .move (.tmp 0), none, true⟩,
  ⟨some 4, .build 24 #[(0, .const (.int .i64 1)), (1, .tmp 3)], none, true⟩,
  ⟨none, .store 24 (.tmp 2) (.tmp 4), none, true⟩]
theorem k16_r1_e : type_of% (@Eo_of P pr N e σ Q _ _ k16_r1.eq_1) := Eo_of k16_r1.eq_1
def k16 : CC := (.seq (.region k16_r0) (.seq (.region k16_r1) .ret))
theorem k16_e : type_of% (@Ev_of P pr N e σ Q _ _ k16.eq_1) := Ev_of k16.eq_1
theorem k16_a : type_of% @k16_e ∧ type_of% @k16_r0_e ∧ type_of% @k16_r1_e := ⟨@k16_e, @k16_r0_e, @k16_r1_e⟩
/-- quern/value.Int -/
theorem k16_is : FnIs Try.prog prims 16 5 [ResultVar.cell 2 24] k16 := FnIs.of_fn Try.func16 (by kernel_rfl) rfl
def k17_r0 : List COp := [
  ⟨some 2, .alloc 24, none, true⟩]
theorem k17_r0_e : type_of% (@Eo_of P pr N e σ Q _ _ k17_r0.eq_1) := Eo_of k17_r0.eq_1
def k17_r1 : List COp := [
  ⟨some 3, .move (.tmp 0), none, true⟩,
  ⟨some 4, .build 24 #[(0, .const (.int .i64 3)), (2, .tmp 3)], none, true⟩,
  ⟨none, .store 24 (.tmp 2) (.tmp 4), none, true⟩]
theorem k17_r1_e : type_of% (@Eo_of P pr N e σ Q _ _ k17_r1.eq_1) := Eo_of k17_r1.eq_1
def k17 : CC := (.seq (.region k17_r0) (.seq (.region k17_r1) .ret))
theorem k17_e : type_of% (@Ev_of P pr N e σ Q _ _ k17.eq_1) := Ev_of k17.eq_1
theorem k17_a : type_of% @k17_e ∧ type_of% @k17_r0_e ∧ type_of% @k17_r1_e := ⟨@k17_e, @k17_r0_e, @k17_r1_e⟩
/-- quern/value.Text -/
theorem k17_is : FnIs Try.prog prims 17 5 [ResultVar.cell 2 24] k17 := FnIs.of_fn Try.func17 (by kernel_rfl) rfl
def k18_r0 : List COp := [
  ⟨some 2, .assign (.const (.string { data := #[] })), none, true⟩,
  ⟨some 3, .assign (.const (.bool false)), none, true⟩]
theorem k18_r0_e : type_of% (@Eo_of P pr N e σ Q _ _ k18_r0.eq_1) := Eo_of k18_r0.eq_1
def k18_r1 : List COp := [
  ⟨some 4, .move (.tmp 0), none, true⟩,
  ⟨some 5, .call { callee := .value (.func 52), args := #[.tmp 4], argTypes := #[9] }, none, true⟩,
  ⟨some 6, .unOp .not 4 (.tmp 5), none, true⟩,
  ⟨some 7, .move (.tmp 6), none, true⟩,
  ⟨some 8, .move (.tmp 0), some (7, false), true⟩,
  ⟨some 9, .index 9 (.tmp 8) (.const (.int .i64 0)), some (7, false), true⟩,
  ⟨some 10, .binOp .neq 5 (.tmp 9) (.const (.int .u8 91)) 5, some (7, false), true⟩,
  ⟨some 11, .pick (.tmp 7) (.const (.bool true)) (.tmp 10), none, true⟩]
theorem k18_r1_e : type_of% (@Eo_of P pr N e σ Q _ _ k18_r1.eq_1) := Eo_of k18_r1.eq_1
def k18_r2 : List COp := [
  ⟨some 2, .assign (.const (.string { data := #[] })), none, true⟩,
  ⟨some 3, .assign (.const (.bool false)), none, true⟩]
theorem k18_r2_e : type_of% (@Eo_of P pr N e σ Q _ _ k18_r2.eq_1) := Eo_of k18_r2.eq_1
def k18_r3 : List COp := [
  ⟨some 12, .move (.tmp 0), none, true⟩,
  ⟨some 13, .move (.tmp 0), none, true⟩,
  ⟨some 14, .call { callee := .builtin .len, args := #[.tmp 13], argTypes := #[9] }, none, true⟩,
  ⟨some 15, .binOp .sub 3 (.tmp 14) (.const (.int .i64 1)) 3, none, true⟩,
  ⟨some 16, .slice 9 (.tmp 12) (some (.const (.int .i64 1))) (some (.tmp 15)) .none, none, true⟩,
  ⟨some 2, .assign (.tmp 16), none, true⟩,
  ⟨some 3, .assign (.const (.bool true)), none, true⟩]
theorem k18_r3_e : type_of% (@Eo_of P pr N e σ Q _ _ k18_r3.eq_1) := Eo_of k18_r3.eq_1
def k18 : CC := (.seq (.region k18_r0) (.seq (.seq (.region k18_r1) (.cond (.tmp 11) (.seq (.region k18_r2) .ret) .skip)) (.seq (.region k18_r3) .ret)))
theorem k18_e : type_of% (@Ev_of P pr N e σ Q _ _ k18.eq_1) := Ev_of k18.eq_1
theorem k18_a : type_of% @k18_e ∧ type_of% @k18_r0_e ∧ type_of% @k18_r1_e ∧ type_of% @k18_r2_e ∧ type_of% @k18_r3_e := ⟨@k18_e, @k18_r0_e, @k18_r1_e, @k18_r2_e, @k18_r3_e⟩
/-- quern/value.List -/
theorem k18_is : FnIs Try.prog prims 18 17 [ResultVar.tmp 2, ResultVar.tmp 3] k18 := FnIs.of_fn Try.func18 (by kernel_rfl) rfl
def k19_r0 : List COp := [
  ⟨some 2, .assign (.const (.string { data := #[] })), none, true⟩,
  ⟨some 3, .assign (.const (.string { data := #[] })), none, true⟩,
  ⟨some 4, .assign (.const (.bool false)), none, true⟩]
theorem k19_r0_e : type_of% (@Eo_of P pr N e σ Q _ _ k19_r0.eq_1) := Eo_of k19_r0.eq_1
def k19_r1 : List COp := [
  ⟨some 8, .move (.tmp 0), none, true⟩,
  ⟨some 9, .call { callee := .value (.func 52), args := #[.tmp 8], argTypes := #[9] }, none, true⟩,
  ⟨some 10, .unOp .not 4 (.tmp 9), none, true⟩,
  ⟨some 11, .move (.tmp 10), none, true⟩,
  ⟨some 12, .move (.tmp 0), some (11, false), true⟩,
  ⟨some 13, .index 9 (.tmp 12) (.const (.int .i64 0)), some (11, false), true⟩,
  ⟨some 14, .binOp .neq 5 (.tmp 13) (.const (.int .u8 123)) 5, some (11, false), true⟩,
  ⟨some 15, .pick (.tmp 11) (.const (.bool true)) (.tmp 14), none, true⟩]
theorem k19_r1_e : type_of% (@Eo_of P pr N e σ Q _ _ k19_r1.eq_1) := Eo_of k19_r1.eq_1
def k19_r2 : List COp := [
  ⟨some 2, .assign (.const (.string { data := #[] })), none, true⟩,
  ⟨some 3, .assign (.const (.string { data := #[] })), none, true⟩,
  ⟨some 4, .assign (.const (.bool false)), none, true⟩]
theorem k19_r2_e : type_of% (@Eo_of P pr N e σ Q _ _ k19_r2.eq_1) := Eo_of k19_r2.eq_1
def k19_r3 : List COp := [
  ⟨some 17, .move (.tmp 0), none, true⟩,
  ⟨some 18, .move (.tmp 0), none, true⟩,
  ⟨some 19, .call { callee := .builtin .len, args := #[.tmp 18], argTypes := #[9] }, none, true⟩,
  ⟨some 20, .binOp .sub 3 (.tmp 19) (.const (.int .i64 1)) 3, none, true⟩,
  ⟨some 21, .slice 9 (.tmp 17) (some (.const (.int .i64 1))) (some (.tmp 20)) .none, none, true⟩,
  ⟨some 22, .call { callee := .value (.func 53), args := #[.tmp 21, .const (.string { data := #[58] })], argTypes := #[9, 9] }, none, true⟩,
  ⟨some 16, .move (.tmp 22), none, true⟩,
  ⟨some 23, .extract (.tmp 16) 0, none, true⟩,
  ⟨some 24, .extract (.tmp 16) 1, none, true⟩,
  ⟨some 25, .extract (.tmp 16) 2, none, true⟩,
  ⟨some 5, .assign (.tmp 23), none, true⟩,
  ⟨some 6, .assign (.tmp 24), none, true⟩,
  ⟨some 7, .assign (.tmp 25), none, true⟩]
theorem k19_r3_e : type_of% (@Eo_of P pr N e σ Q _ _ k19_r3.eq_1) := Eo_of k19_r3.eq_1
def k19_r4 : List COp := [
  ⟨some 26, .move (.tmp 5), none, true⟩,
  ⟨some 27, .move (.tmp 6), none, true⟩,
  ⟨some 2, .assign (.tmp 26), none, true⟩,
  ⟨some 3, .assign (.tmp 27), none, true⟩,
  ⟨some 4, .assign (.const (.bool true)), none, true⟩]
theorem k19_r4_e : type_of% (@Eo_of P pr N e σ Q _ _ k19_r4.eq_1) := Eo_of k19_r4.eq_1
def k19 : CC := (.seq (.region k19_r0) (.seq (.seq (.region k19_r1) (.cond (.tmp 15) (.seq (.region k19_r2) .ret) .skip)) (.seq (.region k19_r3) (.seq (.region k19_r4) .ret))))
theorem k19_e : type_of% (@Ev_of P pr N e σ Q _ _ k19.eq_1) := Ev_of k19.eq_1
theorem k19_a : type_of% @k19_e ∧ type_of% @k19_r0_e ∧ type_of% @k19_r1_e ∧ type_of% @k19_r2_e ∧ type_of% @k19_r3_e ∧ type_of% @k19_r4_e := ⟨@k19_e, @k19_r0_e, @k19_r1_e, @k19_r2_e, @k19_r3_e, @k19_r4_e⟩
/-- quern/value.Map -/
theorem k19_is : FnIs Try.prog prims 19 28 [ResultVar.tmp 2, ResultVar.tmp 3, ResultVar.tmp 4] k19 := FnIs.of_fn Try.func19 (by kernel_rfl) rfl
def k20_r0 : List COp := [
  ⟨some 2, .assign (.const (.string { data := #[] })), none, true⟩,
  ⟨some 3, .assign (.const (.string { data := #[] })), none, true⟩]
theorem k20_r0_e : type_of% (@Eo_of P pr N e σ Q _ _ k20_r0.eq_1) := Eo_of k20_r0.eq_1
def k20_r1 : List COp := [
  ⟨some 4, .move (.tmp 0), none, true⟩,
  ⟨some 5, .call { callee := .value (.func 34), args := #[.tmp 4], argTypes := #[9] }, none, true⟩,
  ⟨some 6, .unOp .not 4 (.tmp 5), none, true⟩,
  ⟨some 7, .move (.tmp 6), none, true⟩,
  ⟨some 8, .move (.tmp 0), some (7, false), true⟩,
  ⟨some 9, .index 9 (.tmp 8) (.const (.int .i64 0)), some (7, false), true⟩,
  ⟨some 10, .binOp .neq 5 (.tmp 9) (.const (.int .u8 123)) 5, some (7, false), true⟩,
  ⟨some 11, .pick (.tmp 7) (.const (.bool true)) (.tmp 10), none, true⟩]
theorem k20_r1_e : type_of% (@Eo_of P pr N e σ Q _ _ k20_r1.eq_1) := Eo_of k20_r1.eq_1
def k20_r2 : List COp := [
  ⟨some 2, .assign (.const (.string { data := #[] })), none, true⟩,
  ⟨some 3, .assign (.const (.string { data := #[] })), none, true⟩]
theorem k20_r2_e : type_of% (@Eo_of P pr N e σ Q _ _ k20_r2.eq_1) := Eo_of k20_r2.eq_1
def k20_r3 : List COp := [
  ⟨some 12, .move (.tmp 0), none, true⟩,
  ⟨some 13, .index 9 (.tmp 12) (.const (.int .i64 1)), none, true⟩,
  ⟨some 14, .binOp .eql 5 (.tmp 13) (.const (.int .u8 105)) 5, none, true⟩]
theorem k20_r3_e : type_of% (@Eo_of P pr N e σ Q _ _ k20_r3.eq_1) := Eo_of k20_r3.eq_1
def k20_r4 : List COp := [
  ⟨some 15, .move (.tmp 0), none, false⟩,
  ⟨some 16, .move (.tmp 0), none, false⟩,
  ⟨some 17, .call { callee := .builtin .len, args := #[.tmp 16], argTypes := #[9] }, none, false⟩,
  ⟨some 18, .binOp .sub 3 (.tmp 17) (.const (.int .i64 1)) 3, none, false⟩,
  ⟨some 19, .slice 9 (.tmp 15) (some (.const (.int .i64 5))) (some (.tmp 18)) .none, none, false⟩,
  ⟨some 2, .assign (.const (.string { data := #[105, 110, 116] })), none, true⟩,
  ⟨some 3, .assign (.tmp 19), none, true⟩]
theorem k20_r4_e : type_of% (@Eo_of P pr N e σ Q _ _ k20_r4.eq_1) := Eo_of k20_r4.eq_1
def k20_r5 : List COp := [
  ⟨some 20, .move (.tmp 0), none, false⟩,
  ⟨some 21, .move (.tmp 0), none, false⟩,
  ⟨some 22, .call { callee := .builtin .len, args := #[.tmp 21], argTypes := #[9] }, none, false⟩,
  ⟨some 23, .binOp .sub 3 (.tmp 22) (.const (.int .i64 1)) 3, none, false⟩,
  ⟨some 24, .slice 9 (.tmp 20) (some (.const (.int .i64 6))) (some (.tmp 23)) .none, none, false⟩,
  ⟨some 2, .assign (.const (.string { data := #[116, 101, 120, 116] })), none, true⟩,
  ⟨some 3, .assign (.tmp 24), none, true⟩]
theorem k20_r5_e : type_of% (@Eo_of P pr N e σ Q _ _ k20_r5.eq_1) := Eo_of k20_r5.eq_1
def k20 : CC := (.seq (.region k20_r0) (.seq (.seq (.region k20_r1) (.cond (.tmp 11) (.seq (.region k20_r2) .ret) .skip)) (.seq (.seq (.region k20_r3) (.cond (.tmp 14) (.seq (.region k20_r4) .ret) .skip)) (.seq (.region k20_r5) .ret))))
theorem k20_e : type_of% (@Ev_of P pr N e σ Q _ _ k20.eq_1) := Ev_of k20.eq_1
theorem k20_a : type_of% @k20_e ∧ type_of% @k20_r0_e ∧ type_of% @k20_r1_e ∧ type_of% @k20_r2_e ∧ type_of% @k20_r3_e ∧ type_of% @k20_r4_e ∧ type_of% @k20_r5_e := ⟨@k20_e, @k20_r0_e, @k20_r1_e, @k20_r2_e, @k20_r3_e, @k20_r4_e, @k20_r5_e⟩
/-- quern/quernref09.Map -/
theorem k20_is : FnIs Try.prog prims 20 25 [ResultVar.tmp 2, ResultVar.tmp 3] k20 := FnIs.of_fn Try.func20 (by kernel_rfl) rfl
def k21_r0 : List COp := [
  ⟨some 2, .assign (.const (.string { data := #[] })), none, true⟩]
theorem k21_r0_e : type_of% (@Eo_of P pr N e σ Q _ _ k21_r0.eq_1) := Eo_of k21_r0.eq_1
def k21_r1 : List COp := [
  ⟨some 3, .move (.tmp 0), none, true⟩,
  ⟨some 4, .call { callee := .value (.func 34), args := #[.tmp 3], argTypes := #[9] }, none, true⟩,
  ⟨some 5, .unOp .not 4 (.tmp 4), none, true⟩,
  ⟨some 6, .move (.tmp 5), none, true⟩,
  ⟨some 7, .move (.tmp 0), some (6, false), true⟩,
  ⟨some 8, .index 9 (.tmp 7) (.const (.int .i64 0)), some (6, false), true⟩,
  ⟨some 9, .binOp .neq 5 (.tmp 8) (.const (.int .u8 91)) 5, some (6, false), true⟩,
  ⟨some 10, .pick (.tmp 6) (.const (.bool true)) (.tmp 9), none, true⟩]
theorem k21_r1_e : type_of% (@Eo_of P pr N e σ Q _ _ k21_r1.eq_1) := Eo_of k21_r1.eq_1
def k21_r2 : List COp := [
  ⟨some 2, .assign (.const (.string { data := #[] })), none, true⟩]
theorem k21_r2_e : type_of% (@Eo_of P pr N e σ Q _ _ k21_r2.eq_1) := Eo_of k21_r2.eq_1
def k21_r3 : List COp := [
  ⟨some 11, .move (.tmp 0), none, true⟩,
  ⟨some 12, .move (.tmp 0), none, true⟩,
  ⟨some 13, .call { callee := .builtin .len, args := #[.tmp 12], argTypes := #[9] }, none, true⟩,
  ⟨some 14, .binOp .sub 3 (.tmp 13) (.const (.int .i64 1)) 3, none, true⟩,
  ⟨some 15, .slice 9 (.tmp 11) (some (.const (.int .i64 1))) (some (.tmp 14)) .none, none, true⟩,
  ⟨some 2, .assign (.tmp 15), none, true⟩]
theorem k21_r3_e : type_of% (@Eo_of P pr N e σ Q _ _ k21_r3.eq_1) := Eo_of k21_r3.eq_1
def k21 : CC := (.seq (.region k21_r0) (.seq (.seq (.region k21_r1) (.cond (.tmp 10) (.seq (.region k21_r2) .ret) .skip)) (.seq (.region k21_r3) .ret)))
theorem k21_e : type_of% (@Ev_of P pr N e σ Q _ _ k21.eq_1) := Ev_of k21.eq_1
theorem k21_a : type_of% @k21_e ∧ type_of% @k21_r0_e ∧ type_of% @k21_r1_e ∧ type_of% @k21_r2_e ∧ type_of% @k21_r3_e := ⟨@k21_e, @k21_r0_e, @k21_r1_e, @k21_r2_e, @k21_r3_e⟩
/-- quern/quernref09.List -/
theorem k21_is : FnIs Try.prog prims 21 16 [ResultVar.tmp 2] k21 := FnIs.of_fn Try.func21 (by kernel_rfl) rfl
def k22_r0 : List COp := [
  ⟨some 2, .alloc 24, none, true⟩]
theorem k22_r0_e : type_of% (@Eo_of P pr N e σ Q _ _ k22_r0.eq_1) := Eo_of k22_r0.eq_1
def k22_r1 : List COp := [
  ⟨some 4, .move (.tmp 0), none, true⟩,
  ⟨some 5, .call { callee := .value (.func 52), args := #[.tmp 4], argTypes := #[9] }, none, true⟩,
  ⟨some 6, .unOp .not 4 (.tmp 5), none, true⟩,
  ⟨some 3, .assign (.tmp 6), none, true⟩]
theorem k22_r1_e : type_of% (@Eo_of P pr N e σ Q _ _ k22_r1.eq_1) := Eo_of k22_r1.eq_1
def k22_r2 : List COp := [
  ⟨some 7, .build 24 #[], none, true⟩,
  ⟨none, .store 24 (.tmp 2) (.tmp 7), none, true⟩]
theorem k22_r2_e : type_of% (@Eo_of P pr N e σ Q _ _ k22_r2.eq_1) := Eo_of k22_r2.eq_1
def k22_r3 : List COp := [
  ⟨some 9, .move (.tmp 0), none, true⟩,
  ⟨some 10, .binOp .eql 9 (.tmp 9) (.const (.string { data := #[105, 110, 116] })) 9, none, true⟩,
  ⟨some 8, .assign (.tmp 10), none, true⟩]
theorem k22_r3_e : type_of% (@Eo_of P pr N e σ Q _ _ k22_r3.eq_1) := Eo_of k22_r3.eq_1
def k22_r4 : List COp := [
  ⟨some 11, .call { callee := .value (.func 16), args := #[.const (.int .i64 0)], argTypes := #[3] }, none, true⟩,
  ⟨none, .store 24 (.tmp 2) (.tmp 11), none, true⟩]
theorem k22_r4_e : type_of% (@Eo_of P pr N e σ Q _ _ k22_r4.eq_1) := Eo_of k22_r4.eq_1
def k22_r5 : List COp := [
  ⟨some 13, .move (.tmp 0), none, true⟩,
  ⟨some 14, .binOp .eql 9 (.tmp 13) (.const (.string { data := #[98, 111, 111, 108] })) 9, none, true⟩,
  ⟨some 12, .assign (.tmp 14), none, true⟩]
theorem k22_r5_e : type_of% (@Eo_of P pr N e σ Q _ _ k22_r5.eq_1) := Eo_of k22_r5.eq_1
def k22_r6 : List COp := [
  ⟨some 15, .call { callee := .value (.func 14), args := #[.const (.bool false)], argTypes := #[4] }, none, true⟩,
  ⟨none, .store 24 (.tmp 2) (.tmp 15), none, true⟩]
theorem k22_r6_e : type_of% (@Eo_of P pr N e σ Q _ _ k22_r6.eq_1) := Eo_of k22_r6.eq_1
def k22_r7 : List COp := [
  ⟨some 17, .move (.tmp 0), none, true⟩,
  ⟨some 18, .binOp .eql 9 (.tmp 17) (.const (.string { data := #[116, 101, 120, 116] })) 9, none, true⟩,
  ⟨some 16, .assign (.tmp 18), none, true⟩]
theorem k22_r7_e : type_of% (@Eo_of P pr N e σ Q _ _ k22_r7.eq_1) := Eo_of k22_r7.eq_1
def k22_r8 : List COp := [
  ⟨some 19, .call { callee := .value (.func 17), args := #[.const (.string { data := #[] })], argTypes := #[9] }, none, true⟩,
  ⟨none, .store 24 (.tmp 2) (.tmp 19), none, true⟩]
theorem k22_r8_e : type_of% (@Eo_of P pr N e σ Q _ _ k22_r8.eq_1) := Eo_of k22_r8.eq_1
def k22_r9 : List COp := [
  ⟨some 21, .move (.tmp 0), none, true⟩,
  ⟨some 22, .index 9 (.tmp 21) (.const (.int .i64 0)), none, true⟩,
  ⟨some 23, .binOp .eql 5 (.tmp 22) (.const (.int .u8 91)) 5, none, true⟩,
  ⟨some 20, .assign (.tmp 23), none, true⟩]
theorem k22_r9_e : type_of% (@Eo_of P pr N e σ Q _ _ k22_r9.eq_1) := Eo_of k22_r9.eq_1
def k22_r10 : List COp := [
  ⟨some 24, .build 24 #[(0, .const (.int .i64 4))], none, true⟩,
  ⟨none, .store 24 (.tmp 2) (.tmp 24), none, true⟩]
theorem k22_r10_e : type_of% (@Eo_of P pr N e σ Q _ _ k22_r10.eq_1) := Eo_of k22_r10.eq_1
def k22_r11 : List COp := [
  ⟨some 25, .build 24 #[(0, .const (.int .i64 5))], none, true⟩,
  ⟨none, .store 24 (.tmp 2) (.tmp 25), none, true⟩]
theorem k22_r11_e : type_of% (@Eo_of P pr N e σ Q _ _ k22_r11.eq_1) := Eo_of k22_r11.eq_1
def k22 : CC := (.seq (.region k22_r0) (.seq (.block 0 (.seq (.region k22_r1) (.cond (.tmp 3) (.seq (.region k22_r2) .ret) (.seq (.region k22_r3) (.cond (.tmp 8) (.seq (.region k22_r4) .ret) (.seq (.region k22_r5) (.cond (.tmp 12) (.seq (.region k22_r6) .ret) (.seq (.region k22_r7) (.cond (.tmp 16) (.seq (.region k22_r8) .ret) (.seq (.region k22_r9) (.cond (.tmp 20) (.seq (.region k22_r10) .ret) .skip))))))))))) (.seq (.region k22_r11) .ret)))
theorem k22_e : type_of% (@Ev_of P pr N e σ Q _ _ k22.eq_1) := Ev_of k22.eq_1
theorem k22_a : type_of% @k22_e ∧ type_of% @k22_r0_e ∧ type_of% @k22_r1_e ∧ type_of% @k22_r2_e ∧ type_of% @k22_r3_e ∧ type_of% @k22_r4_e ∧ type_of% @k22_r5_e ∧ type_of% @k22_r6_e ∧ type_of% @k22_r7_e ∧ type_of% @k22_r8_e ∧ type_of% @k22_r9_e ∧ type_of% @k22_r10_e ∧ type_of% @k22_r11_e := ⟨@k22_e, @k22_r0_e, @k22_r1_e, @k22_r2_e, @k22_r3_e, @k22_r4_e, @k22_r5_e, @k22_r6_e, @k22_r7_e, @k22_r8_e, @k22_r9_e, @k22_r10_e, @k22_r11_e⟩
/-- quern/value.Zero -/
theorem k22_is : FnIs Try.prog prims 22 26 [ResultVar.cell 2 24] k22 := FnIs.of_fn Try.func22 (by kernel_rfl) rfl
def k23_r0 : List COp := [
  ⟨some 2, .alloc 24, none, true⟩]
theorem k23_r0_e : type_of% (@Eo_of P pr N e σ Q _ _ k23_r0.eq_1) := Eo_of k23_r0.eq_1
def k23_r1 : List COp := [
  ⟨some 3, .assign (.const (.int .i64 0)), none, true⟩]
theorem k23_r1_e : type_of% (@Eo_of P pr N e σ Q _ _ k23_r1.eq_1) := Eo_of k23_r1.eq_1
def k23_r2 : List COp := [
  ⟨some 4, .move (.tmp 0), none, true⟩,
  ⟨some 5, .binOp .eql 9 (.tmp 4) (.const (.string { data := #[105, 110, 116] })) 9, none, true⟩]
theorem k23_r2_e : type_of% (@Eo_of P pr N e σ Q _ _ k23_r2.eq_1) := Eo_of k23_r2.eq_1
def k23_r3 : List COp := [
  ⟨some 3, .assign (.const (.int .i64 1)), none, true⟩]
theorem k23_r3_e : type_of% (@Eo_of P pr N e σ Q _ _ k23_r3.eq_1) := Eo_of k23_r3.eq_1
def k23_r4 : List COp := [
  ⟨some 6, .move (.tmp 0), none, true⟩,
  ⟨some 7, .binOp .eql 9 (.tmp 6) (.const (.string { data := #[98, 111, 111, 108] })) 9, none, true⟩]
theorem k23_r4_e : type_of% (@Eo_of P pr N e σ Q _ _ k23_r4.eq_1) := Eo_of k23_r4.eq_1
def k23_r5 : List COp := [
  ⟨some 3, .assign (.const (.int .i64 2)), none, true⟩]
theorem k23_r5_e : type_of% (@Eo_of P pr N e σ Q _ _ k23_r5.eq_1) := Eo_of k23_r5.eq_1
def k23_r6 : List COp := [
  ⟨some 8, .move (.tmp 0), none, true⟩,
  ⟨some 9, .binOp .eql 9 (.tmp 8) (.const (.string { data := #[116, 101, 120, 116] })) 9, none, true⟩]
theorem k23_r6_e : type_of% (@Eo_of P pr N e σ Q _ _ k23_r6.eq_1) := Eo_of k23_r6.eq_1
def k23_r7 : List COp := [
  ⟨some 3, .assign (.const (.int .i64 3)), none, true⟩]
theorem k23_r7_e : type_of% (@Eo_of P pr N e σ Q _ _ k23_r7.eq_1) := Eo_of k23_r7.eq_1
def k23_r8 : List COp := [
  ⟨some 10, .move (.tmp 0), none, true⟩,
  ⟨some 11, .call { callee := .value (.func 21), args := #[.tmp 10], argTypes := #[9] }, none, true⟩,
  ⟨some 12, .binOp .neq 9 (.tmp 11) (.const (.string { data := #[] })) 9, none, true⟩]
theorem k23_r8_e : type_of% (@Eo_of P pr N e σ Q _ _ k23_r8.eq_1) := Eo_of k23_r8.eq_1
def k23_r9 : List COp := [
  ⟨some 3, .assign (.const (.int .i64 4)), none, true⟩]
theorem k23_r9_e : type_of% (@Eo_of P pr N e σ Q _ _ k23_r9.eq_1) := Eo_of k23_r9.eq_1
def k23_r10 : List COp := [
  ⟨some 13, .move (.tmp 0), none, true⟩,
  ⟨some 14, .call { callee := .value (.func 34), args := #[.tmp 13], argTypes := #[9] }, none, true⟩]
theorem k23_r10_e : type_of% (@Eo_of P pr N e σ Q _ _ k23_r10.eq_1) := Eo_of k23_r10.eq_1
def k23_r11 : List COp := [
  ⟨some 3, .assign (.const (.int .i64 5)), none, true⟩]
theorem k23_r11_e : type_of% (@Eo_of P pr N e σ Q _ _ k23_r11.eq_1) := Eo_of k23_r11.eq_1
def k23_r12 : List COp := [
  ⟨some 15, .move (.tmp 3), none, true⟩,
  ⟨some 16, .build 24 #[(0, .tmp 15)], none, true⟩,
  ⟨none, .store 24 (.tmp 2) (.tmp 16), none, true⟩]
theorem k23_r12_e : type_of% (@Eo_of P pr N e σ Q _ _ k23_r12.eq_1) := Eo_of k23_r12.eq_1
def k23 : CC := (.seq (.region k23_r0) (.seq (.region k23_r1) (.seq (.seq (.region k23_r2) (.cond (.tmp 5) (.region k23_r3) (.seq (.region k23_r4) (.cond (.tmp 7) (.region k23_r5) (.seq (.region k23_r6) (.cond (.tmp 9) (.region k23_r7) (.seq (.region k23_r8) (.cond (.tmp 12) (.region k23_r9) (.seq (.region k23_r10) (.cond (.tmp 14) (.region k23_r11) .skip)))))))))) (.seq (.region k23_r12) .ret))))
theorem k23_e : type_of% (@Ev_of P pr N e σ Q _ _ k23.eq_1) := Ev_of k23.eq_1
theorem k23_a : type_of% @k23_e ∧ type_of% @k23_r0_e ∧ type_of% @k23_r1_e ∧ type_of% @k23_r2_e ∧ type_of% @k23_r3_e ∧ type_of% @k23_r4_e ∧ type_of% @k23_r5_e ∧ type_of% @k23_r6_e ∧ type_of% @k23_r7_e ∧ type_of% @k23_r8_e ∧ type_of% @k23_r9_e ∧ type_of% @k23_r10_e ∧ type_of% @k23_r11_e ∧ type_of% @k23_r12_e := ⟨@k23_e, @k23_r0_e, @k23_r1_e, @k23_r2_e, @k23_r3_e, @k23_r4_e, @k23_r5_e, @k23_r6_e, @k23_r7_e, @k23_r8_e, @k23_r9_e, @k23_r10_e, @k23_r11_e, @k23_r12_e⟩
/-- quern/quernref09.Zero -/
theorem k23_is : FnIs Try.prog prims 23 17 [ResultVar.cell 2 24] k23 := FnIs.of_fn Try.func23 (by kernel_rfl) rfl
def k24_r0 : List COp := [
  ⟨some 2, .box 24 (.tmp 0), none, true⟩,
  ⟨some 4, .assign (.const (.bool false)), none, true⟩]
theorem k24_r0_e : type_of% (@Eo_of P pr N e σ Q _ _ k24_r0.eq_1) := Eo_of k24_r0.eq_1
def k24_r1 : List COp := [
  ⟨some 5, .move (.tmp 1), none, true⟩,
  ⟨some 6, .call { callee := .value (.func 52), args := #[.tmp 5], argTypes := #[9] }, none, true⟩,
  ⟨some 7, .move (.tmp 6), none, true⟩,
  ⟨some 8, .load 24 (.tmp 2), some (7, true), true⟩,
  ⟨some 9, .call { callee := .value (.func 28), args := #[.tmp 8], argTypes := #[24] }, some (7, true), true⟩,
  ⟨some 10, .binOp .leq 3 (.tmp 9) (.const (.int .i64 16384)) 3, some (7, true), true⟩,
  ⟨some 11, .pick (.tmp 7) (.tmp 10) (.const (.bool false)), none, true⟩,
  ⟨some 12, .move (.tmp 11), none, true⟩,
  ⟨some 13, .load 24 (.tmp 2), some (12, true), true⟩,
  ⟨some 14, .move (.tmp 1), some (12, true), true⟩,
  ⟨some 15, .call { callee := .value (.func 54), args := #[.tmp 13, .tmp 14], argTypes := #[24, 9] }, some (12, true), true⟩,
  ⟨some 16, .pick (.tmp 12) (.tmp 15) (.const (.bool false)), none, true⟩,
  ⟨some 4, .assign (.tmp 16), none, true⟩]
theorem k24_r1_e : type_of% (@Eo_of P pr N e σ Q _ _ k24_r1.eq_1) := Eo_of k24_r1.eq_1
def k24 : CC := (.seq (.region k24_r0) (.seq (.region k24_r1) .ret))
theorem k24_e : type_of% (@Ev_of P pr N e σ Q _ _ k24.eq_1) := Ev_of k24.eq_1
theorem k24_a : type_of% @k24_e ∧ type_of% @k24_r0_e ∧ type_of% @k24_r1_e := ⟨@k24_e, @k24_r0_e, @k24_r1_e⟩
/-- quern/value.Fits -/
theorem k24_is : FnIs Try.prog prims 24 17 [ResultVar.tmp 4] k24 := FnIs.of_fn Try.func24 (by kernel_rfl) rfl
def k25_r0 : List COp := [
  ⟨some 2, .box 24 (.tmp 0), none, true⟩,
  ⟨some 4, .assign (.const (.bool false)), none, true⟩]
theorem k25_r0_e : type_of% (@Eo_of P pr N e σ Q _ _ k25_r0.eq_1) := Eo_of k25_r0.eq_1
def k25_r1 : List COp := [
  ⟨some 5, .move (.tmp 1), none, true⟩,
  ⟨some 6, .call { callee := .value (.func 34), args := #[.tmp 5], argTypes := #[9] }, none, true⟩,
  ⟨some 7, .move (.tmp 6), none, true⟩,
  ⟨some 8, .load 24 (.tmp 2), some (7, true), true⟩,
  ⟨some 9, .call { callee := .value (.func 29), args := #[.tmp 8], argTypes := #[24] }, some (7, true), true⟩,
  ⟨some 10, .binOp .leq 3 (.tmp 9) (.const (.int .i64 16384)) 3, some (7, true), true⟩,
  ⟨some 11, .pick (.tmp 7) (.tmp 10) (.const (.bool false)), none, true⟩,
  ⟨some 12, .move (.tmp 11), none, true⟩,
  ⟨some 13, .load 24 (.tmp 2), some (12, true), true⟩,
  ⟨some 14, .move (.tmp 1), some (12, true), true⟩,
  ⟨some 15, .call { callee := .value (.func 55), args := #[.tmp 13, .tmp 14], argTypes := #[24, 9] }, some (12, true), true⟩,
  ⟨some 16, .pick (.tmp 12) (.tmp 15) (.const (.bool false)), none, true⟩,
  ⟨some 4, .assign (.tmp 16), none, true⟩]
theorem k25_r1_e : type_of% (@Eo_of P pr N e σ Q _ _ k25_r1.eq_1) := Eo_of k25_r1.eq_1
def k25 : CC := (.seq (.region k25_r0) (.seq (.region k25_r1) .ret))
theorem k25_e : type_of% (@Ev_of P pr N e σ Q _ _ k25.eq_1) := Ev_of k25.eq_1
theorem k25_a : type_of% @k25_e ∧ type_of% @k25_r0_e ∧ type_of% @k25_r1_e := ⟨@k25_e, @k25_r0_e, @k25_r1_e⟩
/-- quern/quernref09.Fits -/
theorem k25_is : FnIs Try.prog prims 25 17 [ResultVar.tmp 4] k25 := FnIs.of_fn Try.func25 (by kernel_rfl) rfl
def k26_r0 : List COp := [
  ⟨some 2, .box 24 (.tmp 0), none, true⟩,
  ⟨some 3, .box 24 (.tmp 1), none, true⟩,
  ⟨some 4, .assign (.const (.int .i64 0)), none, true⟩]
theorem k26_r0_e : type_of% (@Eo_of P pr N e σ Q _ _ k26_r0.eq_1) := Eo_of k26_r0.eq_1
def k26_r1 : CC := (.wregion [
  (true, ⟨some 5, .fieldAddr 24 (.tmp 2) 0, none, false⟩),
  (false, ⟨some 6, .load 3 (.tmp 5), none, false⟩),
  (false, ⟨some 7, .fieldAddr 24 (.tmp 3) 0, none, false⟩),
  (false, ⟨some 8, .load 3 (.tmp 7), none, false⟩),
  (false, ⟨some 9, .call { callee := .value (.func 57), args := #[.tmp 6, .tmp 8], argTypes := #[3, 3] }, none, false⟩),
  (true, ⟨some 10, .fieldAddr 24 (.tmp 2) 1, none, false⟩),
  (true, ⟨some 11, .load 3 (.tmp 10), none, false⟩),
  (false, ⟨some 12, .fieldAddr 24 (.tmp 3) 1, none, false⟩),
  (true, ⟨some 13, .load 3 (.tmp 12), none, false⟩),
  (false, ⟨some 14, .call { callee := .value (.func 57), args := #[.tmp 11, .tmp 13], argTypes := #[3, 3] }, none, false⟩),
  (true, ⟨some 15, .fieldAddr 24 (.tmp 2) 2, none, false⟩),
  (true, ⟨some 16, .load 9 (.tmp 15), none, false⟩),
  (false, ⟨some 17, .fieldAddr 24 (.tmp 3) 2, none, false⟩),
  (true, ⟨some 18, .load 9 (.tmp 17), none, false⟩),
  (false, ⟨some 19, .call { callee := .value (.func 58), args := #[.tmp 16, .tmp 18], argTypes := #[9, 9] }, none, false⟩),
  (true, ⟨some 20, .fieldAddr 24 (.tmp 2) 3, none, false⟩),
  (true, ⟨some 21, .load 22 (.tmp 20), none, false⟩),
  (false, ⟨some 22, .fieldAddr 24 (.tmp 3) 3, none, true⟩),
  (true, ⟨some 23, .load 22 (.tmp 22), none, true⟩),
  (false, ⟨some 24, .call { callee := .value (.func 59), args := #[.tmp 21, .tmp 23, .func 26], argTypes := #[22, 22, 41] }, none, true⟩),
  (false, ⟨some 25, .buildSlice 86 4 #[(0, .tmp 9), (1, .tmp 14), (2, .tmp 19), (3, .tmp 24)], none, true⟩),
  (false, ⟨some 26, .call { callee := .value (.func 56), args := #[.tmp 25], argTypes := #[86] }, none, true⟩),
  (false, ⟨some 4, .assign (.tmp 26), none, true⟩)] false [(6, ⟨some 11, .load 3 (.tmp 10), none, false⟩, [0, 5]), (8, ⟨some 13, .load 3 (.tmp 12), none, false⟩, [0, 5]), (11, ⟨some 16, .load 9 (.tmp 15), none, false⟩, [0, 5, 10]), (13, ⟨some 18, .load 9 (.tmp 17), none, false⟩, [0, 5, 10]), (16, ⟨some 21, .load 22 (.tmp 20), none, false⟩, [0, 5, 10, 15]), (18, ⟨some 23, .load 22 (.tmp 22), none, true⟩, [0, 5, 10, 15])])
theorem k26_r1_e : type_of% (@Ev_of P pr N e σ Q _ _ k26_r1.eq_1) := Ev_of k26_r1.eq_1
def k26 : CC := (.seq (.region k26_r0) (.seq k26_r1 .ret))
theorem k26_e : type_of% (@Ev_of P pr N e σ Q _ _ k26.eq_1) := Ev_of k26.eq_1
theorem k26_a : type_of% @k26_e ∧ type_of% @k26_r0_e ∧ type_of% @k26_r1_e := ⟨@k26_e, @k26_r0_e, @k26_r1_e⟩
/-- quern/value.Compare -/
theorem k26_is : FnIs Try.prog prims 26 27 [ResultVar.tmp 4] k26 := FnIs.of_fn Try.func26 (by kernel_rfl) rfl
def k27_r0 : List COp := [
  ⟨some 2, .box 24 (.tmp 0), none, true⟩,
  ⟨some 3, .box 24 (.tmp 1), none, true⟩,
  ⟨some 4, .assign (.const (.int .i64 0)), none, true⟩]
theorem k27_r0_e : type_of% (@Eo_of P pr N e σ Q _ _ k27_r0.eq_1) := Eo_of k27_r0.eq_1
def k27_r1 : List COp := [
  ⟨some 7, .fieldAddr 24 (.tmp 2) 0, none, true⟩,
  ⟨some 8, .load 3 (.tmp 7), none, true⟩,
  ⟨some 9, .fieldAddr 24 (.tmp 3) 0, none, true⟩,
  ⟨some 10, .load 3 (.tmp 9), none, true⟩,
  ⟨some 11, .binOp .neq 3 (.tmp 8) (.tmp 10) 3, none, true⟩]
theorem k27_r1_e : type_of% (@Eo_of P pr N e σ Q _ _ k27_r1.eq_1) := Eo_of k27_r1.eq_1
def k27_r2 : List COp := [
  ⟨some 12, .fieldAddr 24 (.tmp 2) 0, none, true⟩,
  ⟨some 13, .load 3 (.tmp 12), none, true⟩,
  ⟨some 14, .fieldAddr 24 (.tmp 3) 0, none, true⟩,
  ⟨some 15, .load 3 (.tmp 14), none, true⟩,
  ⟨some 16, .binOp .lss 3 (.tmp 13) (.tmp 15) 3, none, true⟩]
theorem k27_r2_e : type_of% (@Eo_of P pr N e σ Q _ _ k27_r2.eq_1) := Eo_of k27_r2.eq_1
def k27_r3 : List COp := [
  ⟨some 4, .assign (.const (.int .i64 (-1))), none, true⟩]
theorem k27_r3_e : type_of% (@Eo_of P pr N e σ Q _ _ k27_r3.eq_1) := Eo_of k27_r3.eq_1
def k27_r4 : List COp := [
  ⟨some 4, .assign (.const (.int .i64 1)), none, true⟩]
theorem k27_r4_e : type_of% (@Eo_of P pr N e σ Q _ _ k27_r4.eq_1) := Eo_of k27_r4.eq_1
def k27_r5 : List COp := [
  ⟨some 17, .fieldAddr 24 (.tmp 2) 1, none, true⟩,
  ⟨some 18, .load 3 (.tmp 17), none, true⟩,
  ⟨some 19, .fieldAddr 24 (.tmp 3) 1, none, true⟩,
  ⟨some 20, .load 3 (.tmp 19), none, true⟩,
  ⟨some 21, .binOp .neq 3 (.tmp 18) (.tmp 20) 3, none, true⟩]
theorem k27_r5_e : type_of% (@Eo_of P pr N e σ Q _ _ k27_r5.eq_1) := Eo_of k27_r5.eq_1
def k27_r6 : List COp := [
  ⟨some 22, .fieldAddr 24 (.tmp 2) 1, none, true⟩,
  ⟨some 23, .load 3 (.tmp 22), none, true⟩,
  ⟨some 24, .fieldAddr 24 (.tmp 3) 1, none, true⟩,
  ⟨some 25, .load 3 (.tmp 24), none, true⟩,
  ⟨some 26, .binOp .lss 3 (.tmp 23) (.tmp 25) 3, none, true⟩]
theorem k27_r6_e : type_of% (@Eo_of P pr N e σ Q _ _ k27_r6.eq_1) := Eo_of k27_r6.eq_1
def k27_r7 : List COp := [
  ⟨some 4, .assign (.const (.int .i64 (-1))), none, true⟩]
theorem k27_r7_e : type_of% (@Eo_of P pr N e σ Q _ _ k27_r7.eq_1) := Eo_of k27_r7.eq_1
def k27_r8 : List COp := [
  ⟨some 4, .assign (.const (.int .i64 1)), none, true⟩]
theorem k27_r8_e : type_of% (@Eo_of P pr N e σ Q _ _ k27_r8.eq_1) := Eo_of k27_r8.eq_1
def k27_r9 : List COp := [
  ⟨some 27, .fieldAddr 24 (.tmp 2) 2, none, true⟩,
  ⟨some 28, .load 9 (.tmp 27), none, true⟩,
  ⟨some 29, .fieldAddr 24 (.tmp 3) 2, none, true⟩,
  ⟨some 30, .load 9 (.tmp 29), none, true⟩,
  ⟨some 31, .binOp .neq 9 (.tmp 28) (.tmp 30) 9, none, true⟩]
theorem k27_r9_e : type_of% (@Eo_of P pr N e σ Q _ _ k27_r9.eq_1) := Eo_of k27_r9.eq_1
def k27_r10 : List COp := [
  ⟨some 32, .fieldAddr 24 (.tmp 2) 2, none, true⟩,
  ⟨some 33, .load 9 (.tmp 32), none, true⟩,
  ⟨some 34, .fieldAddr 24 (.tmp 3) 2, none, true⟩,
  ⟨some 35, .load 9 (.tmp 34), none, true⟩,
  ⟨some 36, .binOp .lss 9 (.tmp 33) (.tmp 35) 9, none, true⟩]
theorem k27_r10_e : type_of% (@Eo_of P pr N e σ Q _ _ k27_r10.eq_1) := Eo_of k27_r10.eq_1
def k27_r11 : List COp := [
  ⟨some 4, .assign (.const (.int .i64 (-1))), none, true⟩]
theorem k27_r11_e : type_of% (@Eo_of P pr N e σ Q _ _ k27_r11.eq_1) := Eo_of k27_r11.eq_1
def k27_r12 : List COp := [
  ⟨some 4, .assign (.const (.int .i64 1)), none, true⟩]
theorem k27_r12_e : type_of% (@Eo_of P pr N e σ Q _ _ k27_r12.eq_1) := Eo_of k27_r12.eq_1
def k27_r13 : List COp := [
  ⟨some 5, .assign (.const (.int .i64 0)), none, true⟩]
theorem k27_r13_e : type_of% (@Eo_of P pr N e σ Q _ _ k27_r13.eq_1) := Eo_of k27_r13.eq_1
def k27_r14 : List COp := [
  ⟨some 37, .move (.tmp 5), none, true⟩,
  ⟨some 38, .fieldAddr 24 (.tmp 2) 3, none, true⟩,
  ⟨some 39, .load 22 (.tmp 38), none, true⟩,
  ⟨some 40, .call { callee := .builtin .len, args := #[.tmp 39], argTypes := #[22] }, none, true⟩,
  ⟨some 41, .binOp .lss 3 (.tmp 37) (.tmp 40) 3, none, true⟩,
  ⟨some 42, .move (.tmp 41), none, true⟩,
  ⟨some 43, .move (.tmp 5), some (42, true), true⟩,
  ⟨some 44, .fieldAddr 24 (.tmp 3) 3, some (42, true), true⟩,
  ⟨some 45, .load 22 (.tmp 44), some (42, true), true⟩,
  ⟨some 46, .call { callee := .builtin .len, args := #[.tmp 45], argTypes := #[22] }, some (42, true), true⟩,
  ⟨some 47, .binOp .lss 3 (.tmp 43) (.tmp 46) 3, some (42, true), true⟩,
  ⟨some 48, .pick (.tmp 42) (.tmp 47) (.const (.bool false)), none, true⟩]
theorem k27_r14_e : type_of% (@Eo_of P pr N e σ Q _ _ k27_r14.eq_1) := Eo_of k27_r14.eq_1
def k27_r16 : List COp := [
  ⟨some 51, .fieldAddr 24 (.tmp 2) 3, none, false⟩,
  ⟨some 52, .load 22 (.tmp 51), none, false⟩,
  ⟨some 53, .move (.tmp 5), none, false⟩,
  ⟨some 54, .indexAddr 22 (.tmp 52) (.tmp 53), none, false⟩,
  ⟨some 55, .load 24 (.tmp 54), none, false⟩,
  ⟨some 56, .fieldAddr 24 (.tmp 3) 3, none, false⟩,
  ⟨some 57, .load 22 (.tmp 56), none, false⟩,
  ⟨some 58, .move (.tmp 5), none, true⟩,
  ⟨some 59, .indexAddr 22 (.tmp 57) (.tmp 58), none, true⟩,
  ⟨some 60, .load 24 (.tmp 59), none, true⟩,
  ⟨some 61, .call { callee := .value (.func 27), args := #[.tmp 55, .tmp 60], argTypes := #[24, 24] }, none, true⟩,
  ⟨some 6, .assign (.tmp 61), none, true⟩]
theorem k27_r16_e : type_of% (@Eo_of P pr N e σ Q _ _ k27_r16.eq_1) := Eo_of k27_r16.eq_1
def k27_r17 : List COp := [
  ⟨some 62, .move (.tmp 6), none, true⟩,
  ⟨some 63, .binOp .neq 3 (.tmp 62) (.const (.int .i64 0)) 3, none, true⟩]
theorem k27_r17_e : type_of% (@Eo_of P pr N e σ Q _ _ k27_r17.eq_1) := Eo_of k27_r17.eq_1
def k27_r18 : List COp := [
  ⟨some 64, .move (.tmp 6), none, true⟩,
  ⟨some 4, .assign (.tmp 64), none, true⟩]
theorem k27_r18_e : type_of% (@Eo_of P pr N e σ Q _ _ k27_r18.eq_1) := Eo_of k27_r18.eq_1
def k27_r15 : List COp := [
  ⟨some 49, .move (.tmp 5), none, true⟩,
  ⟨some 50, .binOp .add 3 (.tmp 49) (.const (.int .i64 1)) 3, none, true⟩,
  ⟨some 5, .assign (.tmp 50), none, true⟩]
theorem k27_r15_e : type_of% (@Eo_of P pr N e σ Q _ _ k27_r15.eq_1) := Eo_of k27_r15.eq_1
def k27_l0 : CC := (.seq (.seq (.region k27_r14) (.cond (.tmp 48) .skip (.exit 0))) (.seq (.block 1 (.seq (.region k27_r16) (.seq (.region k27_r17) (.cond (.tmp 63) (.seq (.region k27_r18) .ret) .skip)))) (.region k27_r15)))
theorem k27_l0_e : type_of% (@Ev_of P pr N e σ Q _ _ k27_l0.eq_1) := Ev_of k27_l0.eq_1
def k27_r19 : List COp := [
  ⟨some 65, .fieldAddr 24 (.tmp 2) 3, none, true⟩,
  ⟨some 66, .load 22 (.tmp 65), none, true⟩,
  ⟨some 67, .call { callee := .builtin .len, args := #[.tmp 66], argTypes := #[22] }, none, true⟩,
  ⟨some 68, .fieldAddr 24 (.tmp 3) 3, none, true⟩,
  ⟨some 69, .load 22 (.tmp 68), none, true⟩,
  ⟨some 70, .call { callee := .builtin .len, args := #[.tmp 69], argTypes := #[22] }, none, true⟩,
  ⟨some 71, .binOp .lss 3 (.tmp 67) (.tmp 70) 3, none, true⟩]
theorem k27_r19_e : type_of% (@Eo_of P pr N e σ Q _ _ k27_r19.eq_1) := Eo_of k27_r19.eq_1
def k27_r20 : List COp := [
  ⟨some 4, .assign (.const (.int .i64 (-1))), none, true⟩]
theorem k27_r20_e : type_of% (@Eo_of P pr N e σ Q _ _ k27_r20.eq_1) := Eo_of k27_r20.eq_1
def k27_r21 : List COp := [
  ⟨some 72, .fieldAddr 24 (.tmp 2) 3, none, true⟩,
  ⟨some 73, .load 22 (.tmp 72), none, true⟩,
  ⟨some 74, .call { callee := .builtin .len, args := #[.tmp 73], argTypes := #[22] }, none, true⟩,
  ⟨some 75, .fieldAddr 24 (.tmp 3) 3, none, true⟩,
  ⟨some 76, .load 22 (.tmp 75), none, true⟩,
  ⟨some 77, .call { callee := .builtin .len, args := #[.tmp 76], argTypes := #[22] }, none, true⟩,
  ⟨some 78, .binOp .gtr 3 (.tmp 74) (.tmp 77) 3, none, true⟩]
theorem k27_r21_e : type_of% (@Eo_of P pr N e σ Q _ _ k27_r21.eq_1) := Eo_of k27_r21.eq_1
def k27_r22 : List COp := [
  ⟨some 4, .assign (.const (.int .i64 1)), none, true⟩]
theorem k27_r22_e : type_of% (@Eo_of P pr N e σ Q _ _ k27_r22.eq_1) := Eo_of k27_r22.eq_1
def k27_r23 : List COp := [
  ⟨some 4, .assign (.const (.int .i64 0)), none, true⟩]
theorem k27_r23_e : type_of% (@Eo_of P pr N e σ Q _ _ k27_r23.eq_1) := Eo_of k27_r23.eq_1
def k27 : CC := (.seq (.region k27_r0) (.seq (.seq (.region k27_r1) (.cond (.tmp 11) (.seq (.seq (.region k27_r2) (.cond (.tmp 16) (.seq (.region k27_r3) .ret) .skip)) (.seq (.region k27_r4) .ret)) .skip)) (.seq (.seq (.region k27_r5) (.cond (.tmp 21) (.seq (.seq (.region k27_r6) (.cond (.tmp 26) (.seq (.region k27_r7) .ret) .skip)) (.seq (.region k27_r8) .ret)) .skip)) (.seq (.seq (.region k27_r9) (.cond (.tmp 31) (.seq (.seq (.region k27_r10) (.cond (.tmp 36) (.seq (.region k27_r11) .ret) .skip)) (.seq (.region k27_r12) .ret)) .skip)) (.seq (.seq (.region k27_r13) (.block 0 (.loop k27_l0))) (.seq (.seq (.region k27_r19) (.cond (.tmp 71) (.seq (.region k27_r20) .ret) .skip)) (.seq (.seq (.region k27_r21) (.cond (.tmp 78) (.seq (.region k27_r22) .ret) .skip)) (.seq (.region k27_r23) .ret))))))))
theorem k27_e : type_of% (@Ev_of P pr N e σ Q _ _ k27.eq_1) := Ev_of k27.eq_1
theorem k27_a : type_of% @k27_e ∧ type_of% @k27_r0_e ∧ type_of% @k27_r1_e ∧ type_of% @k27_r2_e ∧ type_of% @k27_r3_e ∧ type_of% @k27_r4_e ∧ type_of% @k27_r5_e ∧ type_of% @k27_r6_e ∧ type_of% @k27_r7_e ∧ type_of% @k27_r8_e ∧ type_of% @k27_r9_e ∧ type_of% @k27_r10_e ∧ type_of% @k27_r11_e ∧ type_of% @k27_r12_e ∧ type_of% @k27_r13_e ∧ type_of% @k27_r14_e ∧ type_of% @k27_r16_e ∧ type_of% @k27_r17_e ∧ type_of% @k27_r18_e ∧ type_of% @k27_r15_e ∧ type_of% @k27_l0_e ∧ type_of% @k27_r19_e ∧ type_of% @k27_r20_e ∧ type_of% @k27_r21_e ∧ type_of% @k27_r22_e ∧ type_of% @k27_r23_e := ⟨@k27_e, @k27_r0_e, @k27_r1_e, @k27_r2_e, @k27_r3_e, @k27_r4_e, @k27_r5_e, @k27_r6_e, @k27_r7_e, @k27_r8_e, @k27_r9_e, @k27_r10_e, @k27_r11_e, @k27_r12_e, @k27_r13_e, @k27_r14_e, @k27_r16_e, @k27_r17_e, @k27_r18_e, @k27_r15_e, @k27_l0_e, @k27_r19_e, @k27_r20_e, @k27_r21_e, @k27_r22_e, @k27_r23_e⟩
/-- quern/quernref09.Compare -/
theorem k27_is : FnIs Try.prog prims 27 79 [ResultVar.tmp 4] k27 := FnIs.of_fn Try.func27 (by kernel_rfl) rfl
def k28_r0 : List COp := [
  ⟨some 1, .box 24 (.tmp 0), none, true⟩,
  ⟨some 2, .assign (.const (.int .i64 0)), none, true⟩]
theorem k28_r0_e : type_of% (@Eo_of P pr N e σ Q _ _ k28_r0.eq_1) := Eo_of k28_r0.eq_1
def k28_r1 : List COp := [
  ⟨some 6, .fieldAddr 24 (.tmp 1) 2, none, true⟩,
  ⟨some 7, .load 9 (.tmp 6), none, true⟩,
  ⟨some 8, .call { callee := .builtin .len, args := #[.tmp 7], argTypes := #[9] }, none, true⟩,
  ⟨some 9, .binOp .add 3 (.const (.int .i64 1)) (.tmp 8) 3, none, true⟩,
  ⟨some 3, .assign (.tmp 9), none, true⟩]
theorem k28_r1_e : type_of% (@Eo_of P pr N e σ Q _ _ k28_r1.eq_1) := Eo_of k28_r1.eq_1
def k28_r2 : List COp := [
  ⟨some 10, .fieldAddr 24 (.tmp 1) 3, none, true⟩,
  ⟨some 11, .load 22 (.tmp 10), none, true⟩,
  ⟨some 12, .call { callee := .builtin .len, args := #[.tmp 11], argTypes := #[22] }, none, true⟩,
  ⟨some 13, .move (.const (.int .i64 0)), none, true⟩]
theorem k28_r2_e : type_of% (@Eo_of P pr N e σ Q _ _ k28_r2.eq_1) := Eo_of k28_r2.eq_1
def k28_r3 : List COp := [
  ⟨some 14, .binOp .lss 3 (.tmp 13) (.tmp 12) 3, none, true⟩]
theorem k28_r3_e : type_of% (@Eo_of P pr N e σ Q _ _ k28_r3.eq_1) := Eo_of k28_r3.eq_1
def k28_r4 : List COp := [
  ⟨some 15, .indexAddr 22 (.tmp 11) (.tmp 13), none, true⟩,
  ⟨some 16, .load 24 (.tmp 15), none, true⟩,
  ⟨some 5, .alloc 24, none, true⟩,
  ⟨none, .store 24 (.tmp 5) (.tmp 16), none, true⟩]
theorem k28_r4_e : type_of% (@Eo_of P pr N e σ Q _ _ k28_r4.eq_1) := Eo_of k28_r4.eq_1
def k28_r5 : List COp := [
  ⟨some 17, .move (.tmp 3), none, true⟩,
  ⟨some 18, .load 24 (.tmp 5), none, true⟩,
  ⟨some 19, .call { callee := .value (.func 28), args := #[.tmp 18], argTypes := #[24] }, none, true⟩,
  ⟨some 20, .binOp .add 3 (.tmp 17) (.tmp 19) 3, none, true⟩,
  ⟨some 3, .assign (.tmp 20), none, true⟩]
theorem k28_r5_e : type_of% (@Eo_of P pr N e σ Q _ _ k28_r5.eq_1) := Eo_of k28_r5.eq_1
def k28_r6 : List COp := [
  ⟨some 21, .binOp .add 3 (.tmp 13) (.const (.int .i64 1)) 3, none, true⟩,
  ⟨some 13, .move (.tmp 21), none, true⟩]
theorem k28_r6_e : type_of% (@Eo_of P pr N e σ Q _ _ k28_r6.eq_1) := Eo_of k28_r6.eq_1
def k28_l0 : CC := (.seq (.region k28_r3) (.seq (.cond (.tmp 14) .skip (.exit 0)) (.seq (.block 1 (.seq (.region k28_r4) (.region k28_r5))) (.region k28_r6))))
theorem k28_l0_e : type_of% (@Ev_of P pr N e σ Q _ _ k28_l0.eq_1) := Ev_of k28_l0.eq_1
def k28_r7 : List COp := [
  ⟨some 22, .move (.tmp 3), none, true⟩,
  ⟨some 2, .assign (.tmp 22), none, true⟩]
theorem k28_r7_e : type_of% (@Eo_of P pr N e σ Q _ _ k28_r7.eq_1) := Eo_of k28_r7.eq_1
def k28 : CC := (.seq (.region k28_r0) (.seq (.region k28_r1) (.seq (.seq (.region k28_r2) (.block 0 (.loop k28_l0))) (.seq (.region k28_r7) .ret))))
theorem k28_e : type_of% (@Ev_of P pr N e σ Q _ _ k28.eq_1) := Ev_of k28.eq_1
theorem k28_a : type_of% @k28_e ∧ type_of% @k28_r0_e ∧ type_of% @k28_r1_e ∧ type_of% @k28_r2_e ∧ type_of% @k28_r3_e ∧ type_of% @k28_r4_e ∧ type_of% @k28_r5_e ∧ type_of% @k28_r6_e ∧ type_of% @k28_l0_e ∧ type_of% @k28_r7_e := ⟨@k28_e, @k28_r0_e, @k28_r1_e, @k28_r2_e, @k28_r3_e, @k28_r4_e, @k28_r5_e, @k28_r6_e, @k28_l0_e, @k28_r7_e⟩
/-- quern/value.Weight -/
theorem k28_is : FnIs Try.prog prims 28 23 [ResultVar.tmp 2] k28 := FnIs.of_fn Try.func28 (by kernel_rfl) rfl
def k29_r0 : List COp := [
  ⟨some 1, .box 24 (.tmp 0), none, true⟩,
  ⟨some 2, .assign (.const (.int .i64 0)), none, true⟩]
theorem k29_r0_e : type_of% (@Eo_of P pr N e σ Q _ _ k29_r0.eq_1) := Eo_of k29_r0.eq_1
def k29_r1 : List COp := [
  ⟨some 6, .fieldAddr 24 (.tmp 1) 2, none, true⟩,
  ⟨some 7, .load 9 (.tmp 6), none, true⟩,
  ⟨some 8, .call { callee := .builtin .len, args := #[.tmp 7], argTypes := #[9] }, none, true⟩,
  ⟨some 9, .binOp .add 3 (.const (.int .i64 1)) (.tmp 8) 3, none, true⟩,
  ⟨some 3, .assign (.tmp 9), none, true⟩]
theorem k29_r1_e : type_of% (@Eo_of P pr N e σ Q _ _ k29_r1.eq_1) := Eo_of k29_r1.eq_1
def k29_r2 : List COp := [
  ⟨some 10, .fieldAddr 24 (.tmp 1) 3, none, true⟩,
  ⟨some 11, .load 22 (.tmp 10), none, true⟩,
  ⟨some 12, .call { callee := .builtin .len, args := #[.tmp 11], argTypes := #[22] }, none, true⟩,
  ⟨some 13, .move (.const (.int .i64 0)), none, true⟩]
theorem k29_r2_e : type_of% (@Eo_of P pr N e σ Q _ _ k29_r2.eq_1) := Eo_of k29_r2.eq_1
def k29_r3 : List COp := [
  ⟨some 14, .binOp .lss 3 (.tmp 13) (.tmp 12) 3, none, true⟩]
theorem k29_r3_e : type_of% (@Eo_of P pr N e σ Q _ _ k29_r3.eq_1) := Eo_of k29_r3.eq_1
def k29_r4 : List COp := [
  ⟨some 15, .indexAddr 22 (.tmp 11) (.tmp 13), none, true⟩,
  ⟨some 16, .load 24 (.tmp 15), none, true⟩,
  ⟨some 5, .alloc 24, none, true⟩,
  ⟨none, .store 24 (.tmp 5) (.tmp 16), none, true⟩]
theorem k29_r4_e : type_of% (@Eo_of P pr N e σ Q _ _ k29_r4.eq_1) := Eo_of k29_r4.eq_1
def k29_r5 : List COp := [
  ⟨some 17, .move (.tmp 3), none, true⟩,
  ⟨some 18, .load 24 (.tmp 5), none, true⟩,
  ⟨some 19, .call { callee := .value (.func 29), args := #[.tmp 18], argTypes := #[24] }, none, true⟩,
  ⟨some 20, .binOp .add 3 (.tmp 17) (.tmp 19) 3, none, true⟩,
  ⟨some 3, .assign (.tmp 20), none, true⟩]
theorem k29_r5_e : type_of% (@Eo_of P pr N e σ Q _ _ k29_r5.eq_1) := Eo_of k29_r5.eq_1
def k29_r6 : List COp := [
  ⟨some 21, .binOp .add 3 (.tmp 13) (.const (.int .i64 1)) 3, none, true⟩,
  ⟨some 13, .move (.tmp 21), none, true⟩]
theorem k29_r6_e : type_of% (@Eo_of P pr N e σ Q _ _ k29_r6.eq_1) := Eo_of k29_r6.eq_1
def k29_l0 : CC := (.seq (.region k29_r3) (.seq (.cond (.tmp 14) .skip (.exit 0)) (.seq (.block 1 (.seq (.region k29_r4) (.region k29_r5))) (.region k29_r6))))
theorem k29_l0_e : type_of% (@Ev_of P pr N e σ Q _ _ k29_l0.eq_1) := Ev_of k29_l0.eq_1
def k29_r7 : List COp := [
  ⟨some 22, .move (.tmp 3), none, true⟩,
  ⟨some 2, .assign (.tmp 22), none, true⟩]
theorem k29_r7_e : type_of% (@Eo_of P pr N e σ Q _ _ k29_r7.eq_1) := Eo_of k29_r7.eq_1
def k29 : CC := (.seq (.region k29_r0) (.seq (.region k29_r1) (.seq (.seq (.region k29_r2) (.block 0 (.loop k29_l0))) (.seq (.region k29_r7) .ret))))
theorem k29_e : type_of% (@Ev_of P pr N e σ Q _ _ k29.eq_1) := Ev_of k29.eq_1
theorem k29_a : type_of% @k29_e ∧ type_of% @k29_r0_e ∧ type_of% @k29_r1_e ∧ type_of% @k29_r2_e ∧ type_of% @k29_r3_e ∧ type_of% @k29_r4_e ∧ type_of% @k29_r5_e ∧ type_of% @k29_r6_e ∧ type_of% @k29_l0_e ∧ type_of% @k29_r7_e := ⟨@k29_e, @k29_r0_e, @k29_r1_e, @k29_r2_e, @k29_r3_e, @k29_r4_e, @k29_r5_e, @k29_r6_e, @k29_l0_e, @k29_r7_e⟩
/-- quern/quernref09.Weight -/
theorem k29_is : FnIs Try.prog prims 29 23 [ResultVar.tmp 2] k29 := FnIs.of_fn Try.func29 (by kernel_rfl) rfl
def k30_r0 : List COp := [
  ⟨some 2, .box 24 (.tmp 0), none, true⟩,
  ⟨some 4, .assign (.const (.slice .none 0 0)), none, true⟩,
  ⟨some 5, .assign (.const (.int .i64 0)), none, true⟩]
theorem k30_r0_e : type_of% (@Eo_of P pr N e σ Q _ _ k30_r0.eq_1) := Eo_of k30_r0.eq_1
def k30_r1 : List COp := [
  ⟨some 6, .load 24 (.tmp 2), none, true⟩,
  ⟨some 7, .move (.tmp 1), none, true⟩,
  ⟨some 8, .call { callee := .value (.func 24), args := #[.tmp 6, .tmp 7], argTypes := #[24, 9] }, none, true⟩,
  ⟨some 9, .unOp .not 4 (.tmp 8), none, true⟩]
theorem k30_r1_e : type_of% (@Eo_of P pr N e σ Q _ _ k30_r1.eq_1) := Eo_of k30_r1.eq_1
def k30_r2 : List COp := [
  ⟨some 4, .assign (.const (.slice .none 0 0)), none, true⟩,
  ⟨some 5, .assign (.const (.int .i64 1)), none, true⟩]
theorem k30_r2_e : type_of% (@Eo_of P pr N e σ Q _ _ k30_r2.eq_1) := Eo_of k30_r2.eq_1
def k30_r3 : List COp := [
  ⟨some 10, .load 24 (.tmp 2), none, true⟩,
  ⟨some 11, .call { callee := .value (.func 60), args := #[.const (.slice .none 0 0), .tmp 10], argTypes := #[44, 24] }, none, true⟩,
  ⟨some 4, .assign (.tmp 11), none, true⟩,
  ⟨some 5, .assign (.const (.int .i64 0)), none, true⟩]
theorem k30_r3_e : type_of% (@Eo_of P pr N e σ Q _ _ k30_r3.eq_1) := Eo_of k30_r3.eq_1
def k30 : CC := (.seq (.region k30_r0) (.seq (.seq (.region k30_r1) (.cond (.tmp 9) (.seq (.region k30_r2) .ret) .skip)) (.seq (.region k30_r3) .ret)))
theorem k30_e : type_of% (@Ev_of P pr N e σ Q _ _ k30.eq_1) := Ev_of k30.eq_1
theorem k30_a : type_of% @k30_e ∧ type_of% @k30_r0_e ∧ type_of% @k30_r1_e ∧ type_of% @k30_r2_e ∧ type_of% @k30_r3_e := ⟨@k30_e, @k30_r0_e, @k30_r1_e, @k30_r2_e, @k30_r3_e⟩
/-- quern/value.Encode -/
theorem k30_is : FnIs Try.prog prims 30 12 [ResultVar.tmp 4, ResultVar.tmp 5] k30 := FnIs.of_fn Try.func30 (by kernel_rfl) rfl
def k31_r0 : List COp := [
  ⟨some 2, .box 24 (.tmp 0), none, true⟩,
  ⟨some 4, .assign (.const (.slice .none 0 0)), none, true⟩,
  ⟨some 5, .assign (.const (.int .i64 0)), none, true⟩]
theorem k31_r0_e : type_of% (@Eo_of P pr N e σ Q _ _ k31_r0.eq_1) := Eo_of k31_r0.eq_1
def k31_r1 : List COp := [
  ⟨some 6, .load 24 (.tmp 2), none, true⟩,
  ⟨some 7, .move (.tmp 1), none, true⟩,
  ⟨some 8, .call { callee := .value (.func 25), args := #[.tmp 6, .tmp 7], argTypes := #[24, 9] }, none, true⟩,
  ⟨some 9, .unOp .not 4 (.tmp 8), none, true⟩]
theorem k31_r1_e : type_of% (@Eo_of P pr N e σ Q _ _ k31_r1.eq_1) := Eo_of k31_r1.eq_1
def k31_r2 : List COp := [
  ⟨some 4, .assign (.const (.slice .none 0 0)), none, true⟩,
  ⟨some 5, .assign (.const (.int .i64 1)), none, true⟩]
theorem k31_r2_e : type_of% (@Eo_of P pr N e σ Q _ _ k31_r2.eq_1) := Eo_of k31_r2.eq_1
def k31_r3 : List COp := [
  ⟨some 10, .load 24 (.tmp 2), none, true⟩,
  ⟨some 11, .call { callee := .value (.func 61), args := #[.tmp 10], argTypes := #[24] }, none, true⟩,
  ⟨some 4, .assign (.tmp 11), none, true⟩,
  ⟨some 5, .assign (.const (.int .i64 0)), none, true⟩]
theorem k31_r3_e : type_of% (@Eo_of P pr N e σ Q _ _ k31_r3.eq_1) := Eo_of k31_r3.eq_1
def k31 : CC := (.seq (.region k31_r0) (.seq (.seq (.region k31_r1) (.cond (.tmp 9) (.seq (.region k31_r2) .ret) .skip)) (.seq (.region k31_r3) .ret)))
theorem k31_e : type_of% (@Ev_of P pr N e σ Q _ _ k31.eq_1) := Ev_of k31.eq_1
theorem k31_a : type_of% @k31_e ∧ type_of% @k31_r0_e ∧ type_of% @k31_r1_e ∧ type_of% @k31_r2_e ∧ type_of% @k31_r3_e := ⟨@k31_e, @k31_r0_e, @k31_r1_e, @k31_r2_e, @k31_r3_e⟩
/-- quern/quernref09.Encode -/
theorem k31_is : FnIs Try.prog prims 31 12 [ResultVar.tmp 4, ResultVar.tmp 5] k31 := FnIs.of_fn Try.func31 (by kernel_rfl) rfl
def k32_r0 : List COp := [
  ⟨some 4, .alloc 24, none, true⟩,
  ⟨some 5, .assign (.const (.int .i64 0)), none, true⟩]
theorem k32_r0_e : type_of% (@Eo_of P pr N e σ Q _ _ k32_r0.eq_1) := Eo_of k32_r0.eq_1
def k32_r1 : List COp := [
  ⟨some 8, .move (.tmp 1), none, true⟩,
  ⟨some 9, .call { callee := .value (.func 52), args := #[.tmp 8], argTypes := #[9] }, none, true⟩,
  ⟨some 10, .unOp .not 4 (.tmp 9), none, true⟩]
theorem k32_r1_e : type_of% (@Eo_of P pr N e σ Q _ _ k32_r1.eq_1) := Eo_of k32_r1.eq_1
def k32_r2 : List COp := [
  ⟨some 11, .build 24 #[], none, true⟩,
  ⟨none, .store 24 (.tmp 4) (.tmp 11), none, true⟩,
  ⟨some 5, .assign (.const (.int .i64 1)), none, true⟩]
theorem k32_r2_e : type_of% (@Eo_of P pr N e σ Q _ _ k32_r2.eq_1) := Eo_of k32_r2.eq_1
def k32_r3 : List COp := [
  ⟨some 12, .move (.tmp 0), none, true⟩,
  ⟨some 13, .call { callee := .value (.func 62), args := #[.tmp 12], argTypes := #[44] }, none, true⟩,
  ⟨some 6, .assign (.tmp 13), none, true⟩]
theorem k32_r3_e : type_of% (@Eo_of P pr N e σ Q _ _ k32_r3.eq_1) := Eo_of k32_r3.eq_1
def k32_r4 : List COp := [
  ⟨some 14, .move (.tmp 6), none, true⟩,
  ⟨some 15, .move (.tmp 1), none, true⟩,
  ⟨some 16, .call { callee := .value (.func 63), args := #[.tmp 14, .tmp 15], argTypes := #[70, 9] }, none, true⟩,
  ⟨some 7, .alloc 24, none, true⟩,
  ⟨none, .store 24 (.tmp 7) (.tmp 16), none, true⟩]
theorem k32_r4_e : type_of% (@Eo_of P pr N e σ Q _ _ k32_r4.eq_1) := Eo_of k32_r4.eq_1
def k32_r5 : List COp := [
  ⟨some 17, .move (.tmp 6), none, true⟩,
  ⟨some 18, .call { callee := .value (.func 64), args := #[.tmp 17], argTypes := #[70] }, none, true⟩,
  ⟨some 19, .unOp .not 4 (.tmp 18), none, true⟩,
  ⟨some 20, .move (.tmp 19), none, true⟩,
  ⟨some 21, .load 24 (.tmp 7), some (20, false), false⟩,
  ⟨some 22, .move (.tmp 1), some (20, false), true⟩,
  ⟨some 23, .call { callee := .value (.func 24), args := #[.tmp 21, .tmp 22], argTypes := #[24, 9] }, some (20, false), true⟩,
  ⟨some 24, .unOp .not 4 (.tmp 23), some (20, false), true⟩,
  ⟨some 25, .pick (.tmp 20) (.const (.bool true)) (.tmp 24), none, true⟩,
  ⟨some 26, .move (.tmp 25), none, true⟩,
  ⟨some 27, .load 24 (.tmp 7), some (26, false), false⟩,
  ⟨some 28, .call { callee := .value (.func 60), args := #[.const (.slice .none 0 0), .tmp 27], argTypes := #[44, 24] }, some (26, false), false⟩,
  ⟨some 29, .convert 44 9 (.tmp 28), some (26, false), false⟩,
  ⟨some 30, .move (.tmp 0), some (26, false), true⟩,
  ⟨some 31, .convert 44 9 (.tmp 30), some (26, false), true⟩,
  ⟨some 32, .binOp .neq 9 (.tmp 29) (.tmp 31) 9, some (26, false), true⟩,
  ⟨some 33, .pick (.tmp 26) (.const (.bool true)) (.tmp 32), none, true⟩]
theorem k32_r5_e : type_of% (@Eo_of P pr N e σ Q _ _ k32_r5.eq_1) := Eo_of k32_r5.eq_1
def k32_r6 : List COp := [
  ⟨some 34, .build 24 #[], none, true⟩,
  ⟨none, .store 24 (.tmp 4) (.tmp 34), none, true⟩,
  ⟨some 5, .assign (.const (.int .i64 11)), none, true⟩]
theorem k32_r6_e : type_of% (@Eo_of P pr N e σ Q _ _ k32_r6.eq_1) := Eo_of k32_r6.eq_1
def k32_r7 : List COp := [
  ⟨some 35, .load 24 (.tmp 7), none, true⟩,
  ⟨none, .store 24 (.tmp 4) (.tmp 35), none, true⟩,
  ⟨some 5, .assign (.const (.int .i64 0)), none, true⟩]
theorem k32_r7_e : type_of% (@Eo_of P pr N e σ Q _ _ k32_r7.eq_1) := Eo_of k32_r7.eq_1
def k32 : CC := (.seq (.region k32_r0) (.seq (.seq (.region k32_r1) (.cond (.tmp 10) (.seq (.region k32_r2) .ret) .skip)) (.seq (.region k32_r3) (.seq (.region k32_r4) (.seq (.seq (.region k32_r5) (.cond (.tmp 33) (.seq (.region k32_r6) .ret) .skip)) (.seq (.region k32_r7) .ret))))))
theorem k32_e : type_of% (@Ev_of P pr N e σ Q _ _ k32.eq_1) := Ev_of k32.eq_1
theorem k32_a : type_of% @k32_e ∧ type_of% @k32_r0_e ∧ type_of% @k32_r1_e ∧ type_of% @k32_r2_e ∧ type_of% @k32_r3_e ∧ type_of% @k32_r4_e ∧ type_of% @k32_r5_e ∧ type_of% @k32_r6_e ∧ type_of% @k32_r7_e := ⟨@k32_e, @k32_r0_e, @k32_r1_e, @k32_r2_e, @k32_r3_e, @k32_r4_e, @k32_r5_e, @k32_r6_e, @k32_r7_e⟩
/-- quern/value.Decode -/
theorem k32_is : FnIs Try.prog prims 32 36 [ResultVar.cell 4 24, ResultVar.tmp 5] k32 := FnIs.of_fn Try.func32 (by kernel_rfl) rfl
def k33_r0 : List COp := [
  ⟨some 4, .alloc 24, none, true⟩,
  ⟨some 5, .assign (.const (.int .i64 0)), none, true⟩]
theorem k33_r0_e : type_of% (@Eo_of P pr N e σ Q _ _ k33_r0.eq_1) := Eo_of k33_r0.eq_1
def k33_r1 : List COp := [
  ⟨some 8, .move (.tmp 1), none, true⟩,
  ⟨some 9, .call { callee := .value (.func 34), args := #[.tmp 8], argTypes := #[9] }, none, true⟩,
  ⟨some 10, .unOp .not 4 (.tmp 9), none, true⟩]
theorem k33_r1_e : type_of% (@Eo_of P pr N e σ Q _ _ k33_r1.eq_1) := Eo_of k33_r1.eq_1
def k33_r2 : List COp := [
  ⟨some 11, .build 24 #[], none, true⟩,
  ⟨none, .store 24 (.tmp 4) (.tmp 11), none, true⟩,
  ⟨some 5, .assign (.const (.int .i64 1)), none, true⟩]
theorem k33_r2_e : type_of% (@Eo_of P pr N e σ Q _ _ k33_r2.eq_1) := Eo_of k33_r2.eq_1
def k33_r3 : List COp := [
  ⟨some 12, .buildSlice 44 0 #[], none, true⟩,
  ⟨some 13, .move (.tmp 0), none, true⟩,
  ⟨some 14, .call { callee := .builtin .append, args := #[.tmp 12, .tmp 13], argTypes := #[44, 44] }, none, true⟩,
  ⟨some 15, .build 75 #[(0, .tmp 14)], none, true⟩,
  ⟨some 16, .box 75 (.tmp 15), none, true⟩,
  ⟨some 6, .assign (.tmp 16), none, true⟩]
theorem k33_r3_e : type_of% (@Eo_of P pr N e σ Q _ _ k33_r3.eq_1) := Eo_of k33_r3.eq_1
def k33_r4 : List COp := [
  ⟨some 17, .move (.tmp 6), none, true⟩,
  ⟨some 18, .move (.tmp 1), none, true⟩,
  ⟨some 19, .call { callee := .value (.func 65), args := #[.tmp 17, .tmp 18], argTypes := #[73, 9] }, none, true⟩,
  ⟨some 7, .alloc 24, none, true⟩,
  ⟨none, .store 24 (.tmp 7) (.tmp 19), none, true⟩]
theorem k33_r4_e : type_of% (@Eo_of P pr N e σ Q _ _ k33_r4.eq_1) := Eo_of k33_r4.eq_1
def k33_r5 : List COp := [
  ⟨some 20, .move (.tmp 6), none, true⟩,
  ⟨some 21, .nilCheck (.tmp 20), none, true⟩,
  ⟨some 22, .fieldAddr 75 (.tmp 21) 1, none, true⟩,
  ⟨some 23, .load 4 (.tmp 22), none, true⟩,
  ⟨some 24, .move (.tmp 23), none, true⟩,
  ⟨some 25, .move (.tmp 6), some (24, false), true⟩,
  ⟨some 26, .nilCheck (.tmp 25), some (24, false), true⟩,
  ⟨some 27, .fieldAddr 75 (.tmp 26) 0, some (24, false), true⟩,
  ⟨some 28, .load 44 (.tmp 27), some (24, false), true⟩,
  ⟨some 29, .call { callee := .builtin .len, args := #[.tmp 28], argTypes := #[44] }, some (24, false), true⟩,
  ⟨some 30, .binOp .gtr 3 (.tmp 29) (.const (.int .i64 0)) 3, some (24, false), true⟩,
  ⟨some 31, .pick (.tmp 24) (.const (.bool true)) (.tmp 30), none, true⟩,
  ⟨some 32, .move (.tmp 31), none, true⟩,
  ⟨some 33, .load 24 (.tmp 7), some (32, false), true⟩,
  ⟨some 34, .move (.tmp 1), some (32, false), true⟩,
  ⟨some 35, .call { callee := .value (.func 25), args := #[.tmp 33, .tmp 34], argTypes := #[24, 9] }, some (32, false), true⟩,
  ⟨some 36, .unOp .not 4 (.tmp 35), some (32, false), true⟩,
  ⟨some 37, .pick (.tmp 32) (.const (.bool true)) (.tmp 36), none, true⟩]
theorem k33_r5_e : type_of% (@Eo_of P pr N e σ Q _ _ k33_r5.eq_1) := Eo_of k33_r5.eq_1
def k33_r6 : List COp := [
  ⟨some 38, .build 24 #[], none, true⟩,
  ⟨none, .store 24 (.tmp 4) (.tmp 38), none, true⟩,
  ⟨some 5, .assign (.const (.int .i64 11)), none, true⟩]
theorem k33_r6_e : type_of% (@Eo_of P pr N e σ Q _ _ k33_r6.eq_1) := Eo_of k33_r6.eq_1
def k33_r7 : List COp := [
  ⟨some 39, .load 24 (.tmp 7), none, true⟩,
  ⟨none, .store 24 (.tmp 4) (.tmp 39), none, true⟩,
  ⟨some 5, .assign (.const (.int .i64 0)), none, true⟩]
theorem k33_r7_e : type_of% (@Eo_of P pr N e σ Q _ _ k33_r7.eq_1) := Eo_of k33_r7.eq_1
def k33 : CC := (.seq (.region k33_r0) (.seq (.seq (.region k33_r1) (.cond (.tmp 10) (.seq (.region k33_r2) .ret) .skip)) (.seq (.region k33_r3) (.seq (.region k33_r4) (.seq (.seq (.region k33_r5) (.cond (.tmp 37) (.seq (.region k33_r6) .ret) .skip)) (.seq (.region k33_r7) .ret))))))
theorem k33_e : type_of% (@Ev_of P pr N e σ Q _ _ k33.eq_1) := Ev_of k33.eq_1
theorem k33_a : type_of% @k33_e ∧ type_of% @k33_r0_e ∧ type_of% @k33_r1_e ∧ type_of% @k33_r2_e ∧ type_of% @k33_r3_e ∧ type_of% @k33_r4_e ∧ type_of% @k33_r5_e ∧ type_of% @k33_r6_e ∧ type_of% @k33_r7_e := ⟨@k33_e, @k33_r0_e, @k33_r1_e, @k33_r2_e, @k33_r3_e, @k33_r4_e, @k33_r5_e, @k33_r6_e, @k33_r7_e⟩
/-- quern/quernref09.Decode -/
theorem k33_is : FnIs Try.prog prims 33 40 [ResultVar.cell 4 24, ResultVar.tmp 5] k33 := FnIs.of_fn Try.func33 (by kernel_rfl) rfl
def k34_r0 : List COp := [
  ⟨some 2, .assign (.const (.bool false)), none, true⟩]
theorem k34_r0_e : type_of% (@Eo_of P pr N e σ Q _ _ k34_r0.eq_1) := Eo_of k34_r0.eq_1
def k34_r1 : List COp := [
  ⟨some 4, .move (.tmp 0), none, true⟩,
  ⟨some 5, .call { callee := .value (.func 66), args := #[.tmp 4], argTypes := #[9] }, none, true⟩,
  ⟨some 3, .assign (.tmp 5), none, true⟩]
theorem k34_r1_e : type_of% (@Eo_of P pr N e σ Q _ _ k34_r1.eq_1) := Eo_of k34_r1.eq_1
def k34_r2 : List COp := [
  ⟨some 6, .move (.tmp 3), none, true⟩,
  ⟨some 7, .binOp .geq 3 (.tmp 6) (.const (.int .i64 1)) 3, none, true⟩,
  ⟨some 8, .move (.tmp 7), none, true⟩,
  ⟨some 9, .move (.tmp 3), some (8, true), true⟩,
  ⟨some 10, .binOp .leq 3 (.tmp 9) (.const (.int .i64 4)) 3, some (8, true), true⟩,
  ⟨some 11, .pick (.tmp 8) (.tmp 10) (.const (.bool false)), none, true⟩,
  ⟨some 2, .assign (.tmp 11), none, true⟩]
theorem k34_r2_e : type_of% (@Eo_of P pr N e σ Q _ _ k34_r2.eq_1) := Eo_of k34_r2.eq_1
def k34 : CC := (.seq (.region k34_r0) (.seq (.region k34_r1) (.seq (.region k34_r2) .ret)))
theorem k34_e : type_of% (@Ev_of P pr N e σ Q _ _ k34.eq_1) := Ev_of k34.eq_1
theorem k34_a : type_of% @k34_e ∧ type_of% @k34_r0_e ∧ type_of% @k34_r1_e ∧ type_of% @k34_r2_e := ⟨@k34_e, @k34_r0_e, @k34_r1_e, @k34_r2_e⟩
/-- quern/quernref08.Type -/
theorem k34_is : FnIs Try.prog prims 34 12 [ResultVar.tmp 2] k34 := FnIs.of_fn Try.func34 (by kernel_rfl) rfl
def k51_r0 : List COp := [
  ⟨some 2, .box 24 (.tmp 0), none, true⟩,
  ⟨some 4, .assign (.const (.bool false)), none, true⟩]
theorem k51_r0_e : type_of% (@Eo_of P pr N e σ Q _ _ k51_r0.eq_1) := Eo_of k51_r0.eq_1
def k51_r1 : List COp := [
  ⟨some 7, .move (.tmp 1), none, false⟩,
  ⟨some 8, .nilCheck (.tmp 7), none, false⟩,
  ⟨some 9, .load 3 (.tmp 8), none, false⟩,
  ⟨some 10, .fieldAddr 24 (.tmp 2) 2, none, true⟩,
  ⟨some 11, .load 9 (.tmp 10), none, true⟩,
  ⟨some 12, .call { callee := .builtin .len, args := #[.tmp 11], argTypes := #[9] }, none, true⟩,
  ⟨some 13, .binOp .add 3 (.const (.int .i64 1)) (.tmp 12) 3, none, true⟩,
  ⟨some 14, .binOp .add 3 (.tmp 9) (.tmp 13) 3, none, true⟩,
  ⟨some 15, .nilCheck (.tmp 7), none, true⟩,
  ⟨none, .store 3 (.tmp 15) (.tmp 14), none, true⟩]
theorem k51_r1_e : type_of% (@Eo_of P pr N e σ Q _ _ k51_r1.eq_1) := Eo_of k51_r1.eq_1
def k51_r2 : List COp := [
  ⟨some 16, .move (.tmp 1), none, true⟩,
  ⟨some 17, .nilCheck (.tmp 16), none, true⟩,
  ⟨some 18, .load 3 (.tmp 17), none, true⟩,
  ⟨some 19, .binOp .gtr 3 (.tmp 18) (.const (.int .i64 65536)) 3, none, true⟩]
theorem k51_r2_e : type_of% (@Eo_of P pr N e σ Q _ _ k51_r2.eq_1) := Eo_of k51_r2.eq_1
def k51_r3 : List COp := [
  ⟨some 4, .assign (.const (.bool true)), none, true⟩]
theorem k51_r3_e : type_of% (@Eo_of P pr N e σ Q _ _ k51_r3.eq_1) := Eo_of k51_r3.eq_1
def k51_r4 : List COp := [
  ⟨some 20, .fieldAddr 24 (.tmp 2) 3, none, true⟩,
  ⟨some 21, .load 22 (.tmp 20), none, true⟩,
  ⟨some 22, .call { callee := .builtin .len, args := #[.tmp 21], argTypes := #[22] }, none, true⟩,
  ⟨some 23, .move (.const (.int .i64 0)), none, true⟩]
theorem k51_r4_e : type_of% (@Eo_of P pr N e σ Q _ _ k51_r4.eq_1) := Eo_of k51_r4.eq_1
def k51_r5 : List COp := [
  ⟨some 24, .binOp .lss 3 (.tmp 23) (.tmp 22) 3, none, true⟩]
theorem k51_r5_e : type_of% (@Eo_of P pr N e σ Q _ _ k51_r5.eq_1) := Eo_of k51_r5.eq_1
def k51_r6 : List COp := [
  ⟨some 25, .indexAddr 22 (.tmp 21) (.tmp 23), none, true⟩,
  ⟨some 26, .load 24 (.tmp 25), none, true⟩,
  ⟨some 6, .alloc 24, none, true⟩,
  ⟨none, .store 24 (.tmp 6) (.tmp 26), none, true⟩]
theorem k51_r6_e : type_of% (@Eo_of P pr N e σ Q _ _ k51_r6.eq_1) := Eo_of k51_r6.eq_1
def k51_r7 : List COp := [
  ⟨some 27, .load 24 (.tmp 6), none, true⟩,
  ⟨some 28, .move (.tmp 1), none, true⟩,
  ⟨some 29, .call { callee := .value (.func 51), args := #[.tmp 27, .tmp 28], argTypes := #[24, 62] }, none, true⟩]
theorem k51_r7_e : type_of% (@Eo_of P pr N e σ Q _ _ k51_r7.eq_1) := Eo_of k51_r7.eq_1
def k51_r8 : List COp := [
  ⟨some 4, .assign (.const (.bool true)), none, true⟩]
theorem k51_r8_e : type_of% (@Eo_of P pr N e σ Q _ _ k51_r8.eq_1) := Eo_of k51_r8.eq_1
def k51_r9 : List COp := [
  ⟨some 30, .binOp .add 3 (.tmp 23) (.const (.int .i64 1)) 3, none, true⟩,
  ⟨some 23, .move (.tmp 30), none, true⟩]
theorem k51_r9_e : type_of% (@Eo_of P pr N e σ Q _ _ k51_r9.eq_1) := Eo_of k51_r9.eq_1
def k51_l0 : CC := (.seq (.region k51_r5) (.seq (.cond (.tmp 24) .skip (.exit 0)) (.seq (.block 1 (.seq (.region k51_r6) (.seq (.region k51_r7) (.cond (.tmp 29) (.seq (.region k51_r8) .ret) .skip)))) (.region k51_r9))))
theorem k51_l0_e : type_of% (@Ev_of P pr N e σ Q _ _ k51_l0.eq_1) := Ev_of k51_l0.eq_1
def k51_r10 : List COp := [
  ⟨some 4, .assign (.const (.bool false)), none, true⟩]
theorem k51_r10_e : type_of% (@Eo_of P pr N e σ Q _ _ k51_r10.eq_1) := Eo_of k51_r10.eq_1
def k51 : CC := (.seq (.region k51_r0) (.seq (.region k51_r1) (.seq (.seq (.region k51_r2) (.cond (.tmp 19) (.seq (.region k51_r3) .ret) .skip)) (.seq (.seq (.region k51_r4) (.block 0 (.loop k51_l0))) (.seq (.region k51_r10) .ret)))))
theorem k51_e : type_of% (@Ev_of P pr N e σ Q _ _ k51.eq_1) := Ev_of k51.eq_1
theorem k51_a : type_of% @k51_e ∧ type_of% @k51_r0_e ∧ type_of% @k51_r1_e ∧ type_of% @k51_r2_e ∧ type_of% @k51_r3_e ∧ type_of% @k51_r4_e ∧ type_of% @k51_r5_e ∧ type_of% @k51_r6_e ∧ type_of% @k51_r7_e ∧ type_of% @k51_r8_e ∧ type_of% @k51_r9_e ∧ type_of% @k51_l0_e ∧ type_of% @k51_r10_e := ⟨@k51_e, @k51_r0_e, @k51_r1_e, @k51_r2_e, @k51_r3_e, @k51_r4_e, @k51_r5_e, @k51_r6_e, @k51_r7_e, @k51_r8_e, @k51_r9_e, @k51_l0_e, @k51_r10_e⟩
/-- quern/quernlaw09.count -/
theorem k51_is : FnIs Try.prog prims 51 31 [ResultVar.tmp 4] k51 := FnIs.of_fn Try.func51 (by kernel_rfl) rfl
def k52_r0 : List COp := [
  ⟨some 2, .assign (.const (.bool false)), none, true⟩]
theorem k52_r0_e : type_of% (@Eo_of P pr N e σ Q _ _ k52_r0.eq_1) := Eo_of k52_r0.eq_1
def k52_r1 : List COp := [
  ⟨some 3, .move (.tmp 0), none, true⟩,
  ⟨some 4, .call { callee := .value (.func 74), args := #[.tmp 3, .const (.int .i64 1)], argTypes := #[9, 3] }, none, true⟩,
  ⟨some 2, .assign (.tmp 4), none, true⟩]
theorem k52_r1_e : type_of% (@Eo_of P pr N e σ Q _ _ k52_r1.eq_1) := Eo_of k52_r1.eq_1
def k52 : CC := (.seq (.region k52_r0) (.seq (.region k52_r1) .ret))
theorem k52_e : type_of% (@Ev_of P pr N e σ Q _ _ k52.eq_1) := Ev_of k52.eq_1
theorem k52_a : type_of% @k52_e ∧ type_of% @k52_r0_e ∧ type_of% @k52_r1_e := ⟨@k52_e, @k52_r0_e, @k52_r1_e⟩
/-- quern/show.Type -/
theorem k52_is : FnIs Try.prog prims 52 5 [ResultVar.tmp 2] k52 := FnIs.of_fn Try.func52 (by kernel_rfl) rfl
def k53_r0 : List COp := [
  ⟨some 4, .assign (.const (.string { data := #[] })), none, true⟩,
  ⟨some 5, .assign (.const (.string { data := #[] })), none, true⟩,
  ⟨some 6, .assign (.const (.bool false)), none, true⟩]
theorem k53_r0_e : type_of% (@Eo_of P pr N e σ Q _ _ k53_r0.eq_1) := Eo_of k53_r0.eq_1
def k53_r1 : List COp := [
  ⟨some 7, .move (.tmp 0), none, true⟩,
  ⟨some 8, .move (.tmp 1), none, true⟩,
  ⟨some 9, .call { callee := .value (.func 75), args := #[.tmp 7, .tmp 8], argTypes := #[9, 9] }, none, true⟩,
  ⟨some 10, .extract (.tmp 9) 0, none, true⟩,
  ⟨some 11, .extract (.tmp 9) 1, none, true⟩,
  ⟨some 12, .extract (.tmp 9) 2, none, true⟩,
  ⟨some 4, .assign (.tmp 10), none, true⟩,
  ⟨some 5, .assign (.tmp 11), none, true⟩,
  ⟨some 6, .assign (.tmp 12), none, true⟩]
theorem k53_r1_e : type_of% (@Eo_of P pr N e σ Q _ _ k53_r1.eq_1) := Eo_of k53_r1.eq_1
def k53 : CC := (.seq (.region k53_r0) (.seq (.region k53_r1) .ret))
theorem k53_e : type_of% (@Ev_of P pr N e σ Q _ _ k53.eq_1) := Ev_of k53.eq_1
theorem k53_a : type_of% @k53_e ∧ type_of% @k53_r0_e ∧ type_of% @k53_r1_e := ⟨@k53_e, @k53_r0_e, @k53_r1_e⟩
/-- strings.Cut -/
theorem k53_is : FnIs Try.prog prims 53 13 [ResultVar.tmp 4, ResultVar.tmp 5, ResultVar.tmp 6] k53 := FnIs.of_fn Try.func53 (by kernel_rfl) rfl
def k54_r0 : List COp := [
  ⟨some 2, .box 24 (.tmp 0), none, true⟩,
  ⟨some 4, .assign (.const (.bool false)), none, true⟩]
theorem k54_r0_e : type_of% (@Eo_of P pr N e σ Q _ _ k54_r0.eq_1) := Eo_of k54_r0.eq_1
def k54_r1 : List COp := [
  ⟨some 12, .move (.tmp 1), none, true⟩,
  ⟨some 13, .binOp .eql 9 (.tmp 12) (.const (.string { data := #[105, 110, 116] })) 9, none, true⟩,
  ⟨some 11, .assign (.tmp 13), none, true⟩]
theorem k54_r1_e : type_of% (@Eo_of P pr N e σ Q _ _ k54_r1.eq_1) := Eo_of k54_r1.eq_1
def k54_r2 : List COp := [
  ⟨some 14, .fieldAddr 24 (.tmp 2) 0, none, true⟩,
  ⟨some 15, .load 3 (.tmp 14), none, true⟩,
  ⟨some 16, .binOp .eql 3 (.tmp 15) (.const (.int .i64 1)) 3, none, true⟩,
  ⟨some 17, .move (.tmp 16), none, true⟩,
  ⟨some 18, .fieldAddr 24 (.tmp 2) 2, some (17, true), true⟩,
  ⟨some 19, .load 9 (.tmp 18), some (17, true), true⟩,
  ⟨some 20, .binOp .eql 9 (.tmp 19) (.const (.string { data := #[] })) 9, some (17, true), true⟩,
  ⟨some 21, .pick (.tmp 17) (.tmp 20) (.const (.bool false)), none, true⟩,
  ⟨some 22, .move (.tmp 21), none, true⟩,
  ⟨some 23, .fieldAddr 24 (.tmp 2) 3, some (22, true), true⟩,
  ⟨some 24, .load 22 (.tmp 23), some (22, true), true⟩,
  ⟨some 25, .call { callee := .builtin .len, args := #[.tmp 24], argTypes := #[22] }, some (22, true), true⟩,
  ⟨some 26, .binOp .eql 3 (.tmp 25) (.const (.int .i64 0)) 3, some (22, true), true⟩,
  ⟨some 27, .pick (.tmp 22) (.tmp 26) (.const (.bool false)), none, true⟩,
  ⟨some 4, .assign (.tmp 27), none, true⟩]
theorem k54_r2_e : type_of% (@Eo_of P pr N e σ Q _ _ k54_r2.eq_1) := Eo_of k54_r2.eq_1
def k54_r3 : List COp := [
  ⟨some 29, .move (.tmp 1), none, true⟩,
  ⟨some 30, .binOp .eql 9 (.tmp 29) (.const (.string { data := #[98, 111, 111, 108] })) 9, none, true⟩,
  ⟨some 28, .assign (.tmp 30), none, true⟩]
theorem k54_r3_e : type_of% (@Eo_of P pr N e σ Q _ _ k54_r3.eq_1) := Eo_of k54_r3.eq_1
def k54_r4 : List COp := [
  ⟨some 31, .fieldAddr 24 (.tmp 2) 0, none, true⟩,
  ⟨some 32, .load 3 (.tmp 31), none, true⟩,
  ⟨some 33, .binOp .eql 3 (.tmp 32) (.const (.int .i64 2)) 3, none, true⟩,
  ⟨some 34, .move (.tmp 33), none, true⟩,
  ⟨some 35, .fieldAddr 24 (.tmp 2) 1, some (34, true), true⟩,
  ⟨some 36, .load 3 (.tmp 35), some (34, true), true⟩,
  ⟨some 37, .binOp .eql 3 (.tmp 36) (.const (.int .i64 0)) 3, some (34, true), true⟩,
  ⟨some 38, .move (.tmp 37), some (34, true), true⟩,
  ⟨some 39, .fieldAddr 24 (.tmp 2) 1, some (38, false), true⟩,
  ⟨some 40, .load 3 (.tmp 39), some (38, false), true⟩,
  ⟨some 41, .binOp .eql 3 (.tmp 40) (.const (.int .i64 1)) 3, some (38, false), true⟩,
  ⟨some 42, .pick (.tmp 38) (.const (.bool true)) (.tmp 41), some (34, true), true⟩,
  ⟨some 43, .pick (.tmp 34) (.tmp 42) (.const (.bool false)), none, true⟩,
  ⟨some 44, .move (.tmp 43), none, true⟩,
  ⟨some 45, .fieldAddr 24 (.tmp 2) 2, some (44, true), true⟩,
  ⟨some 46, .load 9 (.tmp 45), some (44, true), true⟩,
  ⟨some 47, .binOp .eql 9 (.tmp 46) (.const (.string { data := #[] })) 9, some (44, true), true⟩,
  ⟨some 48, .pick (.tmp 44) (.tmp 47) (.const (.bool false)), none, true⟩,
  ⟨some 49, .move (.tmp 48), none, true⟩,
  ⟨some 50, .fieldAddr 24 (.tmp 2) 3, some (49, true), true⟩,
  ⟨some 51, .load 22 (.tmp 50), some (49, true), true⟩,
  ⟨some 52, .call { callee := .builtin .len, args := #[.tmp 51], argTypes := #[22] }, some (49, true), true⟩,
  ⟨some 53, .binOp .eql 3 (.tmp 52) (.const (.int .i64 0)) 3, some (49, true), true⟩,
  ⟨some 54, .pick (.tmp 49) (.tmp 53) (.const (.bool false)), none, true⟩,
  ⟨some 4, .assign (.tmp 54), none, true⟩]
theorem k54_r4_e : type_of% (@Eo_of P pr N e σ Q _ _ k54_r4.eq_1) := Eo_of k54_r4.eq_1
def k54_r5 : List COp := [
  ⟨some 56, .fieldAddr 24 (.tmp 2) 1, none, true⟩,
  ⟨some 57, .load 3 (.tmp 56), none, true⟩,
  ⟨some 58, .binOp .neq 3 (.tmp 57) (.const (.int .i64 0)) 3, none, true⟩,
  ⟨some 59, .move (.tmp 58), none, true⟩,
  ⟨some 60, .move (.tmp 1), some (59, false), true⟩,
  ⟨some 61, .binOp .neq 9 (.tmp 60) (.const (.string { data := #[116, 101, 120, 116] })) 9, some (59, false), true⟩,
  ⟨some 62, .move (.tmp 61), some (59, false), true⟩,
  ⟨some 63, .fieldAddr 24 (.tmp 2) 2, some (62, true), true⟩,
  ⟨some 64, .load 9 (.tmp 63), some (62, true), true⟩,
  ⟨some 65, .binOp .neq 9 (.tmp 64) (.const (.string { data := #[] })) 9, some (62, true), true⟩,
  ⟨some 66, .pick (.tmp 62) (.tmp 65) (.const (.bool false)), some (59, false), true⟩,
  ⟨some 67, .pick (.tmp 59) (.const (.bool true)) (.tmp 66), none, true⟩,
  ⟨some 55, .assign (.tmp 67), none, true⟩]
theorem k54_r5_e : type_of% (@Eo_of P pr N e σ Q _ _ k54_r5.eq_1) := Eo_of k54_r5.eq_1
def k54_r6 : List COp := [
  ⟨some 4, .assign (.const (.bool false)), none, true⟩]
theorem k54_r6_e : type_of% (@Eo_of P pr N e σ Q _ _ k54_r6.eq_1) := Eo_of k54_r6.eq_1
def k54_r7 : List COp := [
  ⟨some 69, .move (.tmp 1), none, true⟩,
  ⟨some 70, .binOp .eql 9 (.tmp 69) (.const (.string { data := #[116, 101, 120, 116] })) 9, none, true⟩,
  ⟨some 68, .assign (.tmp 70), none, true⟩]
theorem k54_r7_e : type_of% (@Eo_of P pr N e σ Q _ _ k54_r7.eq_1) := Eo_of k54_r7.eq_1
def k54_r8 : List COp := [
  ⟨some 71, .fieldAddr 24 (.tmp 2) 0, none, true⟩,
  ⟨some 72, .load 3 (.tmp 71), none, true⟩,
  ⟨some 73, .binOp .eql 3 (.tmp 72) (.const (.int .i64 3)) 3, none, true⟩,
  ⟨some 74, .move (.tmp 73), none, true⟩,
  ⟨some 75, .fieldAddr 24 (.tmp 2) 2, some (74, true), true⟩,
  ⟨some 76, .load 9 (.tmp 75), some (74, true), true⟩,
  ⟨some 77, .call { callee := .builtin .len, args := #[.tmp 76], argTypes := #[9] }, some (74, true), true⟩,
  ⟨some 78, .binOp .leq 3 (.tmp 77) (.const (.int .i64 256)) 3, some (74, true), true⟩,
  ⟨some 79, .pick (.tmp 74) (.tmp 78) (.const (.bool false)), none, true⟩,
  ⟨some 80, .move (.tmp 79), none, true⟩,
  ⟨some 81, .fieldAddr 24 (.tmp 2) 3, some (80, true), true⟩,
  ⟨some 82, .load 22 (.tmp 81), some (80, true), true⟩,
  ⟨some 83, .call { callee := .builtin .len, args := #[.tmp 82], argTypes := #[22] }, some (80, true), true⟩,
  ⟨some 84, .binOp .eql 3 (.tmp 83) (.const (.int .i64 0)) 3, some (80, true), true⟩,
  ⟨some 85, .pick (.tmp 80) (.tmp 84) (.const (.bool false)), none, true⟩,
  ⟨some 4, .assign (.tmp 85), none, true⟩]
theorem k54_r8_e : type_of% (@Eo_of P pr N e σ Q _ _ k54_r8.eq_1) := Eo_of k54_r8.eq_1
def k54_r9 : List COp := [
  ⟨some 87, .move (.tmp 1), none, true⟩,
  ⟨some 88, .call { callee := .value (.func 18), args := #[.tmp 87], argTypes := #[9] }, none, true⟩,
  ⟨some 86, .move (.tmp 88), none, true⟩,
  ⟨some 89, .extract (.tmp 86) 0, none, true⟩,
  ⟨some 90, .extract (.tmp 86) 1, none, true⟩,
  ⟨some 5, .alloc 9, none, true⟩,
  ⟨none, .store 9 (.tmp 5) (.tmp 89), none, true⟩,
  ⟨some 6, .assign (.tmp 90), none, true⟩]
theorem k54_r9_e : type_of% (@Eo_of P pr N e σ Q _ _ k54_r9.eq_1) := Eo_of k54_r9.eq_1
def k54_r10 : List COp := [
  ⟨some 91, .move (.tmp 6), none, true⟩]
theorem k54_r10_e : type_of% (@Eo_of P pr N e σ Q _ _ k54_r10.eq_1) := Eo_of k54_r10.eq_1
def k54_r11 : List COp := [
  ⟨some 92, .fieldAddr 24 (.tmp 2) 0, none, true⟩,
  ⟨some 93, .load 3 (.tmp 92), none, true⟩,
  ⟨some 94, .binOp .eql 3 (.tmp 93) (.const (.int .i64 4)) 3, none, true⟩,
  ⟨some 95, .move (.tmp 94), none, true⟩,
  ⟨some 96, .fieldAddr 24 (.tmp 2) 3, some (95, true), true⟩,
  ⟨some 97, .load 22 (.tmp 96), some (95, true), true⟩,
  ⟨some 98, .call { callee := .builtin .len, args := #[.tmp 97], argTypes := #[22] }, some (95, true), true⟩,
  ⟨some 99, .binOp .leq 3 (.tmp 98) (.const (.int .i64 64)) 3, some (95, true), true⟩,
  ⟨some 100, .pick (.tmp 95) (.tmp 99) (.const (.bool false)), none, true⟩,
  ⟨some 101, .move (.tmp 100), none, true⟩,
  ⟨some 102, .fieldAddr 24 (.tmp 2) 3, some (101, true), true⟩,
  ⟨some 103, .load 22 (.tmp 102), some (101, true), true⟩,
  ⟨some 104, .makeFunc (.func 77) #[] #[.tmp 5], some (101, true), true⟩,
  ⟨some 105, .call { callee := .value (.func 76), args := #[.tmp 103, .tmp 104], argTypes := #[22, 26] }, some (101, true), true⟩,
  ⟨some 106, .unOp .not 4 (.tmp 105), some (101, true), true⟩,
  ⟨some 107, .pick (.tmp 101) (.tmp 106) (.const (.bool false)), none, true⟩,
  ⟨some 4, .assign (.tmp 107), none, true⟩]
theorem k54_r11_e : type_of% (@Eo_of P pr N e σ Q _ _ k54_r11.eq_1) := Eo_of k54_r11.eq_1
def k54_r12 : List COp := [
  ⟨some 109, .move (.tmp 1), none, true⟩,
  ⟨some 110, .call { callee := .value (.func 19), args := #[.tmp 109], argTypes := #[9] }, none, true⟩,
  ⟨some 108, .move (.tmp 110), none, true⟩,
  ⟨some 111, .extract (.tmp 108) 0, none, true⟩,
  ⟨some 112, .extract (.tmp 108) 1, none, true⟩,
  ⟨some 113, .extract (.tmp 108) 2, none, true⟩,
  ⟨some 7, .assign (.tmp 111), none, true⟩,
  ⟨some 8, .assign (.tmp 112), none, true⟩,
  ⟨some 9, .assign (.tmp 113), none, true⟩]
theorem k54_r12_e : type_of% (@Eo_of P pr N e σ Q _ _ k54_r12.eq_1) := Eo_of k54_r12.eq_1
def k54_r13 : List COp := [
  ⟨some 114, .fieldAddr 24 (.tmp 2) 0, none, true⟩,
  ⟨some 115, .load 3 (.tmp 114), none, true⟩,
  ⟨some 116, .binOp .neq 3 (.tmp 115) (.const (.int .i64 5)) 3, none, true⟩,
  ⟨some 117, .move (.tmp 116), none, true⟩,
  ⟨some 118, .fieldAddr 24 (.tmp 2) 3, some (117, false), true⟩,
  ⟨some 119, .load 22 (.tmp 118), some (117, false), true⟩,
  ⟨some 120, .call { callee := .builtin .len, args := #[.tmp 119], argTypes := #[22] }, some (117, false), true⟩,
  ⟨some 121, .binOp .rem 3 (.tmp 120) (.const (.int .i64 2)) 3, some (117, false), true⟩,
  ⟨some 122, .binOp .neq 3 (.tmp 121) (.const (.int .i64 0)) 3, some (117, false), true⟩,
  ⟨some 123, .pick (.tmp 117) (.const (.bool true)) (.tmp 122), none, true⟩,
  ⟨some 124, .move (.tmp 123), none, true⟩,
  ⟨some 125, .fieldAddr 24 (.tmp 2) 3, some (124, false), true⟩,
  ⟨some 126, .load 22 (.tmp 125), some (124, false), true⟩,
  ⟨some 127, .call { callee := .builtin .len, args := #[.tmp 126], argTypes := #[22] }, some (124, false), true⟩,
  ⟨some 128, .binOp .gtr 3 (.tmp 127) (.const (.int .i64 128)) 3, some (124, false), true⟩,
  ⟨some 129, .pick (.tmp 124) (.const (.bool true)) (.tmp 128), none, true⟩]
theorem k54_r13_e : type_of% (@Eo_of P pr N e σ Q _ _ k54_r13.eq_1) := Eo_of k54_r13.eq_1
def k54_r14 : List COp := [
  ⟨some 4, .assign (.const (.bool false)), none, true⟩]
theorem k54_r14_e : type_of% (@Eo_of P pr N e σ Q _ _ k54_r14.eq_1) := Eo_of k54_r14.eq_1
def k54_r15 : List COp := [
  ⟨some 10, .assign (.const (.int .i64 0)), none, true⟩]
theorem k54_r15_e : type_of% (@Eo_of P pr N e σ Q _ _ k54_r15.eq_1) := Eo_of k54_r15.eq_1
def k54_r16 : List COp := [
  ⟨some 130, .move (.tmp 10), none, true⟩,
  ⟨some 131, .fieldAddr 24 (.tmp 2) 3, none, true⟩,
  ⟨some 132, .load 22 (.tmp 131), none, true⟩,
  ⟨some 133, .call { callee := .builtin .len, args := #[.tmp 132], argTypes := #[22] }, none, true⟩,
  ⟨some 134, .binOp .lss 3 (.tmp 130) (.tmp 133) 3, none, true⟩]
theorem k54_r16_e : type_of% (@Eo_of P pr N e σ Q _ _ k54_r16.eq_1) := Eo_of k54_r16.eq_1
def k54_r18 : List COp := [
  ⟨some 137, .fieldAddr 24 (.tmp 2) 3, none, false⟩,
  ⟨some 138, .load 22 (.tmp 137), none, false⟩,
  ⟨some 139, .move (.tmp 10), none, false⟩,
  ⟨some 140, .indexAddr 22 (.tmp 138) (.tmp 139), none, false⟩,
  ⟨some 141, .load 24 (.tmp 140), none, false⟩,
  ⟨some 142, .move (.tmp 7), none, true⟩,
  ⟨some 143, .call { callee := .value (.func 54), args := #[.tmp 141, .tmp 142], argTypes := #[24, 9] }, none, true⟩,
  ⟨some 144, .unOp .not 4 (.tmp 143), none, true⟩,
  ⟨some 145, .move (.tmp 144), none, true⟩,
  ⟨some 146, .fieldAddr 24 (.tmp 2) 3, some (145, false), false⟩,
  ⟨some 147, .load 22 (.tmp 146), some (145, false), false⟩,
  ⟨some 148, .move (.tmp 10), some (145, false), false⟩,
  ⟨some 149, .binOp .add 3 (.tmp 148) (.const (.int .i64 1)) 3, some (145, false), false⟩,
  ⟨some 150, .indexAddr 22 (.tmp 147) (.tmp 149), some (145, false), false⟩,
  ⟨some 151, .load 24 (.tmp 150), some (145, false), false⟩,
  ⟨some 152, .move (.tmp 8), some (145, false), true⟩,
  ⟨some 153, .call { callee := .value (.func 54), args := #[.tmp 151, .tmp 152], argTypes := #[24, 9] }, some (145, false), true⟩,
  ⟨some 154, .unOp .not 4 (.tmp 153), some (145, false), true⟩,
  ⟨some 155, .pick (.tmp 145) (.const (.bool true)) (.tmp 154), none, true⟩,
  ⟨some 156, .move (.tmp 155), none, true⟩,
  ⟨some 157, .move (.tmp 10), some (156, false), true⟩,
  ⟨some 158, .binOp .gtr 3 (.tmp 157) (.const (.int .i64 0)) 3, some (156, false), true⟩,
  ⟨some 159, .move (.tmp 158), some (156, false), true⟩,
  ⟨some 160, .fieldAddr 24 (.tmp 2) 3, some (159, true), false⟩,
  ⟨some 161, .load 22 (.tmp 160), some (159, true), false⟩,
  ⟨some 162, .move (.tmp 10), some (159, true), false⟩,
  ⟨some 163, .binOp .sub 3 (.tmp 162) (.const (.int .i64 2)) 3, some (159, true), false⟩,
  ⟨some 164, .indexAddr 22 (.tmp 161) (.tmp 163), some (159, true), false⟩,
  ⟨some 165, .load 24 (.tmp 164), some (159, true), false⟩,
  ⟨some 166, .fieldAddr 24 (.tmp 2) 3, some (159, true), false⟩,
  ⟨some 167, .load 22 (.tmp 166), some (159, true), false⟩,
  ⟨some 168, .move (.tmp 10), some (159, true), true⟩,
  ⟨some 169, .indexAddr 22 (.tmp 167) (.tmp 168), some (159, true), true⟩,
  ⟨some 170, .load 24 (.tmp 169), some (159, true), true⟩,
  ⟨some 171, .call { callee := .value (.func 26), args := #[.tmp 165, .tmp 170], argTypes := #[24, 24] }, some (159, true), true⟩,
  ⟨some 172, .binOp .geq 3 (.tmp 171) (.const (.int .i64 0)) 3, some (159, true), true⟩,
  ⟨some 173, .pick (.tmp 159) (.tmp 172) (.const (.bool false)), some (156, false), true⟩,
  ⟨some 174, .pick (.tmp 156) (.const (.bool true)) (.tmp 173), none, true⟩]
theorem k54_r18_e : type_of% (@Eo_of P pr N e σ Q _ _ k54_r18.eq_1) := Eo_of k54_r18.eq_1
def k54_r19 : List COp := [
  ⟨some 4, .assign (.const (.bool false)), none, true⟩]
theorem k54_r19_e : type_of% (@Eo_of P pr N e σ Q _ _ k54_r19.eq_1) := Eo_of k54_r19.eq_1
def k54_r17 : List COp := [
  ⟨some 135, .move (.tmp 10), none, true⟩,
  ⟨some 136, .binOp .add 3 (.tmp 135) (.const (.int .i64 2)) 3, none, true⟩,
  ⟨some 10, .assign (.tmp 136), none, true⟩]
theorem k54_r17_e : type_of% (@Eo_of P pr N e σ Q _ _ k54_r17.eq_1) := Eo_of k54_r17.eq_1
def k54_l0 : CC := (.seq (.seq (.region k54_r16) (.cond (.tmp 134) .skip (.exit 1))) (.seq (.block 2 (.seq (.region k54_r18) (.cond (.tmp 174) (.seq (.region k54_r19) .ret) .skip))) (.region k54_r17)))
theorem k54_l0_e : type_of% (@Ev_of P pr N e σ Q _ _ k54_l0.eq_1) := Ev_of k54_l0.eq_1
def k54_r20 : List COp := [
  ⟨some 4, .assign (.const (.bool true)), none, true⟩]
theorem k54_r20_e : type_of% (@Eo_of P pr N e σ Q _ _ k54_r20.eq_1) := Eo_of k54_r20.eq_1
def k54 : CC := (.seq (.region k54_r0) (.seq (.block 0 (.seq (.region k54_r1) (.cond (.tmp 11) (.seq (.region k54_r2) .ret) (.seq (.region k54_r3) (.cond (.tmp 28) (.seq (.region k54_r4) .ret) (.seq (.region k54_r5) (.cond (.tmp 55) (.seq (.region k54_r6) .ret) (.seq (.region k54_r7) (.cond (.tmp 68) (.seq (.region k54_r8) .ret) .skip))))))))) (.seq (.seq (.region k54_r9) (.seq (.region k54_r10) (.cond (.tmp 91) (.seq (.region k54_r11) .ret) .skip))) (.seq (.region k54_r12) (.seq (.seq (.region k54_r13) (.cond (.tmp 129) (.seq (.region k54_r14) .ret) .skip)) (.seq (.seq (.region k54_r15) (.block 1 (.loop k54_l0))) (.seq (.region k54_r20) .ret)))))))
theorem k54_e : type_of% (@Ev_of P pr N e σ Q _ _ k54.eq_1) := Ev_of k54.eq_1
theorem k54_a : type_of% @k54_e ∧ type_of% @k54_r0_e ∧ type_of% @k54_r1_e ∧ type_of% @k54_r2_e ∧ type_of% @k54_r3_e ∧ type_of% @k54_r4_e ∧ type_of% @k54_r5_e ∧ type_of% @k54_r6_e ∧ type_of% @k54_r7_e ∧ type_of% @k54_r8_e ∧ type_of% @k54_r9_e ∧ type_of% @k54_r10_e ∧ type_of% @k54_r11_e ∧ type_of% @k54_r12_e ∧ type_of% @k54_r13_e ∧ type_of% @k54_r14_e ∧ type_of% @k54_r15_e ∧ type_of% @k54_r16_e ∧ type_of% @k54_r18_e ∧ type_of% @k54_r19_e ∧ type_of% @k54_r17_e ∧ type_of% @k54_l0_e ∧ type_of% @k54_r20_e := ⟨@k54_e, @k54_r0_e, @k54_r1_e, @k54_r2_e, @k54_r3_e, @k54_r4_e, @k54_r5_e, @k54_r6_e, @k54_r7_e, @k54_r8_e, @k54_r9_e, @k54_r10_e, @k54_r11_e, @k54_r12_e, @k54_r13_e, @k54_r14_e, @k54_r15_e, @k54_r16_e, @k54_r18_e, @k54_r19_e, @k54_r17_e, @k54_l0_e, @k54_r20_e⟩
/-- quern/value.fits -/
theorem k54_is : FnIs Try.prog prims 54 175 [ResultVar.tmp 4] k54 := FnIs.of_fn Try.func54 (by kernel_rfl) rfl
def k55_r0 : List COp := [
  ⟨some 2, .box 24 (.tmp 0), none, true⟩,
  ⟨some 4, .assign (.const (.bool false)), none, true⟩]
theorem k55_r0_e : type_of% (@Eo_of P pr N e σ Q _ _ k55_r0.eq_1) := Eo_of k55_r0.eq_1
def k55_r1 : CC := (.wregion [
  (true, ⟨some 12, .fieldAddr 24 (.tmp 2) 0, none, true⟩),
  (false, ⟨some 13, .load 3 (.tmp 12), none, true⟩),
  (false, ⟨some 14, .binOp .eql 3 (.tmp 13) (.const (.int .i64 0)) 3, none, true⟩),
  (false, ⟨some 15, .move (.tmp 14), none, true⟩),
  (false, ⟨some 16, .fieldAddr 24 (.tmp 2) 0, some (15, false), false⟩),
  (true, ⟨some 17, .load 3 (.tmp 16), some (15, false), false⟩),
  (false, ⟨some 18, .move (.tmp 1), some (15, false), true⟩),
  (false, ⟨some 19, .call { callee := .value (.func 23), args := #[.tmp 18], argTypes := #[9] }, some (15, false), true⟩),
  (true, ⟨some 20, .field 24 (.tmp 19) 0, some (15, false), true⟩),
  (false, ⟨some 21, .binOp .neq 3 (.tmp 17) (.tmp 20) 3, some (15, false), true⟩),
  (false, ⟨some 22, .pick (.tmp 15) (.const (.bool true)) (.tmp 21), none, true⟩)] false [(5, ⟨some 17, .load 3 (.tmp 16), some (15, false), false⟩, [0, 8])])
theorem k55_r1_e : type_of% (@Ev_of P pr N e σ Q _ _ k55_r1.eq_1) := Ev_of k55_r1.eq_1
def k55_r2 : List COp := [
  ⟨some 4, .assign (.const (.bool false)), none, true⟩]
theorem k55_r2_e : type_of% (@Eo_of P pr N e σ Q _ _ k55_r2.eq_1) := Eo_of k55_r2.eq_1
def k55_r3 : List COp := [
  ⟨some 23, .fieldAddr 24 (.tmp 2) 0, none, true⟩,
  ⟨some 24, .load 3 (.tmp 23), none, true⟩,
  ⟨some 25, .binOp .gtr 3 (.tmp 24) (.const (.int .i64 2)) 3, none, true⟩,
  ⟨some 26, .move (.tmp 25), none, true⟩,
  ⟨some 27, .fieldAddr 24 (.tmp 2) 1, some (26, true), true⟩,
  ⟨some 28, .load 3 (.tmp 27), some (26, true), true⟩,
  ⟨some 29, .binOp .neq 3 (.tmp 28) (.const (.int .i64 0)) 3, some (26, true), true⟩,
  ⟨some 30, .pick (.tmp 26) (.tmp 29) (.const (.bool false)), none, true⟩,
  ⟨some 31, .move (.tmp 30), none, true⟩,
  ⟨some 32, .fieldAddr 24 (.tmp 2) 0, some (31, false), true⟩,
  ⟨some 33, .load 3 (.tmp 32), some (31, false), true⟩,
  ⟨some 34, .binOp .neq 3 (.tmp 33) (.const (.int .i64 3)) 3, some (31, false), true⟩,
  ⟨some 35, .move (.tmp 34), some (31, false), true⟩,
  ⟨some 36, .fieldAddr 24 (.tmp 2) 2, some (35, true), true⟩,
  ⟨some 37, .load 9 (.tmp 36), some (35, true), true⟩,
  ⟨some 38, .binOp .neq 9 (.tmp 37) (.const (.string { data := #[] })) 9, some (35, true), true⟩,
  ⟨some 39, .pick (.tmp 35) (.tmp 38) (.const (.bool false)), some (31, false), true⟩,
  ⟨some 40, .pick (.tmp 31) (.const (.bool true)) (.tmp 39), none, true⟩,
  ⟨some 41, .move (.tmp 40), none, true⟩,
  ⟨some 42, .fieldAddr 24 (.tmp 2) 0, some (41, false), true⟩,
  ⟨some 43, .load 3 (.tmp 42), some (41, false), true⟩,
  ⟨some 44, .binOp .lss 3 (.tmp 43) (.const (.int .i64 4)) 3, some (41, false), true⟩,
  ⟨some 45, .move (.tmp 44), some (41, false), true⟩,
  ⟨some 46, .fieldAddr 24 (.tmp 2) 3, some (45, true), true⟩,
  ⟨some 47, .load 22 (.tmp 46), some (45, true), true⟩,
  ⟨some 48, .call { callee := .builtin .len, args := #[.tmp 47], argTypes := #[22] }, some (45, true), true⟩,
  ⟨some 49, .binOp .gtr 3 (.tmp 48) (.const (.int .i64 0)) 3, some (45, true), true⟩,
  ⟨some 50, .pick (.tmp 45) (.tmp 49) (.const (.bool false)), some (41, false), true⟩,
  ⟨some 51, .pick (.tmp 41) (.const (.bool true)) (.tmp 50), none, true⟩]
theorem k55_r3_e : type_of% (@Eo_of P pr N e σ Q _ _ k55_r3.eq_1) := Eo_of k55_r3.eq_1
def k55_r4 : List COp := [
  ⟨some 4, .assign (.const (.bool false)), none, true⟩]
theorem k55_r4_e : type_of% (@Eo_of P pr N e σ Q _ _ k55_r4.eq_1) := Eo_of k55_r4.eq_1
def k55_r5 : List COp := [
  ⟨some 52, .fieldAddr 24 (.tmp 2) 0, none, true⟩,
  ⟨some 53, .load 3 (.tmp 52), none, true⟩]
theorem k55_r5_e : type_of% (@Eo_of P pr N e σ Q _ _ k55_r5.eq_1) := Eo_of k55_r5.eq_1
def k55_r6 : List COp := [
  ⟨some 55, .binOp .eql 3 (.tmp 53) (.const (.int .i64 2)) 3, none, true⟩,
  ⟨some 54, .assign (.tmp 55), none, true⟩]
theorem k55_r6_e : type_of% (@Eo_of P pr N e σ Q _ _ k55_r6.eq_1) := Eo_of k55_r6.eq_1
def k55_r7 : List COp := [
  ⟨some 56, .fieldAddr 24 (.tmp 2) 1, none, true⟩,
  ⟨some 57, .load 3 (.tmp 56), none, true⟩,
  ⟨some 58, .binOp .eql 3 (.tmp 57) (.const (.int .i64 0)) 3, none, true⟩,
  ⟨some 59, .move (.tmp 58), none, true⟩,
  ⟨some 60, .fieldAddr 24 (.tmp 2) 1, some (59, false), true⟩,
  ⟨some 61, .load 3 (.tmp 60), some (59, false), true⟩,
  ⟨some 62, .binOp .eql 3 (.tmp 61) (.const (.int .i64 1)) 3, some (59, false), true⟩,
  ⟨some 63, .pick (.tmp 59) (.const (.bool true)) (.tmp 62), none, true⟩,
  ⟨some 4, .assign (.tmp 63), none, true⟩]
theorem k55_r7_e : type_of% (@Eo_of P pr N e σ Q _ _ k55_r7.eq_1) := Eo_of k55_r7.eq_1
def k55_r8 : List COp := [
  ⟨some 65, .binOp .eql 3 (.tmp 53) (.const (.int .i64 3)) 3, none, true⟩,
  ⟨some 64, .assign (.tmp 65), none, true⟩]
theorem k55_r8_e : type_of% (@Eo_of P pr N e σ Q _ _ k55_r8.eq_1) := Eo_of k55_r8.eq_1
def k55_r9 : List COp := [
  ⟨some 66, .fieldAddr 24 (.tmp 2) 2, none, true⟩,
  ⟨some 67, .load 9 (.tmp 66), none, true⟩,
  ⟨some 68, .call { callee := .builtin .len, args := #[.tmp 67], argTypes := #[9] }, none, true⟩,
  ⟨some 69, .binOp .leq 3 (.tmp 68) (.const (.int .i64 256)) 3, none, true⟩,
  ⟨some 4, .assign (.tmp 69), none, true⟩]
theorem k55_r9_e : type_of% (@Eo_of P pr N e σ Q _ _ k55_r9.eq_1) := Eo_of k55_r9.eq_1
def k55_r10 : List COp := [
  ⟨some 71, .binOp .eql 3 (.tmp 53) (.const (.int .i64 4)) 3, none, true⟩,
  ⟨some 70, .assign (.tmp 71), none, true⟩]
theorem k55_r10_e : type_of% (@Eo_of P pr N e σ Q _ _ k55_r10.eq_1) := Eo_of k55_r10.eq_1
def k55_r11 : List COp := [
  ⟨some 72, .fieldAddr 24 (.tmp 2) 3, none, true⟩,
  ⟨some 73, .load 22 (.tmp 72), none, true⟩,
  ⟨some 74, .call { callee := .builtin .len, args := #[.tmp 73], argTypes := #[22] }, none, true⟩,
  ⟨some 75, .move (.const (.int .i64 0)), none, true⟩]
theorem k55_r11_e : type_of% (@Eo_of P pr N e σ Q _ _ k55_r11.eq_1) := Eo_of k55_r11.eq_1
def k55_r12 : List COp := [
  ⟨some 76, .binOp .lss 3 (.tmp 75) (.tmp 74) 3, none, true⟩]
theorem k55_r12_e : type_of% (@Eo_of P pr N e σ Q _ _ k55_r12.eq_1) := Eo_of k55_r12.eq_1
def k55_r13 : List COp := [
  ⟨some 77, .indexAddr 22 (.tmp 73) (.tmp 75), none, true⟩,
  ⟨some 78, .load 24 (.tmp 77), none, true⟩,
  ⟨some 6, .alloc 24, none, true⟩,
  ⟨none, .store 24 (.tmp 6) (.tmp 78), none, true⟩]
theorem k55_r13_e : type_of% (@Eo_of P pr N e σ Q _ _ k55_r13.eq_1) := Eo_of k55_r13.eq_1
def k55_r14 : CC := (.wregion [
  (true, ⟨some 79, .load 24 (.tmp 6), none, false⟩),
  (false, ⟨some 80, .move (.tmp 1), none, true⟩),
  (false, ⟨some 81, .call { callee := .value (.func 21), args := #[.tmp 80], argTypes := #[9] }, none, true⟩),
  (true, ⟨some 82, .call { callee := .value (.func 55), args := #[.tmp 79, .tmp 81], argTypes := #[24, 9] }, none, true⟩),
  (false, ⟨some 83, .unOp .not 4 (.tmp 82), none, true⟩)] false [(0, ⟨some 79, .load 24 (.tmp 6), none, false⟩, [0, 3])])
theorem k55_r14_e : type_of% (@Ev_of P pr N e σ Q _ _ k55_r14.eq_1) := Ev_of k55_r14.eq_1
def k55_r15 : List COp := [
  ⟨some 4, .assign (.const (.bool false)), none, true⟩]
theorem k55_r15_e : type_of% (@Eo_of P pr N e σ Q _ _ k55_r15.eq_1) := Eo_of k55_r15.eq_1
def k55_r16 : List COp := [
  ⟨some 84, .binOp .add 3 (.tmp 75) (.const (.int .i64 1)) 3, none, true⟩,
  ⟨some 75, .move (.tmp 84), none, true⟩]
theorem k55_r16_e : type_of% (@Eo_of P pr N e σ Q _ _ k55_r16.eq_1) := Eo_of k55_r16.eq_1
def k55_l0 : CC := (.seq (.region k55_r12) (.seq (.cond (.tmp 76) .skip (.exit 1)) (.seq (.block 2 (.seq (.region k55_r13) (.seq k55_r14 (.cond (.tmp 83) (.seq (.region k55_r15) .ret) .skip)))) (.region k55_r16))))
theorem k55_l0_e : type_of% (@Ev_of P pr N e σ Q _ _ k55_l0.eq_1) := Ev_of k55_l0.eq_1
def k55_r17 : List COp := [
  ⟨some 85, .fieldAddr 24 (.tmp 2) 3, none, true⟩,
  ⟨some 86, .load 22 (.tmp 85), none, true⟩,
  ⟨some 87, .call { callee := .builtin .len, args := #[.tmp 86], argTypes := #[22] }, none, true⟩,
  ⟨some 88, .binOp .leq 3 (.tmp 87) (.const (.int .i64 64)) 3, none, true⟩,
  ⟨some 4, .assign (.tmp 88), none, true⟩]
theorem k55_r17_e : type_of% (@Eo_of P pr N e σ Q _ _ k55_r17.eq_1) := Eo_of k55_r17.eq_1
def k55_r18 : List COp := [
  ⟨some 90, .binOp .eql 3 (.tmp 53) (.const (.int .i64 5)) 3, none, true⟩,
  ⟨some 89, .assign (.tmp 90), none, true⟩]
theorem k55_r18_e : type_of% (@Eo_of P pr N e σ Q _ _ k55_r18.eq_1) := Eo_of k55_r18.eq_1
def k55_r19 : List COp := [
  ⟨some 92, .move (.tmp 1), none, true⟩,
  ⟨some 93, .call { callee := .value (.func 20), args := #[.tmp 92], argTypes := #[9] }, none, true⟩,
  ⟨some 91, .move (.tmp 93), none, true⟩,
  ⟨some 94, .extract (.tmp 91) 0, none, true⟩,
  ⟨some 95, .extract (.tmp 91) 1, none, true⟩,
  ⟨some 7, .assign (.tmp 94), none, true⟩,
  ⟨some 8, .assign (.tmp 95), none, true⟩]
theorem k55_r19_e : type_of% (@Eo_of P pr N e σ Q _ _ k55_r19.eq_1) := Eo_of k55_r19.eq_1
def k55_r20 : List COp := [
  ⟨some 96, .fieldAddr 24 (.tmp 2) 3, none, true⟩,
  ⟨some 97, .load 22 (.tmp 96), none, true⟩,
  ⟨some 98, .call { callee := .builtin .len, args := #[.tmp 97], argTypes := #[22] }, none, true⟩,
  ⟨some 99, .binOp .rem 3 (.tmp 98) (.const (.int .i64 2)) 3, none, true⟩,
  ⟨some 100, .binOp .eql 3 (.tmp 99) (.const (.int .i64 1)) 3, none, true⟩,
  ⟨some 101, .move (.tmp 100), none, true⟩,
  ⟨some 102, .fieldAddr 24 (.tmp 2) 3, some (101, false), true⟩,
  ⟨some 103, .load 22 (.tmp 102), some (101, false), true⟩,
  ⟨some 104, .call { callee := .builtin .len, args := #[.tmp 103], argTypes := #[22] }, some (101, false), true⟩,
  ⟨some 105, .binOp .gtr 3 (.tmp 104) (.const (.int .i64 128)) 3, some (101, false), true⟩,
  ⟨some 106, .pick (.tmp 101) (.const (.bool true)) (.tmp 105), none, true⟩]
theorem k55_r20_e : type_of% (@Eo_of P pr N e σ Q _ _ k55_r20.eq_1) := Eo_of k55_r20.eq_1
def k55_r21 : List COp := [
  ⟨some 4, .assign (.const (.bool false)), none, true⟩]
theorem k55_r21_e : type_of% (@Eo_of P pr N e σ Q _ _ k55_r21.eq_1) := Eo_of k55_r21.eq_1
def k55_r22 : List COp := [
  ⟨some 107, .fieldAddr 24 (.tmp 2) 3, none, true⟩,
  ⟨some 108, .load 22 (.tmp 107), none, true⟩,
  ⟨some 109, .call { callee := .builtin .len, args := #[.tmp 108], argTypes := #[22] }, none, true⟩,
  ⟨some 110, .move (.const (.int .i64 0)), none, true⟩]
theorem k55_r22_e : type_of% (@Eo_of P pr N e σ Q _ _ k55_r22.eq_1) := Eo_of k55_r22.eq_1
def k55_r23 : List COp := [
  ⟨some 111, .binOp .lss 3 (.tmp 110) (.tmp 109) 3, none, true⟩]
theorem k55_r23_e : type_of% (@Eo_of P pr N e σ Q _ _ k55_r23.eq_1) := Eo_of k55_r23.eq_1
def k55_r24 : List COp := [
  ⟨some 112, .move (.tmp 110), none, true⟩,
  ⟨some 113, .indexAddr 22 (.tmp 108) (.tmp 110), none, true⟩,
  ⟨some 114, .load 24 (.tmp 113), none, true⟩,
  ⟨some 10, .alloc 24, none, true⟩,
  ⟨some 9, .assign (.tmp 112), none, true⟩,
  ⟨none, .store 24 (.tmp 10) (.tmp 114), none, true⟩]
theorem k55_r24_e : type_of% (@Eo_of P pr N e σ Q _ _ k55_r24.eq_1) := Eo_of k55_r24.eq_1
def k55_r25 : List COp := [
  ⟨some 115, .move (.tmp 7), none, true⟩,
  ⟨some 11, .assign (.tmp 115), none, true⟩]
theorem k55_r25_e : type_of% (@Eo_of P pr N e σ Q _ _ k55_r25.eq_1) := Eo_of k55_r25.eq_1
def k55_r26 : List COp := [
  ⟨some 116, .move (.tmp 9), none, true⟩,
  ⟨some 117, .binOp .rem 3 (.tmp 116) (.const (.int .i64 2)) 3, none, true⟩,
  ⟨some 118, .binOp .eql 3 (.tmp 117) (.const (.int .i64 1)) 3, none, true⟩]
theorem k55_r26_e : type_of% (@Eo_of P pr N e σ Q _ _ k55_r26.eq_1) := Eo_of k55_r26.eq_1
def k55_r27 : List COp := [
  ⟨some 119, .move (.tmp 8), none, true⟩,
  ⟨some 11, .assign (.tmp 119), none, true⟩]
theorem k55_r27_e : type_of% (@Eo_of P pr N e σ Q _ _ k55_r27.eq_1) := Eo_of k55_r27.eq_1
def k55_r28 : List COp := [
  ⟨some 120, .load 24 (.tmp 10), none, false⟩,
  ⟨some 121, .move (.tmp 11), none, true⟩,
  ⟨some 122, .call { callee := .value (.func 55), args := #[.tmp 120, .tmp 121], argTypes := #[24, 9] }, none, true⟩,
  ⟨some 123, .unOp .not 4 (.tmp 122), none, true⟩,
  ⟨some 124, .move (.tmp 123), none, true⟩,
  ⟨some 125, .move (.tmp 9), some (124, false), true⟩,
  ⟨some 126, .binOp .rem 3 (.tmp 125) (.const (.int .i64 2)) 3, some (124, false), true⟩,
  ⟨some 127, .binOp .eql 3 (.tmp 126) (.const (.int .i64 0)) 3, some (124, false), true⟩,
  ⟨some 128, .move (.tmp 127), some (124, false), true⟩,
  ⟨some 129, .move (.tmp 9), some (128, true), true⟩,
  ⟨some 130, .binOp .gtr 3 (.tmp 129) (.const (.int .i64 1)) 3, some (128, true), true⟩,
  ⟨some 131, .pick (.tmp 128) (.tmp 130) (.const (.bool false)), some (124, false), true⟩,
  ⟨some 132, .move (.tmp 131), some (124, false), true⟩,
  ⟨some 133, .fieldAddr 24 (.tmp 2) 3, some (132, true), false⟩,
  ⟨some 134, .load 22 (.tmp 133), some (132, true), false⟩,
  ⟨some 135, .move (.tmp 9), some (132, true), false⟩,
  ⟨some 136, .binOp .sub 3 (.tmp 135) (.const (.int .i64 2)) 3, some (132, true), false⟩,
  ⟨some 137, .indexAddr 22 (.tmp 134) (.tmp 136), some (132, true), false⟩,
  ⟨some 138, .load 24 (.tmp 137), some (132, true), false⟩,
  ⟨some 139, .load 24 (.tmp 10), some (132, true), true⟩,
  ⟨some 140, .call { callee := .value (.func 27), args := #[.tmp 138, .tmp 139], argTypes := #[24, 24] }, some (132, true), true⟩,
  ⟨some 141, .binOp .geq 3 (.tmp 140) (.const (.int .i64 0)) 3, some (132, true), true⟩,
  ⟨some 142, .pick (.tmp 132) (.tmp 141) (.const (.bool false)), some (124, false), true⟩,
  ⟨some 143, .pick (.tmp 124) (.const (.bool true)) (.tmp 142), none, true⟩]
theorem k55_r28_e : type_of% (@Eo_of P pr N e σ Q _ _ k55_r28.eq_1) := Eo_of k55_r28.eq_1
def k55_r29 : List COp := [
  ⟨some 4, .assign (.const (.bool false)), none, true⟩]
theorem k55_r29_e : type_of% (@Eo_of P pr N e σ Q _ _ k55_r29.eq_1) := Eo_of k55_r29.eq_1
def k55_r30 : List COp := [
  ⟨some 144, .binOp .add 3 (.tmp 110) (.const (.int .i64 1)) 3, none, true⟩,
  ⟨some 110, .move (.tmp 144), none, true⟩]
theorem k55_r30_e : type_of% (@Eo_of P pr N e σ Q _ _ k55_r30.eq_1) := Eo_of k55_r30.eq_1
def k55_l1 : CC := (.seq (.region k55_r23) (.seq (.cond (.tmp 111) .skip (.exit 3)) (.seq (.block 4 (.seq (.region k55_r24) (.seq (.region k55_r25) (.seq (.seq (.region k55_r26) (.cond (.tmp 118) (.region k55_r27) .skip)) (.seq (.region k55_r28) (.cond (.tmp 143) (.seq (.region k55_r29) .ret) .skip)))))) (.region k55_r30))))
theorem k55_l1_e : type_of% (@Ev_of P pr N e σ Q _ _ k55_l1.eq_1) := Ev_of k55_l1.eq_1
def k55_r31 : List COp := [
  ⟨some 4, .assign (.const (.bool true)), none, true⟩]
theorem k55_r31_e : type_of% (@Eo_of P pr N e σ Q _ _ k55_r31.eq_1) := Eo_of k55_r31.eq_1
def k55 : CC := (.seq (.region k55_r0) (.seq (.seq k55_r1 (.cond (.tmp 22) (.seq (.region k55_r2) .ret) .skip)) (.seq (.seq (.region k55_r3) (.cond (.tmp 51) (.seq (.region k55_r4) .ret) .skip)) (.seq (.seq (.region k55_r5) (.block 0 (.seq (.region k55_r6) (.cond (.tmp 54) (.seq (.region k55_r7) .ret) (.seq (.region k55_r8) (.cond (.tmp 64) (.seq (.region k55_r9) .ret) (.seq (.region k55_r10) (.cond (.tmp 70) (.seq (.seq (.region k55_r11) (.block 1 (.loop k55_l0))) (.seq (.region k55_r17) .ret)) (.seq (.region k55_r18) (.cond (.tmp 89) (.seq (.region k55_r19) (.seq (.seq (.region k55_r20) (.cond (.tmp 106) (.seq (.region k55_r21) .ret) .skip)) (.seq (.region k55_r22) (.block 3 (.loop k55_l1))))) .skip)))))))))) (.seq (.region k55_r31) .ret)))))
theorem k55_e : type_of% (@Ev_of P pr N e σ Q _ _ k55.eq_1) := Ev_of k55.eq_1
theorem k55_a : type_of% @k55_e ∧ type_of% @k55_r0_e ∧ type_of% @k55_r1_e ∧ type_of% @k55_r2_e ∧ type_of% @k55_r3_e ∧ type_of% @k55_r4_e ∧ type_of% @k55_r5_e ∧ type_of% @k55_r6_e ∧ type_of% @k55_r7_e ∧ type_of% @k55_r8_e ∧ type_of% @k55_r9_e ∧ type_of% @k55_r10_e ∧ type_of% @k55_r11_e ∧ type_of% @k55_r12_e ∧ type_of% @k55_r13_e ∧ type_of% @k55_r14_e ∧ type_of% @k55_r15_e ∧ type_of% @k55_r16_e ∧ type_of% @k55_l0_e ∧ type_of% @k55_r17_e ∧ type_of% @k55_r18_e ∧ type_of% @k55_r19_e ∧ type_of% @k55_r20_e ∧ type_of% @k55_r21_e ∧ type_of% @k55_r22_e ∧ type_of% @k55_r23_e ∧ type_of% @k55_r24_e ∧ type_of% @k55_r25_e ∧ type_of% @k55_r26_e ∧ type_of% @k55_r27_e ∧ type_of% @k55_r28_e ∧ type_of% @k55_r29_e ∧ type_of% @k55_r30_e ∧ type_of% @k55_l1_e ∧ type_of% @k55_r31_e := ⟨@k55_e, @k55_r0_e, @k55_r1_e, @k55_r2_e, @k55_r3_e, @k55_r4_e, @k55_r5_e, @k55_r6_e, @k55_r7_e, @k55_r8_e, @k55_r9_e, @k55_r10_e, @k55_r11_e, @k55_r12_e, @k55_r13_e, @k55_r14_e, @k55_r15_e, @k55_r16_e, @k55_l0_e, @k55_r17_e, @k55_r18_e, @k55_r19_e, @k55_r20_e, @k55_r21_e, @k55_r22_e, @k55_r23_e, @k55_r24_e, @k55_r25_e, @k55_r26_e, @k55_r27_e, @k55_r28_e, @k55_r29_e, @k55_r30_e, @k55_l1_e, @k55_r31_e⟩
/-- quern/quernref09.of -/
theorem k55_is : FnIs Try.prog prims 55 145 [ResultVar.tmp 4] k55 := FnIs.of_fn Try.func55 (by kernel_rfl) rfl
def k56_r0 : List COp := [
  ⟨some 2, .assign (.const (.int .i64 0)), none, true⟩]
theorem k56_r0_e : type_of% (@Eo_of P pr N e σ Q _ _ k56_r0.eq_1) := Eo_of k56_r0.eq_1
def k56_r1 : List COp := [
  ⟨some 3, .assign (.const (.int .i64 0)), none, true⟩]
theorem k56_r1_e : type_of% (@Eo_of P pr N e σ Q _ _ k56_r1.eq_1) := Eo_of k56_r1.eq_1
def k56_r2 : List COp := [
  ⟨some 6, .move (.tmp 0), none, true⟩,
  ⟨some 7, .call { callee := .builtin .len, args := #[.tmp 6], argTypes := #[86] }, none, true⟩,
  ⟨some 8, .move (.const (.int .i64 0)), none, true⟩]
theorem k56_r2_e : type_of% (@Eo_of P pr N e σ Q _ _ k56_r2.eq_1) := Eo_of k56_r2.eq_1
def k56_r3 : List COp := [
  ⟨some 9, .binOp .lss 3 (.tmp 8) (.tmp 7) 3, none, true⟩]
theorem k56_r3_e : type_of% (@Eo_of P pr N e σ Q _ _ k56_r3.eq_1) := Eo_of k56_r3.eq_1
def k56_r4 : List COp := [
  ⟨some 10, .indexAddr 86 (.tmp 6) (.tmp 8), none, true⟩,
  ⟨some 11, .load 3 (.tmp 10), none, true⟩,
  ⟨some 5, .assign (.tmp 11), none, true⟩]
theorem k56_r4_e : type_of% (@Eo_of P pr N e σ Q _ _ k56_r4.eq_1) := Eo_of k56_r4.eq_1
def k56_r5 : List COp := [
  ⟨some 12, .move (.tmp 5), none, true⟩,
  ⟨some 13, .move (.tmp 3), none, true⟩,
  ⟨some 14, .binOp .neq 3 (.tmp 12) (.tmp 13) 3, none, true⟩]
theorem k56_r5_e : type_of% (@Eo_of P pr N e σ Q _ _ k56_r5.eq_1) := Eo_of k56_r5.eq_1
def k56_r6 : List COp := [
  ⟨some 15, .move (.tmp 5), none, true⟩,
  ⟨some 2, .assign (.tmp 15), none, true⟩]
theorem k56_r6_e : type_of% (@Eo_of P pr N e σ Q _ _ k56_r6.eq_1) := Eo_of k56_r6.eq_1
def k56_r7 : List COp := [
  ⟨some 16, .binOp .add 3 (.tmp 8) (.const (.int .i64 1)) 3, none, true⟩,
  ⟨some 8, .move (.tmp 16), none, true⟩]
theorem k56_r7_e : type_of% (@Eo_of P pr N e σ Q _ _ k56_r7.eq_1) := Eo_of k56_r7.eq_1
def k56_l0 : CC := (.seq (.region k56_r3) (.seq (.cond (.tmp 9) .skip (.exit 0)) (.seq (.block 1 (.seq (.region k56_r4) (.seq (.region k56_r5) (.cond (.tmp 14) (.seq (.region k56_r6) .ret) .skip)))) (.region k56_r7))))
theorem k56_l0_e : type_of% (@Ev_of P pr N e σ Q _ _ k56_l0.eq_1) := Ev_of k56_l0.eq_1
def k56_r8 : List COp := [
  ⟨some 17, .move (.tmp 3), none, true⟩,
  ⟨some 2, .assign (.tmp 17), none, true⟩]
theorem k56_r8_e : type_of% (@Eo_of P pr N e σ Q _ _ k56_r8.eq_1) := Eo_of k56_r8.eq_1
def k56 : CC := (.seq (.region k56_r0) (.seq (.region k56_r1) (.seq (.seq (.region k56_r2) (.block 0 (.loop k56_l0))) (.seq (.region k56_r8) .ret))))
theorem k56_e : type_of% (@Ev_of P pr N e σ Q _ _ k56.eq_1) := Ev_of k56.eq_1
theorem k56_a : type_of% @k56_e ∧ type_of% @k56_r0_e ∧ type_of% @k56_r1_e ∧ type_of% @k56_r2_e ∧ type_of% @k56_r3_e ∧ type_of% @k56_r4_e ∧ type_of% @k56_r5_e ∧ type_of% @k56_r6_e ∧ type_of% @k56_r7_e ∧ type_of% @k56_l0_e ∧ type_of% @k56_r8_e := ⟨@k56_e, @k56_r0_e, @k56_r1_e, @k56_r2_e, @k56_r3_e, @k56_r4_e, @k56_r5_e, @k56_r6_e, @k56_r7_e, @k56_l0_e, @k56_r8_e⟩
/-- cmp.Or[int] -/
theorem k56_is : FnIs Try.prog prims 56 18 [ResultVar.tmp 2] k56 := FnIs.of_fn Try.func56 (by kernel_rfl) rfl
def k57_r0 : List COp := [
  ⟨some 4, .assign (.const (.int .i64 0)), none, true⟩]
theorem k57_r0_e : type_of% (@Eo_of P pr N e σ Q _ _ k57_r0.eq_1) := Eo_of k57_r0.eq_1
def k57_r1 : List COp := [
  ⟨some 7, .move (.tmp 0), none, true⟩,
  ⟨some 8, .call { callee := .value (.func 78), args := #[.tmp 7], argTypes := #[3] }, none, true⟩,
  ⟨some 5, .assign (.tmp 8), none, true⟩]
theorem k57_r1_e : type_of% (@Eo_of P pr N e σ Q _ _ k57_r1.eq_1) := Eo_of k57_r1.eq_1
def k57_r2 : List COp := [
  ⟨some 9, .move (.tmp 1), none, true⟩,
  ⟨some 10, .call { callee := .value (.func 78), args := #[.tmp 9], argTypes := #[3] }, none, true⟩,
  ⟨some 6, .assign (.tmp 10), none, true⟩]
theorem k57_r2_e : type_of% (@Eo_of P pr N e σ Q _ _ k57_r2.eq_1) := Eo_of k57_r2.eq_1
def k57_r3 : List COp := [
  ⟨some 11, .move (.tmp 5), none, true⟩]
theorem k57_r3_e : type_of% (@Eo_of P pr N e σ Q _ _ k57_r3.eq_1) := Eo_of k57_r3.eq_1
def k57_r4 : List COp := [
  ⟨some 12, .move (.tmp 6), none, true⟩]
theorem k57_r4_e : type_of% (@Eo_of P pr N e σ Q _ _ k57_r4.eq_1) := Eo_of k57_r4.eq_1
def k57_r5 : List COp := [
  ⟨some 4, .assign (.const (.int .i64 0)), none, true⟩]
theorem k57_r5_e : type_of% (@Eo_of P pr N e σ Q _ _ k57_r5.eq_1) := Eo_of k57_r5.eq_1
def k57_r6 : List COp := [
  ⟨some 4, .assign (.const (.int .i64 (-1))), none, true⟩]
theorem k57_r6_e : type_of% (@Eo_of P pr N e σ Q _ _ k57_r6.eq_1) := Eo_of k57_r6.eq_1
def k57_r7 : List COp := [
  ⟨some 13, .move (.tmp 6), none, true⟩]
theorem k57_r7_e : type_of% (@Eo_of P pr N e σ Q _ _ k57_r7.eq_1) := Eo_of k57_r7.eq_1
def k57_r8 : List COp := [
  ⟨some 4, .assign (.const (.int .i64 1)), none, true⟩]
theorem k57_r8_e : type_of% (@Eo_of P pr N e σ Q _ _ k57_r8.eq_1) := Eo_of k57_r8.eq_1
def k57_r9 : List COp := [
  ⟨some 14, .move (.tmp 0), none, true⟩,
  ⟨some 15, .move (.tmp 1), none, true⟩,
  ⟨some 16, .binOp .lss 3 (.tmp 14) (.tmp 15) 3, none, true⟩]
theorem k57_r9_e : type_of% (@Eo_of P pr N e σ Q _ _ k57_r9.eq_1) := Eo_of k57_r9.eq_1
def k57_r10 : List COp := [
  ⟨some 4, .assign (.const (.int .i64 (-1))), none, true⟩]
theorem k57_r10_e : type_of% (@Eo_of P pr N e σ Q _ _ k57_r10.eq_1) := Eo_of k57_r10.eq_1
def k57_r11 : List COp := [
  ⟨some 17, .move (.tmp 0), none, true⟩,
  ⟨some 18, .move (.tmp 1), none, true⟩,
  ⟨some 19, .binOp .gtr 3 (.tmp 17) (.tmp 18) 3, none, true⟩]
theorem k57_r11_e : type_of% (@Eo_of P pr N e σ Q _ _ k57_r11.eq_1) := Eo_of k57_r11.eq_1
def k57_r12 : List COp := [
  ⟨some 4, .assign (.const (.int .i64 1)), none, true⟩]
theorem k57_r12_e : type_of% (@Eo_of P pr N e σ Q _ _ k57_r12.eq_1) := Eo_of k57_r12.eq_1
def k57_r13 : List COp := [
  ⟨some 4, .assign (.const (.int .i64 0)), none, true⟩]
theorem k57_r13_e : type_of% (@Eo_of P pr N e σ Q _ _ k57_r13.eq_1) := Eo_of k57_r13.eq_1
def k57 : CC := (.seq (.region k57_r0) (.seq (.region k57_r1) (.seq (.region k57_r2) (.seq (.seq (.region k57_r3) (.cond (.tmp 11) (.seq (.seq (.region k57_r4) (.cond (.tmp 12) (.seq (.region k57_r5) .ret) .skip)) (.seq (.region k57_r6) .ret)) .skip)) (.seq (.seq (.region k57_r7) (.cond (.tmp 13) (.seq (.region k57_r8) .ret) .skip)) (.seq (.seq (.region k57_r9) (.cond (.tmp 16) (.seq (.region k57_r10) .ret) .skip)) (.seq (.seq (.region k57_r11) (.cond (.tmp 19) (.seq (.region k57_r12) .ret) .skip)) (.seq (.region k57_r13) .ret))))))))
theorem k57_e : type_of% (@Ev_of P pr N e σ Q _ _ k57.eq_1) := Ev_of k57.eq_1
theorem k57_a : type_of% @k57_e ∧ type_of% @k57_r0_e ∧ type_of% @k57_r1_e ∧ type_of% @k57_r2_e ∧ type_of% @k57_r3_e ∧ type_of% @k57_r4_e ∧ type_of% @k57_r5_e ∧ type_of% @k57_r6_e ∧ type_of% @k57_r7_e ∧ type_of% @k57_r8_e ∧ type_of% @k57_r9_e ∧ type_of% @k57_r10_e ∧ type_of% @k57_r11_e ∧ type_of% @k57_r12_e ∧ type_of% @k57_r13_e := ⟨@k57_e, @k57_r0_e, @k57_r1_e, @k57_r2_e, @k57_r3_e, @k57_r4_e, @k57_r5_e, @k57_r6_e, @k57_r7_e, @k57_r8_e, @k57_r9_e, @k57_r10_e, @k57_r11_e, @k57_r12_e, @k57_r13_e⟩
/-- cmp.Compare[int] -/
theorem k57_is : FnIs Try.prog prims 57 20 [ResultVar.tmp 4] k57 := FnIs.of_fn Try.func57 (by kernel_rfl) rfl
def k59_r0 : List COp := [
  ⟨some 6, .assign (.const (.int .i64 0)), none, true⟩]
theorem k59_r0_e : type_of% (@Eo_of P pr N e σ Q _ _ k59_r0.eq_1) := Eo_of k59_r0.eq_1
def k59_r1 : List COp := [
  ⟨some 11, .move (.tmp 0), none, true⟩,
  ⟨some 12, .call { callee := .builtin .len, args := #[.tmp 11], argTypes := #[22] }, none, true⟩,
  ⟨some 13, .move (.const (.int .i64 0)), none, true⟩]
theorem k59_r1_e : type_of% (@Eo_of P pr N e σ Q _ _ k59_r1.eq_1) := Eo_of k59_r1.eq_1
def k59_r2 : List COp := [
  ⟨some 14, .binOp .lss 3 (.tmp 13) (.tmp 12) 3, none, true⟩]
theorem k59_r2_e : type_of% (@Eo_of P pr N e σ Q _ _ k59_r2.eq_1) := Eo_of k59_r2.eq_1
def k59_r3 : List COp := [
  ⟨some 15, .move (.tmp 13), none, true⟩,
  ⟨some 16, .indexAddr 22 (.tmp 11) (.tmp 13), none, true⟩,
  ⟨some 17, .load 24 (.tmp 16), none, true⟩,
  ⟨some 8, .alloc 24, none, true⟩,
  ⟨some 7, .assign (.tmp 15), none, true⟩,
  ⟨none, .store 24 (.tmp 8) (.tmp 17), none, true⟩]
theorem k59_r3_e : type_of% (@Eo_of P pr N e σ Q _ _ k59_r3.eq_1) := Eo_of k59_r3.eq_1
def k59_r4 : List COp := [
  ⟨some 18, .move (.tmp 7), none, true⟩,
  ⟨some 19, .move (.tmp 1), none, true⟩,
  ⟨some 20, .call { callee := .builtin .len, args := #[.tmp 19], argTypes := #[22] }, none, true⟩,
  ⟨some 21, .binOp .geq 3 (.tmp 18) (.tmp 20) 3, none, true⟩]
theorem k59_r4_e : type_of% (@Eo_of P pr N e σ Q _ _ k59_r4.eq_1) := Eo_of k59_r4.eq_1
def k59_r5 : List COp := [
  ⟨some 6, .assign (.const (.int .i64 1)), none, true⟩]
theorem k59_r5_e : type_of% (@Eo_of P pr N e σ Q _ _ k59_r5.eq_1) := Eo_of k59_r5.eq_1
def k59_r6 : List COp := [
  ⟨some 22, .move (.tmp 1), none, true⟩,
  ⟨some 23, .move (.tmp 7), none, true⟩,
  ⟨some 24, .indexAddr 22 (.tmp 22) (.tmp 23), none, true⟩,
  ⟨some 25, .load 24 (.tmp 24), none, true⟩,
  ⟨some 9, .alloc 24, none, true⟩,
  ⟨none, .store 24 (.tmp 9) (.tmp 25), none, true⟩]
theorem k59_r6_e : type_of% (@Eo_of P pr N e σ Q _ _ k59_r6.eq_1) := Eo_of k59_r6.eq_1
def k59_r7 : List COp := [
  ⟨some 26, .move (.tmp 2), none, true⟩,
  ⟨some 27, .load 24 (.tmp 8), none, true⟩,
  ⟨some 28, .load 24 (.tmp 9), none, true⟩,
  ⟨some 29, .call { callee := .value (.tmp 26), args := #[.tmp 27, .tmp 28], argTypes := #[24, 24] }, none, true⟩,
  ⟨some 10, .assign (.tmp 29), none, true⟩]
theorem k59_r7_e : type_of% (@Eo_of P pr N e σ Q _ _ k59_r7.eq_1) := Eo_of k59_r7.eq_1
def k59_r8 : List COp := [
  ⟨some 30, .move (.tmp 10), none, true⟩,
  ⟨some 31, .binOp .neq 3 (.tmp 30) (.const (.int .i64 0)) 3, none, true⟩]
theorem k59_r8_e : type_of% (@Eo_of P pr N e σ Q _ _ k59_r8.eq_1) := Eo_of k59_r8.eq_1
def k59_r9 : List COp := [
  ⟨some 32, .move (.tmp 10), none, true⟩,
  ⟨some 6, .assign (.tmp 32), none, true⟩]
theorem k59_r9_e : type_of% (@Eo_of P pr N e σ Q _ _ k59_r9.eq_1) := Eo_of k59_r9.eq_1
def k59_r10 : List COp := [
  ⟨some 33, .binOp .add 3 (.tmp 13) (.const (.int .i64 1)) 3, none, true⟩,
  ⟨some 13, .move (.tmp 33), none, true⟩]
theorem k59_r10_e : type_of% (@Eo_of P pr N e σ Q _ _ k59_r10.eq_1) := Eo_of k59_r10.eq_1
def k59_l0 : CC := (.seq (.region k59_r2) (.seq (.cond (.tmp 14) .skip (.exit 0)) (.seq (.block 1 (.seq (.region k59_r3) (.seq (.seq (.region k59_r4) (.cond (.tmp 21) (.seq (.region k59_r5) .ret) .skip)) (.seq (.region k59_r6) (.seq (.region k59_r7) (.seq (.region k59_r8) (.cond (.tmp 31) (.seq (.region k59_r9) .ret) .skip))))))) (.region k59_r10))))
theorem k59_l0_e : type_of% (@Ev_of P pr N e σ Q _ _ k59_l0.eq_1) := Ev_of k59_l0.eq_1
def k59_r11 : List COp := [
  ⟨some 34, .move (.tmp 0), none, true⟩,
  ⟨some 35, .call { callee := .builtin .len, args := #[.tmp 34], argTypes := #[22] }, none, true⟩,
  ⟨some 36, .move (.tmp 1), none, true⟩,
  ⟨some 37, .call { callee := .builtin .len, args := #[.tmp 36], argTypes := #[22] }, none, true⟩,
  ⟨some 38, .binOp .lss 3 (.tmp 35) (.tmp 37) 3, none, true⟩]
theorem k59_r11_e : type_of% (@Eo_of P pr N e σ Q _ _ k59_r11.eq_1) := Eo_of k59_r11.eq_1
def k59_r12 : List COp := [
  ⟨some 6, .assign (.const (.int .i64 (-1))), none, true⟩]
theorem k59_r12_e : type_of% (@Eo_of P pr N e σ Q _ _ k59_r12.eq_1) := Eo_of k59_r12.eq_1
def k59_r13 : List COp := [
  ⟨some 6, .assign (.const (.int .i64 0)), none, true⟩]
theorem k59_r13_e : type_of% (@Eo_of P pr N e σ Q _ _ k59_r13.eq_1) := Eo_of k59_r13.eq_1
def k59 : CC := (.seq (.region k59_r0) (.seq (.seq (.region k59_r1) (.block 0 (.loop k59_l0))) (.seq (.seq (.region k59_r11) (.cond (.tmp 38) (.seq (.region k59_r12) .ret) .skip)) (.seq (.region k59_r13) .ret))))
theorem k59_e : type_of% (@Ev_of P pr N e σ Q _ _ k59.eq_1) := Ev_of k59.eq_1
theorem k59_a : type_of% @k59_e ∧ type_of% @k59_r0_e ∧ type_of% @k59_r1_e ∧ type_of% @k59_r2_e ∧ type_of% @k59_r3_e ∧ type_of% @k59_r4_e ∧ type_of% @k59_r5_e ∧ type_of% @k59_r6_e ∧ type_of% @k59_r7_e ∧ type_of% @k59_r8_e ∧ type_of% @k59_r9_e ∧ type_of% @k59_r10_e ∧ type_of% @k59_l0_e ∧ type_of% @k59_r11_e ∧ type_of% @k59_r12_e ∧ type_of% @k59_r13_e := ⟨@k59_e, @k59_r0_e, @k59_r1_e, @k59_r2_e, @k59_r3_e, @k59_r4_e, @k59_r5_e, @k59_r6_e, @k59_r7_e, @k59_r8_e, @k59_r9_e, @k59_r10_e, @k59_l0_e, @k59_r11_e, @k59_r12_e, @k59_r13_e⟩
/-- slices.CompareFunc[[]quern/api.Value,[]quern/api.Value,quern/api.Value,quern/api.Value] -/
theorem k59_is : FnIs Try.prog prims 59 39 [ResultVar.tmp 6] k59 := FnIs.of_fn Try.func59 (by kernel_rfl) rfl
def k60_r0 : List COp := [
  ⟨some 3, .box 24 (.tmp 1), none, true⟩,
  ⟨some 4, .assign (.const (.slice .none 0 0)), none, true⟩]
theorem k60_r0_e : type_of% (@Eo_of P pr N e σ Q _ _ k60_r0.eq_1) := Eo_of k60_r0.eq_1
def k60_r1 : List COp := [
  ⟨some 8, .fieldAddr 24 (.tmp 3) 0, none, true⟩,
  ⟨some 9, .load 3 (.tmp 8), none, true⟩]
theorem k60_r1_e : type_of% (@Eo_of P pr N e σ Q _ _ k60_r1.eq_1) := Eo_of k60_r1.eq_1
def k60_r2 : List COp := [
  ⟨some 11, .binOp .eql 3 (.tmp 9) (.const (.int .i64 1)) 3, none, true⟩,
  ⟨some 10, .assign (.tmp 11), none, true⟩]
theorem k60_r2_e : type_of% (@Eo_of P pr N e σ Q _ _ k60_r2.eq_1) := Eo_of k60_r2.eq_1
def k60_r3 : List COp := [
  ⟨some 12, .move (.tmp 0), none, true⟩,
  ⟨some 13, .fieldAddr 24 (.tmp 3) 1, none, true⟩,
  ⟨some 14, .load 3 (.tmp 13), none, true⟩,
  ⟨some 15, .call { callee := .value (.func 81), args := #[.tmp 14], argTypes := #[3] }, none, true⟩,
  ⟨some 16, .call { callee := .value (.func 80), args := #[.tmp 12, .tmp 15], argTypes := #[44, 86] }, none, true⟩,
  ⟨some 4, .assign (.tmp 16), none, true⟩]
theorem k60_r3_e : type_of% (@Eo_of P pr N e σ Q _ _ k60_r3.eq_1) := Eo_of k60_r3.eq_1
def k60_r4 : List COp := [
  ⟨some 18, .binOp .eql 3 (.tmp 9) (.const (.int .i64 2)) 3, none, true⟩,
  ⟨some 17, .assign (.tmp 18), none, true⟩]
theorem k60_r4_e : type_of% (@Eo_of P pr N e σ Q _ _ k60_r4.eq_1) := Eo_of k60_r4.eq_1
def k60_r5 : List COp := [
  ⟨some 19, .move (.tmp 0), none, true⟩,
  ⟨some 20, .fieldAddr 24 (.tmp 3) 1, none, true⟩,
  ⟨some 21, .load 3 (.tmp 20), none, true⟩,
  ⟨some 22, .buildSlice 86 1 #[(0, .tmp 21)], none, true⟩,
  ⟨some 23, .call { callee := .value (.func 80), args := #[.tmp 19, .tmp 22], argTypes := #[44, 86] }, none, true⟩,
  ⟨some 4, .assign (.tmp 23), none, true⟩]
theorem k60_r5_e : type_of% (@Eo_of P pr N e σ Q _ _ k60_r5.eq_1) := Eo_of k60_r5.eq_1
def k60_r6 : List COp := [
  ⟨some 25, .binOp .eql 3 (.tmp 9) (.const (.int .i64 3)) 3, none, true⟩,
  ⟨some 24, .assign (.tmp 25), none, true⟩]
theorem k60_r6_e : type_of% (@Eo_of P pr N e σ Q _ _ k60_r6.eq_1) := Eo_of k60_r6.eq_1
def k60_r7 : CC := (.wregion [
  (true, ⟨some 26, .move (.tmp 0), none, false⟩),
  (false, ⟨some 27, .fieldAddr 24 (.tmp 3) 2, none, false⟩),
  (false, ⟨some 28, .load 9 (.tmp 27), none, false⟩),
  (false, ⟨some 29, .call { callee := .builtin .len, args := #[.tmp 28], argTypes := #[9] }, none, false⟩),
  (false, ⟨some 30, .buildSlice 86 1 #[(0, .tmp 29)], none, false⟩),
  (false, ⟨some 31, .call { callee := .value (.func 80), args := #[.tmp 26, .tmp 30], argTypes := #[44, 86] }, none, false⟩),
  (true, ⟨some 32, .fieldAddr 24 (.tmp 3) 2, none, true⟩),
  (true, ⟨some 33, .load 9 (.tmp 32), none, true⟩),
  (false, ⟨some 34, .call { callee := .builtin .append, args := #[.tmp 31, .tmp 33], argTypes := #[44, 9] }, none, true⟩),
  (false, ⟨some 4, .assign (.tmp 34), none, true⟩)] false [(7, ⟨some 33, .load 9 (.tmp 32), none, true⟩, [0, 6])])
theorem k60_r7_e : type_of% (@Ev_of P pr N e σ Q _ _ k60_r7.eq_1) := Ev_of k60_r7.eq_1
def k60_r8 : List COp := [
  ⟨some 35, .fieldAddr 24 (.tmp 3) 3, none, true⟩,
  ⟨some 36, .load 22 (.tmp 35), none, true⟩,
  ⟨some 37, .call { callee := .builtin .len, args := #[.tmp 36], argTypes := #[22] }, none, true⟩,
  ⟨some 5, .assign (.tmp 37), none, true⟩]
theorem k60_r8_e : type_of% (@Eo_of P pr N e σ Q _ _ k60_r8.eq_1) := Eo_of k60_r8.eq_1
def k60_r9 : List COp := [
  ⟨some 38, .fieldAddr 24 (.tmp 3) 0, none, true⟩,
  ⟨some 39, .load 3 (.tmp 38), none, true⟩,
  ⟨some 40, .binOp .eql 3 (.tmp 39) (.const (.int .i64 5)) 3, none, true⟩]
theorem k60_r9_e : type_of% (@Eo_of P pr N e σ Q _ _ k60_r9.eq_1) := Eo_of k60_r9.eq_1
def k60_r10 : List COp := [
  ⟨some 41, .move (.tmp 5), none, true⟩,
  ⟨some 42, .binOp .quo 3 (.tmp 41) (.const (.int .i64 2)) 3, none, true⟩,
  ⟨some 5, .assign (.tmp 42), none, true⟩]
theorem k60_r10_e : type_of% (@Eo_of P pr N e σ Q _ _ k60_r10.eq_1) := Eo_of k60_r10.eq_1
def k60_r11 : List COp := [
  ⟨some 43, .move (.tmp 0), none, true⟩,
  ⟨some 44, .move (.tmp 5), none, true⟩,
  ⟨some 45, .buildSlice 86 1 #[(0, .tmp 44)], none, true⟩,
  ⟨some 46, .call { callee := .value (.func 80), args := #[.tmp 43, .tmp 45], argTypes := #[44, 86] }, none, true⟩,
  ⟨some 0, .assign (.tmp 46), none, true⟩]
theorem k60_r11_e : type_of% (@Eo_of P pr N e σ Q _ _ k60_r11.eq_1) := Eo_of k60_r11.eq_1
def k60_r12 : List COp := [
  ⟨some 47, .fieldAddr 24 (.tmp 3) 3, none, true⟩,
  ⟨some 48, .load 22 (.tmp 47), none, true⟩,
  ⟨some 49, .call { callee := .builtin .len, args := #[.tmp 48], argTypes := #[22] }, none, true⟩,
  ⟨some 50, .move (.const (.int .i64 0)), none, true⟩]
theorem k60_r12_e : type_of% (@Eo_of P pr N e σ Q _ _ k60_r12.eq_1) := Eo_of k60_r12.eq_1
def k60_r13 : List COp := [
  ⟨some 51, .binOp .lss 3 (.tmp 50) (.tmp 49) 3, none, true⟩]
theorem k60_r13_e : type_of% (@Eo_of P pr N e σ Q _ _ k60_r13.eq_1) := Eo_of k60_r13.eq_1
def k60_r14 : List COp := [
  ⟨some 52, .indexAddr 22 (.tmp 48) (.tmp 50), none, true⟩,
  ⟨some 53, .load 24 (.tmp 52), none, true⟩,
  ⟨some 7, .alloc 24, none, true⟩,
  ⟨none, .store 24 (.tmp 7) (.tmp 53), none, true⟩]
theorem k60_r14_e : type_of% (@Eo_of P pr N e σ Q _ _ k60_r14.eq_1) := Eo_of k60_r14.eq_1
def k60_r15 : List COp := [
  ⟨some 54, .move (.tmp 0), none, true⟩,
  ⟨some 55, .load 24 (.tmp 7), none, true⟩,
  ⟨some 56, .call { callee := .value (.func 60), args := #[.tmp 54, .tmp 55], argTypes := #[44, 24] }, none, true⟩,
  ⟨some 0, .assign (.tmp 56), none, true⟩]
theorem k60_r15_e : type_of% (@Eo_of P pr N e σ Q _ _ k60_r15.eq_1) := Eo_of k60_r15.eq_1
def k60_r16 : List COp := [
  ⟨some 57, .binOp .add 3 (.tmp 50) (.const (.int .i64 1)) 3, none, true⟩,
  ⟨some 50, .move (.tmp 57), none, true⟩]
theorem k60_r16_e : type_of% (@Eo_of P pr N e σ Q _ _ k60_r16.eq_1) := Eo_of k60_r16.eq_1
def k60_l0 : CC := (.seq (.region k60_r13) (.seq (.cond (.tmp 51) .skip (.exit 1)) (.seq (.block 2 (.seq (.region k60_r14) (.region k60_r15))) (.region k60_r16))))
theorem k60_l0_e : type_of% (@Ev_of P pr N e σ Q _ _ k60_l0.eq_1) := Ev_of k60_l0.eq_1
def k60_r17 : List COp := [
  ⟨some 58, .move (.tmp 0), none, true⟩,
  ⟨some 4, .assign (.tmp 58), none, true⟩]
theorem k60_r17_e : type_of% (@Eo_of P pr N e σ Q _ _ k60_r17.eq_1) := Eo_of k60_r17.eq_1
def k60 : CC := (.seq (.region k60_r0) (.seq (.seq (.region k60_r1) (.block 0 (.seq (.region k60_r2) (.cond (.tmp 10) (.seq (.region k60_r3) .ret) (.seq (.region k60_r4) (.cond (.tmp 17) (.seq (.region k60_r5) .ret) (.seq (.region k60_r6) (.cond (.tmp 24) (.seq k60_r7 .ret) .skip)))))))) (.seq (.region k60_r8) (.seq (.seq (.region k60_r9) (.cond (.tmp 40) (.region k60_r10) .skip)) (.seq (.region k60_r11) (.seq (.seq (.region k60_r12) (.block 1 (.loop k60_l0))) (.seq (.region k60_r17) .ret)))))))
theorem k60_e : type_of% (@Ev_of P pr N e σ Q _ _ k60.eq_1) := Ev_of k60.eq_1
theorem k60_a : type_of% @k60_e ∧ type_of% @k60_r0_e ∧ type_of% @k60_r1_e ∧ type_of% @k60_r2_e ∧ type_of% @k60_r3_e ∧ type_of% @k60_r4_e ∧ type_of% @k60_r5_e ∧ type_of% @k60_r6_e ∧ type_of% @k60_r7_e ∧ type_of% @k60_r8_e ∧ type_of% @k60_r9_e ∧ type_of% @k60_r10_e ∧ type_of% @k60_r11_e ∧ type_of% @k60_r12_e ∧ type_of% @k60_r13_e ∧ type_of% @k60_r14_e ∧ type_of% @k60_r15_e ∧ type_of% @k60_r16_e ∧ type_of% @k60_l0_e ∧ type_of% @k60_r17_e := ⟨@k60_e, @k60_r0_e, @k60_r1_e, @k60_r2_e, @k60_r3_e, @k60_r4_e, @k60_r5_e, @k60_r6_e, @k60_r7_e, @k60_r8_e, @k60_r9_e, @k60_r10_e, @k60_r11_e, @k60_r12_e, @k60_r13_e, @k60_r14_e, @k60_r15_e, @k60_r16_e, @k60_l0_e, @k60_r17_e⟩
/-- quern/value.put -/
theorem k60_is : FnIs Try.prog prims 60 59 [ResultVar.tmp 4] k60 := FnIs.of_fn Try.func60 (by kernel_rfl) rfl
def k61_r0 : List COp := [
  ⟨some 1, .box 24 (.tmp 0), none, true⟩,
  ⟨some 2, .assign (.const (.slice .none 0 0)), none, true⟩]
theorem k61_r0_e : type_of% (@Eo_of P pr N e σ Q _ _ k61_r0.eq_1) := Eo_of k61_r0.eq_1
def k61_r1 : List COp := [
  ⟨some 3, .assign (.const (.slice .none 0 0)), none, true⟩]
theorem k61_r1_e : type_of% (@Eo_of P pr N e σ Q _ _ k61_r1.eq_1) := Eo_of k61_r1.eq_1
def k61_r2 : List COp := [
  ⟨some 6, .fieldAddr 24 (.tmp 1) 0, none, true⟩,
  ⟨some 7, .load 3 (.tmp 6), none, true⟩]
theorem k61_r2_e : type_of% (@Eo_of P pr N e σ Q _ _ k61_r2.eq_1) := Eo_of k61_r2.eq_1
def k61_r4 : List COp := [
  ⟨some 14, .binOp .eql 3 (.tmp 7) (.const (.int .i64 1)) 3, none, true⟩,
  ⟨some 13, .assign (.tmp 14), none, true⟩]
theorem k61_r4_e : type_of% (@Eo_of P pr N e σ Q _ _ k61_r4.eq_1) := Eo_of k61_r4.eq_1
def k61_r5 : List COp := [
  ⟨some 15, .fieldAddr 24 (.tmp 1) 1, none, true⟩,
  ⟨some 16, .load 3 (.tmp 15), none, true⟩,
  ⟨some 17, .binOp .lss 3 (.tmp 16) (.const (.int .i64 0)) 3, none, true⟩]
theorem k61_r5_e : type_of% (@Eo_of P pr N e σ Q _ _ k61_r5.eq_1) := Eo_of k61_r5.eq_1
def k61_r6 : List COp := [
  ⟨some 18, .buildSlice 44 1 #[(0, .const (.int .u8 1))], none, true⟩,
  ⟨some 19, .fieldAddr 24 (.tmp 1) 1, none, true⟩,
  ⟨some 20, .load 3 (.tmp 19), none, true⟩,
  ⟨some 21, .binOp .add 3 (.tmp 20) (.const (.int .i64 1)) 3, none, true⟩,
  ⟨some 22, .unOp .neg 3 (.tmp 21), none, true⟩,
  ⟨some 23, .call { callee := .value (.func 82), args := #[.tmp 18, .tmp 22], argTypes := #[44, 3] }, none, true⟩,
  ⟨some 2, .assign (.tmp 23), none, true⟩]
theorem k61_r6_e : type_of% (@Eo_of P pr N e σ Q _ _ k61_r6.eq_1) := Eo_of k61_r6.eq_1
def k61_r7 : List COp := [
  ⟨some 24, .buildSlice 44 1 #[(0, .const (.int .u8 0))], none, true⟩,
  ⟨some 25, .fieldAddr 24 (.tmp 1) 1, none, true⟩,
  ⟨some 26, .load 3 (.tmp 25), none, true⟩,
  ⟨some 27, .call { callee := .value (.func 82), args := #[.tmp 24, .tmp 26], argTypes := #[44, 3] }, none, true⟩,
  ⟨some 2, .assign (.tmp 27), none, true⟩]
theorem k61_r7_e : type_of% (@Eo_of P pr N e σ Q _ _ k61_r7.eq_1) := Eo_of k61_r7.eq_1
def k61_r8 : List COp := [
  ⟨some 29, .binOp .eql 3 (.tmp 7) (.const (.int .i64 2)) 3, none, true⟩,
  ⟨some 28, .assign (.tmp 29), none, true⟩]
theorem k61_r8_e : type_of% (@Eo_of P pr N e σ Q _ _ k61_r8.eq_1) := Eo_of k61_r8.eq_1
def k61_r9 : List COp := [
  ⟨some 30, .fieldAddr 24 (.tmp 1) 1, none, true⟩,
  ⟨some 31, .load 3 (.tmp 30), none, true⟩,
  ⟨some 32, .call { callee := .value (.func 82), args := #[.const (.slice .none 0 0), .tmp 31], argTypes := #[44, 3] }, none, true⟩,
  ⟨some 2, .assign (.tmp 32), none, true⟩]
theorem k61_r9_e : type_of% (@Eo_of P pr N e σ Q _ _ k61_r9.eq_1) := Eo_of k61_r9.eq_1
def k61_r10 : List COp := [
  ⟨some 34, .binOp .eql 3 (.tmp 7) (.const (.int .i64 3)) 3, none, true⟩,
  ⟨some 33, .assign (.tmp 34), none, true⟩]
theorem k61_r10_e : type_of% (@Eo_of P pr N e σ Q _ _ k61_r10.eq_1) := Eo_of k61_r10.eq_1
def k61_r11 : CC := (.wregion [
  (true, ⟨some 35, .fieldAddr 24 (.tmp 1) 2, none, false⟩),
  (false, ⟨some 36, .load 9 (.tmp 35), none, false⟩),
  (false, ⟨some 37, .call { callee := .builtin .len, args := #[.tmp 36], argTypes := #[9] }, none, false⟩),
  (false, ⟨some 38, .call { callee := .value (.func 82), args := #[.const (.slice .none 0 0), .tmp 37], argTypes := #[44, 3] }, none, false⟩),
  (true, ⟨some 39, .fieldAddr 24 (.tmp 1) 2, none, true⟩),
  (true, ⟨some 40, .load 9 (.tmp 39), none, true⟩),
  (false, ⟨some 41, .call { callee := .builtin .append, args := #[.tmp 38, .tmp 40], argTypes := #[44, 9] }, none, true⟩),
  (false, ⟨some 2, .assign (.tmp 41), none, true⟩)] false [(5, ⟨some 40, .load 9 (.tmp 39), none, true⟩, [0, 4])])
theorem k61_r11_e : type_of% (@Ev_of P pr N e σ Q _ _ k61_r11.eq_1) := Ev_of k61_r11.eq_1
def k61_r12 : List COp := [
  ⟨some 43, .binOp .eql 3 (.tmp 7) (.const (.int .i64 4)) 3, none, true⟩,
  ⟨some 42, .assign (.tmp 43), none, true⟩]
theorem k61_r12_e : type_of% (@Eo_of P pr N e σ Q _ _ k61_r12.eq_1) := Eo_of k61_r12.eq_1
def k61_r13 : List COp := [
  ⟨some 44, .fieldAddr 24 (.tmp 1) 3, none, true⟩,
  ⟨some 45, .load 22 (.tmp 44), none, true⟩,
  ⟨some 46, .call { callee := .builtin .len, args := #[.tmp 45], argTypes := #[22] }, none, true⟩,
  ⟨some 47, .call { callee := .value (.func 82), args := #[.const (.slice .none 0 0), .tmp 46], argTypes := #[44, 3] }, none, true⟩,
  ⟨some 3, .assign (.tmp 47), none, true⟩]
theorem k61_r13_e : type_of% (@Eo_of P pr N e σ Q _ _ k61_r13.eq_1) := Eo_of k61_r13.eq_1
def k61_r3 : List COp := [
  ⟨some 8, .fieldAddr 24 (.tmp 1) 3, none, true⟩,
  ⟨some 9, .load 22 (.tmp 8), none, true⟩,
  ⟨some 10, .call { callee := .builtin .len, args := #[.tmp 9], argTypes := #[22] }, none, true⟩,
  ⟨some 11, .binOp .quo 3 (.tmp 10) (.const (.int .i64 2)) 3, none, true⟩,
  ⟨some 12, .call { callee := .value (.func 82), args := #[.const (.slice .none 0 0), .tmp 11], argTypes := #[44, 3] }, none, true⟩,
  ⟨some 3, .assign (.tmp 12), none, true⟩]
theorem k61_r3_e : type_of% (@Eo_of P pr N e σ Q _ _ k61_r3.eq_1) := Eo_of k61_r3.eq_1
def k61_r14 : List COp := [
  ⟨some 48, .fieldAddr 24 (.tmp 1) 3, none, true⟩,
  ⟨some 49, .load 22 (.tmp 48), none, true⟩,
  ⟨some 50, .call { callee := .builtin .len, args := #[.tmp 49], argTypes := #[22] }, none, true⟩,
  ⟨some 51, .move (.const (.int .i64 0)), none, true⟩]
theorem k61_r14_e : type_of% (@Eo_of P pr N e σ Q _ _ k61_r14.eq_1) := Eo_of k61_r14.eq_1
def k61_r15 : List COp := [
  ⟨some 52, .binOp .lss 3 (.tmp 51) (.tmp 50) 3, none, true⟩]
theorem k61_r15_e : type_of% (@Eo_of P pr N e σ Q _ _ k61_r15.eq_1) := Eo_of k61_r15.eq_1
def k61_r16 : List COp := [
  ⟨some 53, .indexAddr 22 (.tmp 49) (.tmp 51), none, true⟩,
  ⟨some 54, .load 24 (.tmp 53), none, true⟩,
  ⟨some 5, .alloc 24, none, true⟩,
  ⟨none, .store 24 (.tmp 5) (.tmp 54), none, true⟩]
theorem k61_r16_e : type_of% (@Eo_of P pr N e σ Q _ _ k61_r16.eq_1) := Eo_of k61_r16.eq_1
def k61_r17 : List COp := [
  ⟨some 55, .move (.tmp 3), none, true⟩,
  ⟨some 56, .load 24 (.tmp 5), none, true⟩,
  ⟨some 57, .call { callee := .value (.func 61), args := #[.tmp 56], argTypes := #[24] }, none, true⟩,
  ⟨some 58, .call { callee := .builtin .append, args := #[.tmp 55, .tmp 57], argTypes := #[44, 44] }, none, true⟩,
  ⟨some 3, .assign (.tmp 58), none, true⟩]
theorem k61_r17_e : type_of% (@Eo_of P pr N e σ Q _ _ k61_r17.eq_1) := Eo_of k61_r17.eq_1
def k61_r18 : List COp := [
  ⟨some 59, .binOp .add 3 (.tmp 51) (.const (.int .i64 1)) 3, none, true⟩,
  ⟨some 51, .move (.tmp 59), none, true⟩]
theorem k61_r18_e : type_of% (@Eo_of P pr N e σ Q _ _ k61_r18.eq_1) := Eo_of k61_r18.eq_1
def k61_l0 : CC := (.seq (.region k61_r15) (.seq (.cond (.tmp 52) .skip (.exit 1)) (.seq (.block 2 (.seq (.region k61_r16) (.region k61_r17))) (.region k61_r18))))
theorem k61_l0_e : type_of% (@Ev_of P pr N e σ Q _ _ k61_l0.eq_1) := Ev_of k61_l0.eq_1
def k61_r19 : List COp := [
  ⟨some 60, .move (.tmp 3), none, true⟩,
  ⟨some 2, .assign (.tmp 60), none, true⟩]
theorem k61_r19_e : type_of% (@Eo_of P pr N e σ Q _ _ k61_r19.eq_1) := Eo_of k61_r19.eq_1
def k61 : CC := (.seq (.region k61_r0) (.seq (.region k61_r1) (.seq (.seq (.region k61_r2) (.block 0 (.seq (.region k61_r4) (.cond (.tmp 13) (.seq (.seq (.region k61_r5) (.cond (.tmp 17) (.seq (.region k61_r6) .ret) .skip)) (.seq (.region k61_r7) .ret)) (.seq (.region k61_r8) (.cond (.tmp 28) (.seq (.region k61_r9) .ret) (.seq (.region k61_r10) (.cond (.tmp 33) (.seq k61_r11 .ret) (.seq (.region k61_r12) (.cond (.tmp 42) (.region k61_r13) (.region k61_r3))))))))))) (.seq (.seq (.region k61_r14) (.block 1 (.loop k61_l0))) (.seq (.region k61_r19) .ret)))))
theorem k61_e : type_of% (@Ev_of P pr N e σ Q _ _ k61.eq_1) := Ev_of k61.eq_1
theorem k61_a : type_of% @k61_e ∧ type_of% @k61_r0_e ∧ type_of% @k61_r1_e ∧ type_of% @k61_r2_e ∧ type_of% @k61_r4_e ∧ type_of% @k61_r5_e ∧ type_of% @k61_r6_e ∧ type_of% @k61_r7_e ∧ type_of% @k61_r8_e ∧ type_of% @k61_r9_e ∧ type_of% @k61_r10_e ∧ type_of% @k61_r11_e ∧ type_of% @k61_r12_e ∧ type_of% @k61_r13_e ∧ type_of% @k61_r3_e ∧ type_of% @k61_r14_e ∧ type_of% @k61_r15_e ∧ type_of% @k61_r16_e ∧ type_of% @k61_r17_e ∧ type_of% @k61_r18_e ∧ type_of% @k61_l0_e ∧ type_of% @k61_r19_e := ⟨@k61_e, @k61_r0_e, @k61_r1_e, @k61_r2_e, @k61_r4_e, @k61_r5_e, @k61_r6_e, @k61_r7_e, @k61_r8_e, @k61_r9_e, @k61_r10_e, @k61_r11_e, @k61_r12_e, @k61_r13_e, @k61_r3_e, @k61_r14_e, @k61_r15_e, @k61_r16_e, @k61_r17_e, @k61_r18_e, @k61_l0_e, @k61_r19_e⟩
/-- quern/quernref09.Bytes -/
theorem k61_is : FnIs Try.prog prims 61 61 [ResultVar.tmp 2] k61 := FnIs.of_fn Try.func61 (by kernel_rfl) rfl
def k62_r0 : List COp := [
  ⟨some 2, .assign (.const (.pointer .none)), none, true⟩]
theorem k62_r0_e : type_of% (@Eo_of P pr N e σ Q _ _ k62_r0.eq_1) := Eo_of k62_r0.eq_1
def k62_r1 : List COp := [
  ⟨some 3, .buildSlice 44 0 #[], none, true⟩,
  ⟨some 4, .move (.tmp 0), none, true⟩,
  ⟨some 5, .call { callee := .builtin .append, args := #[.tmp 3, .tmp 4], argTypes := #[44, 44] }, none, true⟩,
  ⟨some 6, .build 92 #[(0, .tmp 5)], none, true⟩,
  ⟨some 7, .box 92 (.tmp 6), none, true⟩,
  ⟨some 2, .assign (.tmp 7), none, true⟩]
theorem k62_r1_e : type_of% (@Eo_of P pr N e σ Q _ _ k62_r1.eq_1) := Eo_of k62_r1.eq_1
def k62 : CC := (.seq (.region k62_r0) (.seq (.region k62_r1) .ret))
theorem k62_e : type_of% (@Ev_of P pr N e σ Q _ _ k62.eq_1) := Ev_of k62.eq_1
theorem k62_a : type_of% @k62_e ∧ type_of% @k62_r0_e ∧ type_of% @k62_r1_e := ⟨@k62_e, @k62_r0_e, @k62_r1_e⟩
/-- quern/pack.New -/
theorem k62_is : FnIs Try.prog prims 62 8 [ResultVar.tmp 2] k62 := FnIs.of_fn Try.func62 (by kernel_rfl) rfl
def k63_r0 : List COp := [
  ⟨some 4, .alloc 24, none, true⟩]
theorem k63_r0_e : type_of% (@Eo_of P pr N e σ Q _ _ k63_r0.eq_1) := Eo_of k63_r0.eq_1
def k63_r1 : List COp := [
  ⟨some 15, .move (.tmp 1), none, true⟩]
theorem k63_r1_e : type_of% (@Eo_of P pr N e σ Q _ _ k63_r1.eq_1) := Eo_of k63_r1.eq_1
def k63_r2 : List COp := [
  ⟨some 17, .binOp .eql 9 (.tmp 15) (.const (.string { data := #[105, 110, 116] })) 9, none, true⟩,
  ⟨some 16, .assign (.tmp 17), none, true⟩]
theorem k63_r2_e : type_of% (@Eo_of P pr N e σ Q _ _ k63_r2.eq_1) := Eo_of k63_r2.eq_1
def k63_r3 : List COp := [
  ⟨some 18, .move (.tmp 0), none, true⟩,
  ⟨some 19, .call { callee := .value (.func 83), args := #[.tmp 18], argTypes := #[70] }, none, true⟩,
  ⟨some 20, .move (.tmp 0), none, true⟩,
  ⟨some 21, .call { callee := .value (.func 83), args := #[.tmp 20], argTypes := #[70] }, none, true⟩,
  ⟨some 5, .assign (.tmp 19), none, true⟩,
  ⟨some 6, .assign (.tmp 21), none, true⟩]
theorem k63_r3_e : type_of% (@Eo_of P pr N e σ Q _ _ k63_r3.eq_1) := Eo_of k63_r3.eq_1
def k63_r4 : List COp := [
  ⟨some 22, .move (.tmp 5), none, true⟩,
  ⟨some 23, .binOp .eql 3 (.tmp 22) (.const (.int .i64 1)) 3, none, true⟩]
theorem k63_r4_e : type_of% (@Eo_of P pr N e σ Q _ _ k63_r4.eq_1) := Eo_of k63_r4.eq_1
def k63_r5 : List COp := [
  ⟨some 24, .move (.tmp 6), none, true⟩,
  ⟨some 25, .unOp .neg 3 (.tmp 24), none, true⟩,
  ⟨some 26, .binOp .sub 3 (.tmp 25) (.const (.int .i64 1)) 3, none, true⟩,
  ⟨some 27, .call { callee := .value (.func 16), args := #[.tmp 26], argTypes := #[3] }, none, true⟩,
  ⟨none, .store 24 (.tmp 4) (.tmp 27), none, true⟩]
theorem k63_r5_e : type_of% (@Eo_of P pr N e σ Q _ _ k63_r5.eq_1) := Eo_of k63_r5.eq_1
def k63_r6 : List COp := [
  ⟨some 28, .move (.tmp 6), none, true⟩,
  ⟨some 29, .call { callee := .value (.func 16), args := #[.tmp 28], argTypes := #[3] }, none, true⟩,
  ⟨none, .store 24 (.tmp 4) (.tmp 29), none, true⟩]
theorem k63_r6_e : type_of% (@Eo_of P pr N e σ Q _ _ k63_r6.eq_1) := Eo_of k63_r6.eq_1
def k63_r7 : List COp := [
  ⟨some 31, .binOp .eql 9 (.tmp 15) (.const (.string { data := #[98, 111, 111, 108] })) 9, none, true⟩,
  ⟨some 30, .assign (.tmp 31), none, true⟩]
theorem k63_r7_e : type_of% (@Eo_of P pr N e σ Q _ _ k63_r7.eq_1) := Eo_of k63_r7.eq_1
def k63_r8 : List COp := [
  ⟨some 32, .move (.tmp 0), none, true⟩,
  ⟨some 33, .call { callee := .value (.func 83), args := #[.tmp 32], argTypes := #[70] }, none, true⟩,
  ⟨some 34, .build 24 #[(0, .const (.int .i64 2)), (1, .tmp 33)], none, true⟩,
  ⟨none, .store 24 (.tmp 4) (.tmp 34), none, true⟩]
theorem k63_r8_e : type_of% (@Eo_of P pr N e σ Q _ _ k63_r8.eq_1) := Eo_of k63_r8.eq_1
def k63_r9 : List COp := [
  ⟨some 36, .binOp .eql 9 (.tmp 15) (.const (.string { data := #[116, 101, 120, 116] })) 9, none, true⟩,
  ⟨some 35, .assign (.tmp 36), none, true⟩]
theorem k63_r9_e : type_of% (@Eo_of P pr N e σ Q _ _ k63_r9.eq_1) := Eo_of k63_r9.eq_1
def k63_r10 : List COp := [
  ⟨some 37, .move (.tmp 0), none, true⟩,
  ⟨some 38, .move (.tmp 0), none, true⟩,
  ⟨some 39, .call { callee := .value (.func 83), args := #[.tmp 38], argTypes := #[70] }, none, true⟩,
  ⟨some 40, .call { callee := .value (.func 84), args := #[.tmp 37, .tmp 39], argTypes := #[70, 3] }, none, true⟩,
  ⟨some 41, .convert 44 9 (.tmp 40), none, true⟩,
  ⟨some 42, .call { callee := .value (.func 17), args := #[.tmp 41], argTypes := #[9] }, none, true⟩,
  ⟨none, .store 24 (.tmp 4) (.tmp 42), none, true⟩]
theorem k63_r10_e : type_of% (@Eo_of P pr N e σ Q _ _ k63_r10.eq_1) := Eo_of k63_r10.eq_1
def k63_r11 : List COp := [
  ⟨some 43, .move (.tmp 1), none, true⟩,
  ⟨some 44, .call { callee := .value (.func 22), args := #[.tmp 43], argTypes := #[9] }, none, true⟩,
  ⟨some 7, .alloc 24, none, true⟩,
  ⟨none, .store 24 (.tmp 7) (.tmp 44), none, true⟩]
theorem k63_r11_e : type_of% (@Eo_of P pr N e σ Q _ _ k63_r11.eq_1) := Eo_of k63_r11.eq_1
def k63_r12 : List COp := [
  ⟨some 46, .move (.tmp 1), none, true⟩,
  ⟨some 47, .call { callee := .value (.func 18), args := #[.tmp 46], argTypes := #[9] }, none, true⟩,
  ⟨some 45, .move (.tmp 47), none, true⟩,
  ⟨some 48, .extract (.tmp 45) 0, none, true⟩,
  ⟨some 49, .extract (.tmp 45) 1, none, true⟩,
  ⟨some 8, .assign (.tmp 48), none, true⟩,
  ⟨some 9, .assign (.tmp 49), none, true⟩]
theorem k63_r12_e : type_of% (@Eo_of P pr N e σ Q _ _ k63_r12.eq_1) := Eo_of k63_r12.eq_1
def k63_r13 : List COp := [
  ⟨some 51, .move (.tmp 1), none, true⟩,
  ⟨some 52, .call { callee := .value (.func 19), args := #[.tmp 51], argTypes := #[9] }, none, true⟩,
  ⟨some 50, .move (.tmp 52), none, true⟩,
  ⟨some 53, .extract (.tmp 50) 0, none, true⟩,
  ⟨some 54, .extract (.tmp 50) 1, none, true⟩,
  ⟨some 55, .extract (.tmp 50) 2, none, true⟩,
  ⟨some 10, .assign (.tmp 53), none, true⟩,
  ⟨some 11, .assign (.tmp 54), none, true⟩,
  ⟨some 12, .assign (.tmp 55), none, true⟩]
theorem k63_r13_e : type_of% (@Eo_of P pr N e σ Q _ _ k63_r13.eq_1) := Eo_of k63_r13.eq_1
def k63_r14 : List COp := [
  ⟨some 56, .move (.tmp 0), none, true⟩,
  ⟨some 57, .call { callee := .value (.func 83), args := #[.tmp 56], argTypes := #[70] }, none, true⟩,
  ⟨some 13, .assign (.tmp 57), none, true⟩]
theorem k63_r14_e : type_of% (@Eo_of P pr N e σ Q _ _ k63_r14.eq_1) := Eo_of k63_r14.eq_1
def k63_r15 : List COp := [
  ⟨some 14, .assign (.const (.int .i64 0)), none, true⟩]
theorem k63_r15_e : type_of% (@Eo_of P pr N e σ Q _ _ k63_r15.eq_1) := Eo_of k63_r15.eq_1
def k63_r16 : List COp := [
  ⟨some 58, .move (.tmp 14), none, true⟩,
  ⟨some 59, .move (.tmp 13), none, true⟩,
  ⟨some 60, .binOp .lss 3 (.tmp 58) (.tmp 59) 3, none, true⟩,
  ⟨some 61, .move (.tmp 60), none, true⟩,
  ⟨some 62, .move (.tmp 0), some (61, true), true⟩,
  ⟨some 63, .call { callee := .value (.func 85), args := #[.tmp 62], argTypes := #[70] }, some (61, true), true⟩,
  ⟨some 64, .unOp .not 4 (.tmp 63), some (61, true), true⟩,
  ⟨some 65, .pick (.tmp 61) (.tmp 64) (.const (.bool false)), none, true⟩,
  ⟨some 66, .move (.tmp 65), none, true⟩,
  ⟨some 67, .move (.tmp 14), some (66, true), true⟩,
  ⟨some 68, .binOp .leq 3 (.tmp 67) (.const (.int .i64 64)) 3, some (66, true), true⟩,
  ⟨some 69, .pick (.tmp 66) (.tmp 68) (.const (.bool false)), none, true⟩]
theorem k63_r16_e : type_of% (@Eo_of P pr N e σ Q _ _ k63_r16.eq_1) := Eo_of k63_r16.eq_1
def k63_r18 : List COp := [
  ⟨some 72, .move (.tmp 9), none, true⟩]
theorem k63_r18_e : type_of% (@Eo_of P pr N e σ Q _ _ k63_r18.eq_1) := Eo_of k63_r18.eq_1
def k63_r19 : CC := (.wregion [
  (true, ⟨some 73, .fieldAddr 24 (.tmp 7) 3, none, false⟩),
  (true, ⟨some 74, .load 22 (.tmp 73), none, false⟩),
  (false, ⟨some 75, .move (.tmp 0), none, false⟩),
  (false, ⟨some 76, .move (.tmp 8), none, true⟩),
  (false, ⟨some 77, .call { callee := .value (.func 63), args := #[.tmp 75, .tmp 76], argTypes := #[70, 9] }, none, true⟩),
  (true, ⟨some 78, .buildSlice 22 1 #[(0, .tmp 77)], none, true⟩),
  (false, ⟨some 79, .call { callee := .builtin .append, args := #[.tmp 74, .tmp 78], argTypes := #[22, 22] }, none, true⟩),
  (false, ⟨some 80, .fieldAddr 24 (.tmp 7) 3, none, true⟩),
  (false, ⟨none, .store 22 (.tmp 80) (.tmp 79), none, true⟩)] false [(1, ⟨some 74, .load 22 (.tmp 73), none, false⟩, [0, 5])])
theorem k63_r19_e : type_of% (@Ev_of P pr N e σ Q _ _ k63_r19.eq_1) := Ev_of k63_r19.eq_1
def k63_r20 : CC := (.wregion [
  (true, ⟨some 81, .fieldAddr 24 (.tmp 7) 3, none, false⟩),
  (true, ⟨some 82, .load 22 (.tmp 81), none, false⟩),
  (false, ⟨some 83, .move (.tmp 0), none, false⟩),
  (false, ⟨some 84, .move (.tmp 10), none, false⟩),
  (false, ⟨some 85, .call { callee := .value (.func 63), args := #[.tmp 83, .tmp 84], argTypes := #[70, 9] }, none, false⟩),
  (true, ⟨some 86, .move (.tmp 0), none, false⟩),
  (false, ⟨some 87, .move (.tmp 11), none, true⟩),
  (false, ⟨some 88, .call { callee := .value (.func 63), args := #[.tmp 86, .tmp 87], argTypes := #[70, 9] }, none, true⟩),
  (true, ⟨some 89, .buildSlice 22 2 #[(0, .tmp 85), (1, .tmp 88)], none, true⟩),
  (false, ⟨some 90, .call { callee := .builtin .append, args := #[.tmp 82, .tmp 89], argTypes := #[22, 22] }, none, true⟩),
  (false, ⟨some 91, .fieldAddr 24 (.tmp 7) 3, none, true⟩),
  (false, ⟨none, .store 22 (.tmp 91) (.tmp 90), none, true⟩)] false [(1, ⟨some 82, .load 22 (.tmp 81), none, false⟩, [0, 5, 8])])
theorem k63_r20_e : type_of% (@Ev_of P pr N e σ Q _ _ k63_r20.eq_1) := Ev_of k63_r20.eq_1
def k63_r17 : List COp := [
  ⟨some 70, .move (.tmp 14), none, true⟩,
  ⟨some 71, .binOp .add 3 (.tmp 70) (.const (.int .i64 1)) 3, none, true⟩,
  ⟨some 14, .assign (.tmp 71), none, true⟩]
theorem k63_r17_e : type_of% (@Eo_of P pr N e σ Q _ _ k63_r17.eq_1) := Eo_of k63_r17.eq_1
def k63_l0 : CC := (.seq (.seq (.region k63_r16) (.cond (.tmp 69) .skip (.exit 1))) (.seq (.block 2 (.seq (.seq (.region k63_r18) (.cond (.tmp 72) (.seq k63_r19 (.exit 2)) .skip)) k63_r20)) (.region k63_r17)))
theorem k63_l0_e : type_of% (@Ev_of P pr N e σ Q _ _ k63_l0.eq_1) := Ev_of k63_l0.eq_1
def k63_r21 : List COp := [
  ⟨some 92, .load 24 (.tmp 7), none, true⟩,
  ⟨none, .store 24 (.tmp 4) (.tmp 92), none, true⟩]
theorem k63_r21_e : type_of% (@Eo_of P pr N e σ Q _ _ k63_r21.eq_1) := Eo_of k63_r21.eq_1
def k63 : CC := (.seq (.region k63_r0) (.seq (.seq (.region k63_r1) (.block 0 (.seq (.region k63_r2) (.cond (.tmp 16) (.seq (.region k63_r3) (.seq (.seq (.region k63_r4) (.cond (.tmp 23) (.seq (.region k63_r5) .ret) .skip)) (.seq (.region k63_r6) .ret))) (.seq (.region k63_r7) (.cond (.tmp 30) (.seq (.region k63_r8) .ret) (.seq (.region k63_r9) (.cond (.tmp 35) (.seq (.region k63_r10) .ret) .skip)))))))) (.seq (.region k63_r11) (.seq (.region k63_r12) (.seq (.region k63_r13) (.seq (.region k63_r14) (.seq (.seq (.region k63_r15) (.block 1 (.loop k63_l0))) (.seq (.region k63_r21) .ret))))))))
theorem k63_e : type_of% (@Ev_of P pr N e σ Q _ _ k63.eq_1) := Ev_of k63.eq_1
theorem k63_a : type_of% @k63_e ∧ type_of% @k63_r0_e ∧ type_of% @k63_r1_e ∧ type_of% @k63_r2_e ∧ type_of% @k63_r3_e ∧ type_of% @k63_r4_e ∧ type_of% @k63_r5_e ∧ type_of% @k63_r6_e ∧ type_of% @k63_r7_e ∧ type_of% @k63_r8_e ∧ type_of% @k63_r9_e ∧ type_of% @k63_r10_e ∧ type_of% @k63_r11_e ∧ type_of% @k63_r12_e ∧ type_of% @k63_r13_e ∧ type_of% @k63_r14_e ∧ type_of% @k63_r15_e ∧ type_of% @k63_r16_e ∧ type_of% @k63_r18_e ∧ type_of% @k63_r19_e ∧ type_of% @k63_r20_e ∧ type_of% @k63_r17_e ∧ type_of% @k63_l0_e ∧ type_of% @k63_r21_e := ⟨@k63_e, @k63_r0_e, @k63_r1_e, @k63_r2_e, @k63_r3_e, @k63_r4_e, @k63_r5_e, @k63_r6_e, @k63_r7_e, @k63_r8_e, @k63_r9_e, @k63_r10_e, @k63_r11_e, @k63_r12_e, @k63_r13_e, @k63_r14_e, @k63_r15_e, @k63_r16_e, @k63_r18_e, @k63_r19_e, @k63_r20_e, @k63_r17_e, @k63_l0_e, @k63_r21_e⟩
/-- quern/value.take -/
theorem k63_is : FnIs Try.prog prims 63 93 [ResultVar.cell 4 24] k63 := FnIs.of_fn Try.func63 (by kernel_rfl) rfl
def k64_r0 : List COp := [
  ⟨some 2, .assign (.const (.bool false)), none, true⟩]
theorem k64_r0_e : type_of% (@Eo_of P pr N e σ Q _ _ k64_r0.eq_1) := Eo_of k64_r0.eq_1
def k64_r1 : List COp := [
  ⟨some 3, .move (.tmp 0), none, true⟩,
  ⟨some 4, .binOp .neq 70 (.tmp 3) (.const (.pointer .none)) 70, none, true⟩,
  ⟨some 5, .move (.tmp 4), none, true⟩,
  ⟨some 6, .move (.tmp 0), some (5, true), true⟩,
  ⟨some 7, .nilCheck (.tmp 6), some (5, true), true⟩,
  ⟨some 8, .fieldAddr 92 (.tmp 7) 1, some (5, true), true⟩,
  ⟨some 9, .load 4 (.tmp 8), some (5, true), true⟩,
  ⟨some 10, .unOp .not 4 (.tmp 9), some (5, true), true⟩,
  ⟨some 11, .pick (.tmp 5) (.tmp 10) (.const (.bool false)), none, true⟩,
  ⟨some 12, .move (.tmp 11), none, true⟩,
  ⟨some 13, .move (.tmp 0), some (12, true), true⟩,
  ⟨some 14, .nilCheck (.tmp 13), some (12, true), true⟩,
  ⟨some 15, .fieldAddr 92 (.tmp 14) 0, some (12, true), true⟩,
  ⟨some 16, .load 44 (.tmp 15), some (12, true), true⟩,
  ⟨some 17, .call { callee := .builtin .len, args := #[.tmp 16], argTypes := #[44] }, some (12, true), true⟩,
  ⟨some 18, .binOp .eql 3 (.tmp 17) (.const (.int .i64 0)) 3, some (12, true), true⟩,
  ⟨some 19, .pick (.tmp 12) (.tmp 18) (.const (.bool false)), none, true⟩,
  ⟨some 2, .assign (.tmp 19), none, true⟩]
theorem k64_r1_e : type_of% (@Eo_of P pr N e σ Q _ _ k64_r1.eq_1) := Eo_of k64_r1.eq_1
def k64 : CC := (.seq (.region k64_r0) (.seq (.region k64_r1) .ret))
theorem k64_e : type_of% (@Ev_of P pr N e σ Q _ _ k64.eq_1) := Ev_of k64.eq_1
theorem k64_a : type_of% @k64_e ∧ type_of% @k64_r0_e ∧ type_of% @k64_r1_e := ⟨@k64_e, @k64_r0_e, @k64_r1_e⟩
/-- (*quern/pack.Reader).End -/
theorem k64_is : FnIs Try.prog prims 64 20 [ResultVar.tmp 2] k64 := FnIs.of_fn Try.func64 (by kernel_rfl) rfl
def k65_r0 : List COp := [
  ⟨some 4, .alloc 24, none, true⟩]
theorem k65_r0_e : type_of% (@Eo_of P pr N e σ Q _ _ k65_r0.eq_1) := Eo_of k65_r0.eq_1
def k65_r1 : List COp := [
  ⟨some 15, .move (.tmp 1), none, true⟩,
  ⟨some 16, .call { callee := .value (.func 23), args := #[.tmp 15], argTypes := #[9] }, none, true⟩,
  ⟨some 5, .alloc 24, none, true⟩,
  ⟨none, .store 24 (.tmp 5) (.tmp 16), none, true⟩]
theorem k65_r1_e : type_of% (@Eo_of P pr N e σ Q _ _ k65_r1.eq_1) := Eo_of k65_r1.eq_1
def k65_r2 : List COp := [
  ⟨some 17, .fieldAddr 24 (.tmp 5) 0, none, true⟩,
  ⟨some 18, .load 3 (.tmp 17), none, true⟩]
theorem k65_r2_e : type_of% (@Eo_of P pr N e σ Q _ _ k65_r2.eq_1) := Eo_of k65_r2.eq_1
def k65_r3 : List COp := [
  ⟨some 20, .binOp .eql 3 (.tmp 18) (.const (.int .i64 1)) 3, none, true⟩,
  ⟨some 19, .assign (.tmp 20), none, true⟩]
theorem k65_r3_e : type_of% (@Eo_of P pr N e σ Q _ _ k65_r3.eq_1) := Eo_of k65_r3.eq_1
def k65_r4 : List COp := [
  ⟨some 21, .move (.tmp 0), none, true⟩,
  ⟨some 22, .call { callee := .value (.func 86), args := #[.tmp 21], argTypes := #[73] }, none, true⟩,
  ⟨some 6, .assign (.tmp 22), none, true⟩]
theorem k65_r4_e : type_of% (@Eo_of P pr N e σ Q _ _ k65_r4.eq_1) := Eo_of k65_r4.eq_1
def k65_r5 : List COp := [
  ⟨some 23, .move (.tmp 0), none, true⟩,
  ⟨some 24, .call { callee := .value (.func 86), args := #[.tmp 23], argTypes := #[73] }, none, true⟩,
  ⟨some 7, .assign (.tmp 24), none, true⟩]
theorem k65_r5_e : type_of% (@Eo_of P pr N e σ Q _ _ k65_r5.eq_1) := Eo_of k65_r5.eq_1
def k65_r6 : List COp := [
  ⟨some 25, .move (.tmp 6), none, true⟩,
  ⟨some 26, .binOp .gtr 3 (.tmp 25) (.const (.int .i64 1)) 3, none, true⟩]
theorem k65_r6_e : type_of% (@Eo_of P pr N e σ Q _ _ k65_r6.eq_1) := Eo_of k65_r6.eq_1
def k65_r7 : List COp := [
  ⟨some 27, .move (.tmp 0), none, true⟩,
  ⟨some 28, .nilCheck (.tmp 27), none, true⟩,
  ⟨some 29, .fieldAddr 75 (.tmp 28) 1, none, true⟩,
  ⟨none, .store 4 (.tmp 29) (.const (.bool true)), none, true⟩]
theorem k65_r7_e : type_of% (@Eo_of P pr N e σ Q _ _ k65_r7.eq_1) := Eo_of k65_r7.eq_1
def k65_r8 : List COp := [
  ⟨some 30, .move (.tmp 6), none, true⟩,
  ⟨some 31, .binOp .eql 3 (.tmp 30) (.const (.int .i64 1)) 3, none, true⟩]
theorem k65_r8_e : type_of% (@Eo_of P pr N e σ Q _ _ k65_r8.eq_1) := Eo_of k65_r8.eq_1
def k65_r9 : List COp := [
  ⟨some 32, .move (.tmp 7), none, true⟩,
  ⟨some 33, .unOp .neg 3 (.tmp 32), none, true⟩,
  ⟨some 34, .binOp .sub 3 (.tmp 33) (.const (.int .i64 1)) 3, none, true⟩,
  ⟨some 7, .assign (.tmp 34), none, true⟩]
theorem k65_r9_e : type_of% (@Eo_of P pr N e σ Q _ _ k65_r9.eq_1) := Eo_of k65_r9.eq_1
def k65_r10 : List COp := [
  ⟨some 35, .move (.tmp 7), none, true⟩,
  ⟨some 36, .fieldAddr 24 (.tmp 5) 1, none, true⟩,
  ⟨none, .store 3 (.tmp 36) (.tmp 35), none, true⟩]
theorem k65_r10_e : type_of% (@Eo_of P pr N e σ Q _ _ k65_r10.eq_1) := Eo_of k65_r10.eq_1
def k65_r11 : List COp := [
  ⟨some 38, .binOp .eql 3 (.tmp 18) (.const (.int .i64 2)) 3, none, true⟩,
  ⟨some 37, .assign (.tmp 38), none, true⟩]
theorem k65_r11_e : type_of% (@Eo_of P pr N e σ Q _ _ k65_r11.eq_1) := Eo_of k65_r11.eq_1
def k65_r12 : List COp := [
  ⟨some 39, .move (.tmp 0), none, true⟩,
  ⟨some 40, .call { callee := .value (.func 86), args := #[.tmp 39], argTypes := #[73] }, none, true⟩,
  ⟨some 41, .fieldAddr 24 (.tmp 5) 1, none, true⟩,
  ⟨none, .store 3 (.tmp 41) (.tmp 40), none, true⟩]
theorem k65_r12_e : type_of% (@Eo_of P pr N e σ Q _ _ k65_r12.eq_1) := Eo_of k65_r12.eq_1
def k65_r13 : List COp := [
  ⟨some 42, .fieldAddr 24 (.tmp 5) 1, none, true⟩,
  ⟨some 43, .load 3 (.tmp 42), none, true⟩,
  ⟨some 44, .binOp .gtr 3 (.tmp 43) (.const (.int .i64 1)) 3, none, true⟩]
theorem k65_r13_e : type_of% (@Eo_of P pr N e σ Q _ _ k65_r13.eq_1) := Eo_of k65_r13.eq_1
def k65_r14 : List COp := [
  ⟨some 45, .move (.tmp 0), none, true⟩,
  ⟨some 46, .nilCheck (.tmp 45), none, true⟩,
  ⟨some 47, .fieldAddr 75 (.tmp 46) 1, none, true⟩,
  ⟨none, .store 4 (.tmp 47) (.const (.bool true)), none, true⟩]
theorem k65_r14_e : type_of% (@Eo_of P pr N e σ Q _ _ k65_r14.eq_1) := Eo_of k65_r14.eq_1
def k65_r15 : List COp := [
  ⟨some 49, .binOp .eql 3 (.tmp 18) (.const (.int .i64 3)) 3, none, true⟩,
  ⟨some 48, .assign (.tmp 49), none, true⟩]
theorem k65_r15_e : type_of% (@Eo_of P pr N e σ Q _ _ k65_r15.eq_1) := Eo_of k65_r15.eq_1
def k65_r16 : List COp := [
  ⟨some 50, .move (.tmp 0), none, true⟩,
  ⟨some 51, .call { callee := .value (.func 86), args := #[.tmp 50], argTypes := #[73] }, none, true⟩,
  ⟨some 8, .assign (.tmp 51), none, true⟩]
theorem k65_r16_e : type_of% (@Eo_of P pr N e σ Q _ _ k65_r16.eq_1) := Eo_of k65_r16.eq_1
def k65_r17 : List COp := [
  ⟨some 52, .move (.tmp 8), none, true⟩,
  ⟨some 53, .binOp .gtr 3 (.tmp 52) (.const (.int .i64 256)) 3, none, true⟩]
theorem k65_r17_e : type_of% (@Eo_of P pr N e σ Q _ _ k65_r17.eq_1) := Eo_of k65_r17.eq_1
def k65_r18 : List COp := [
  ⟨some 54, .move (.tmp 0), none, true⟩,
  ⟨some 55, .nilCheck (.tmp 54), none, true⟩,
  ⟨some 56, .fieldAddr 75 (.tmp 55) 1, none, true⟩,
  ⟨none, .store 4 (.tmp 56) (.const (.bool true)), none, true⟩]
theorem k65_r18_e : type_of% (@Eo_of P pr N e σ Q _ _ k65_r18.eq_1) := Eo_of k65_r18.eq_1
def k65_r19 : List COp := [
  ⟨some 57, .move (.tmp 0), none, true⟩,
  ⟨some 58, .move (.tmp 8), none, true⟩,
  ⟨some 59, .call { callee := .value (.func 87), args := #[.tmp 57, .tmp 58], argTypes := #[73, 3] }, none, true⟩,
  ⟨some 60, .convert 44 9 (.tmp 59), none, true⟩,
  ⟨some 61, .fieldAddr 24 (.tmp 5) 2, none, true⟩,
  ⟨none, .store 9 (.tmp 61) (.tmp 60), none, true⟩]
theorem k65_r19_e : type_of% (@Eo_of P pr N e σ Q _ _ k65_r19.eq_1) := Eo_of k65_r19.eq_1
def k65_r20 : List COp := [
  ⟨some 63, .binOp .eql 3 (.tmp 18) (.const (.int .i64 4)) 3, none, true⟩,
  ⟨some 62, .assign (.tmp 63), none, true⟩]
theorem k65_r20_e : type_of% (@Eo_of P pr N e σ Q _ _ k65_r20.eq_1) := Eo_of k65_r20.eq_1
def k65_r21 : List COp := [
  ⟨some 64, .move (.tmp 0), none, true⟩,
  ⟨some 65, .call { callee := .value (.func 86), args := #[.tmp 64], argTypes := #[73] }, none, true⟩,
  ⟨some 9, .assign (.tmp 65), none, true⟩]
theorem k65_r21_e : type_of% (@Eo_of P pr N e σ Q _ _ k65_r21.eq_1) := Eo_of k65_r21.eq_1
def k65_r22 : List COp := [
  ⟨some 66, .move (.tmp 9), none, true⟩,
  ⟨some 67, .binOp .gtr 3 (.tmp 66) (.const (.int .i64 64)) 3, none, true⟩]
theorem k65_r22_e : type_of% (@Eo_of P pr N e σ Q _ _ k65_r22.eq_1) := Eo_of k65_r22.eq_1
def k65_r23 : List COp := [
  ⟨some 68, .move (.tmp 0), none, true⟩,
  ⟨some 69, .nilCheck (.tmp 68), none, true⟩,
  ⟨some 70, .fieldAddr 75 (.tmp 69) 1, none, true⟩,
  ⟨none, .store 4 (.tmp 70) (.const (.bool true)), none, true⟩]
theorem k65_r23_e : type_of% (@Eo_of P pr N e σ Q _ _ k65_r23.eq_1) := Eo_of k65_r23.eq_1
def k65_r24 : List COp := [
  ⟨some 10, .assign (.const (.int .i64 0)), none, true⟩]
theorem k65_r24_e : type_of% (@Eo_of P pr N e σ Q _ _ k65_r24.eq_1) := Eo_of k65_r24.eq_1
def k65_r25 : List COp := [
  ⟨some 71, .move (.tmp 10), none, true⟩,
  ⟨some 72, .move (.tmp 9), none, true⟩,
  ⟨some 73, .binOp .lss 3 (.tmp 71) (.tmp 72) 3, none, true⟩,
  ⟨some 74, .move (.tmp 73), none, true⟩,
  ⟨some 75, .move (.tmp 0), some (74, true), true⟩,
  ⟨some 76, .nilCheck (.tmp 75), some (74, true), true⟩,
  ⟨some 77, .fieldAddr 75 (.tmp 76) 1, some (74, true), true⟩,
  ⟨some 78, .load 4 (.tmp 77), some (74, true), true⟩,
  ⟨some 79, .unOp .not 4 (.tmp 78), some (74, true), true⟩,
  ⟨some 80, .pick (.tmp 74) (.tmp 79) (.const (.bool false)), none, true⟩]
theorem k65_r25_e : type_of% (@Eo_of P pr N e σ Q _ _ k65_r25.eq_1) := Eo_of k65_r25.eq_1
def k65_r27 : CC := (.wregion [
  (true, ⟨some 83, .fieldAddr 24 (.tmp 5) 3, none, false⟩),
  (true, ⟨some 84, .load 22 (.tmp 83), none, false⟩),
  (false, ⟨some 85, .move (.tmp 0), none, false⟩),
  (false, ⟨some 86, .move (.tmp 1), none, true⟩),
  (false, ⟨some 87, .call { callee := .value (.func 21), args := #[.tmp 86], argTypes := #[9] }, none, true⟩),
  (true, ⟨some 88, .call { callee := .value (.func 65), args := #[.tmp 85, .tmp 87], argTypes := #[73, 9] }, none, true⟩),
  (true, ⟨some 89, .buildSlice 22 1 #[(0, .tmp 88)], none, true⟩),
  (false, ⟨some 90, .call { callee := .builtin .append, args := #[.tmp 84, .tmp 89], argTypes := #[22, 22] }, none, true⟩),
  (false, ⟨some 91, .fieldAddr 24 (.tmp 5) 3, none, true⟩),
  (false, ⟨none, .store 22 (.tmp 91) (.tmp 90), none, true⟩)] false [(1, ⟨some 84, .load 22 (.tmp 83), none, false⟩, [0, 5, 6])])
theorem k65_r27_e : type_of% (@Ev_of P pr N e σ Q _ _ k65_r27.eq_1) := Ev_of k65_r27.eq_1
def k65_r26 : List COp := [
  ⟨some 81, .move (.tmp 10), none, true⟩,
  ⟨some 82, .binOp .add 3 (.tmp 81) (.const (.int .i64 1)) 3, none, true⟩,
  ⟨some 10, .assign (.tmp 82), none, true⟩]
theorem k65_r26_e : type_of% (@Eo_of P pr N e σ Q _ _ k65_r26.eq_1) := Eo_of k65_r26.eq_1
def k65_l0 : CC := (.seq (.seq (.region k65_r25) (.cond (.tmp 80) .skip (.exit 1))) (.seq (.block 2 k65_r27) (.region k65_r26)))
theorem k65_l0_e : type_of% (@Ev_of P pr N e σ Q _ _ k65_l0.eq_1) := Ev_of k65_l0.eq_1
def k65_r28 : List COp := [
  ⟨some 93, .binOp .eql 3 (.tmp 18) (.const (.int .i64 5)) 3, none, true⟩,
  ⟨some 92, .assign (.tmp 93), none, true⟩]
theorem k65_r28_e : type_of% (@Eo_of P pr N e σ Q _ _ k65_r28.eq_1) := Eo_of k65_r28.eq_1
def k65_r29 : List COp := [
  ⟨some 95, .move (.tmp 1), none, true⟩,
  ⟨some 96, .call { callee := .value (.func 20), args := #[.tmp 95], argTypes := #[9] }, none, true⟩,
  ⟨some 94, .move (.tmp 96), none, true⟩,
  ⟨some 97, .extract (.tmp 94) 0, none, true⟩,
  ⟨some 98, .extract (.tmp 94) 1, none, true⟩,
  ⟨some 11, .assign (.tmp 97), none, true⟩,
  ⟨some 12, .assign (.tmp 98), none, true⟩]
theorem k65_r29_e : type_of% (@Eo_of P pr N e σ Q _ _ k65_r29.eq_1) := Eo_of k65_r29.eq_1
def k65_r30 : List COp := [
  ⟨some 99, .move (.tmp 0), none, true⟩,
  ⟨some 100, .call { callee := .value (.func 86), args := #[.tmp 99], argTypes := #[73] }, none, true⟩,
  ⟨some 13, .assign (.tmp 100), none, true⟩]
theorem k65_r30_e : type_of% (@Eo_of P pr N e σ Q _ _ k65_r30.eq_1) := Eo_of k65_r30.eq_1
def k65_r31 : List COp := [
  ⟨some 101, .move (.tmp 13), none, true⟩,
  ⟨some 102, .binOp .gtr 3 (.tmp 101) (.const (.int .i64 64)) 3, none, true⟩]
theorem k65_r31_e : type_of% (@Eo_of P pr N e σ Q _ _ k65_r31.eq_1) := Eo_of k65_r31.eq_1
def k65_r32 : List COp := [
  ⟨some 103, .move (.tmp 0), none, true⟩,
  ⟨some 104, .nilCheck (.tmp 103), none, true⟩,
  ⟨some 105, .fieldAddr 75 (.tmp 104) 1, none, true⟩,
  ⟨none, .store 4 (.tmp 105) (.const (.bool true)), none, true⟩]
theorem k65_r32_e : type_of% (@Eo_of P pr N e σ Q _ _ k65_r32.eq_1) := Eo_of k65_r32.eq_1
def k65_r33 : List COp := [
  ⟨some 14, .assign (.const (.int .i64 0)), none, true⟩]
theorem k65_r33_e : type_of% (@Eo_of P pr N e σ Q _ _ k65_r33.eq_1) := Eo_of k65_r33.eq_1
def k65_r34 : List COp := [
  ⟨some 106, .move (.tmp 14), none, true⟩,
  ⟨some 107, .move (.tmp 13), none, true⟩,
  ⟨some 108, .binOp .lss 3 (.tmp 106) (.tmp 107) 3, none, true⟩,
  ⟨some 109, .move (.tmp 108), none, true⟩,
  ⟨some 110, .move (.tmp 0), some (109, true), true⟩,
  ⟨some 111, .nilCheck (.tmp 110), some (109, true), true⟩,
  ⟨some 112, .fieldAddr 75 (.tmp 111) 1, some (109, true), true⟩,
  ⟨some 113, .load 4 (.tmp 112), some (109, true), true⟩,
  ⟨some 114, .unOp .not 4 (.tmp 113), some (109, true), true⟩,
  ⟨some 115, .pick (.tmp 109) (.tmp 114) (.const (.bool false)), none, true⟩]
theorem k65_r34_e : type_of% (@Eo_of P pr N e σ Q _ _ k65_r34.eq_1) := Eo_of k65_r34.eq_1
def k65_r36 : CC := (.wregion [
  (true, ⟨some 118, .fieldAddr 24 (.tmp 5) 3, none, false⟩),
  (true, ⟨some 119, .load 22 (.tmp 118), none, false⟩),
  (false, ⟨some 120, .move (.tmp 0), none, false⟩),
  (false, ⟨some 121, .move (.tmp 11), none, true⟩),
  (false, ⟨some 122, .call { callee := .value (.func 65), args := #[.tmp 120, .tmp 121], argTypes := #[73, 9] }, none, true⟩),
  (true, ⟨some 123, .buildSlice 22 1 #[(0, .tmp 122)], none, true⟩),
  (false, ⟨some 124, .call { callee := .builtin .append, args := #[.tmp 119, .tmp 123], argTypes := #[22, 22] }, none, true⟩),
  (false, ⟨some 125, .fieldAddr 24 (.tmp 5) 3, none, true⟩),
  (false, ⟨none, .store 22 (.tmp 125) (.tmp 124), none, true⟩)] false [(1, ⟨some 119, .load 22 (.tmp 118), none, false⟩, [0, 5])])
theorem k65_r36_e : type_of% (@Ev_of P pr N e σ Q _ _ k65_r36.eq_1) := Ev_of k65_r36.eq_1
def k65_r37 : CC := (.wregion [
  (true, ⟨some 126, .fieldAddr 24 (.tmp 5) 3, none, false⟩),
  (true, ⟨some 127, .load 22 (.tmp 126), none, false⟩),
  (false, ⟨some 128, .move (.tmp 0), none, false⟩),
  (false, ⟨some 129, .move (.tmp 12), none, true⟩),
  (false, ⟨some 130, .call { callee := .value (.func 65), args := #[.tmp 128, .tmp 129], argTypes := #[73, 9] }, none, true⟩),
  (true, ⟨some 131, .buildSlice 22 1 #[(0, .tmp 130)], none, true⟩),
  (false, ⟨some 132, .call { callee := .builtin .append, args := #[.tmp 127, .tmp 131], argTypes := #[22, 22] }, none, true⟩),
  (false, ⟨some 133, .fieldAddr 24 (.tmp 5) 3, none, true⟩),
  (false, ⟨none, .store 22 (.tmp 133) (.tmp 132), none, true⟩)] false [(1, ⟨some 127, .load 22 (.tmp 126), none, false⟩, [0, 5])])
theorem k65_r37_e : type_of% (@Ev_of P pr N e σ Q _ _ k65_r37.eq_1) := Ev_of k65_r37.eq_1
def k65_r35 : List COp := [
  ⟨some 116, .move (.tmp 14), none, true⟩,
  ⟨some 117, .binOp .add 3 (.tmp 116) (.const (.int .i64 1)) 3, none, true⟩,
  ⟨some 14, .assign (.tmp 117), none, true⟩]
theorem k65_r35_e : type_of% (@Eo_of P pr N e σ Q _ _ k65_r35.eq_1) := Eo_of k65_r35.eq_1
def k65_l1 : CC := (.seq (.seq (.region k65_r34) (.cond (.tmp 115) .skip (.exit 3))) (.seq (.block 4 (.seq k65_r36 k65_r37)) (.region k65_r35)))
theorem k65_l1_e : type_of% (@Ev_of P pr N e σ Q _ _ k65_l1.eq_1) := Ev_of k65_l1.eq_1
def k65_r38 : List COp := [
  ⟨some 134, .load 24 (.tmp 5), none, true⟩,
  ⟨none, .store 24 (.tmp 4) (.tmp 134), none, true⟩]
theorem k65_r38_e : type_of% (@Eo_of P pr N e σ Q _ _ k65_r38.eq_1) := Eo_of k65_r38.eq_1
def k65 : CC := (.seq (.region k65_r0) (.seq (.region k65_r1) (.seq (.seq (.region k65_r2) (.block 0 (.seq (.region k65_r3) (.cond (.tmp 19) (.seq (.region k65_r4) (.seq (.region k65_r5) (.seq (.seq (.region k65_r6) (.cond (.tmp 26) (.region k65_r7) .skip)) (.seq (.seq (.region k65_r8) (.cond (.tmp 31) (.region k65_r9) .skip)) (.region k65_r10))))) (.seq (.region k65_r11) (.cond (.tmp 37) (.seq (.region k65_r12) (.seq (.region k65_r13) (.cond (.tmp 44) (.region k65_r14) .skip))) (.seq (.region k65_r15) (.cond (.tmp 48) (.seq (.region k65_r16) (.seq (.seq (.region k65_r17) (.cond (.tmp 53) (.region k65_r18) .skip)) (.region k65_r19))) (.seq (.region k65_r20) (.cond (.tmp 62) (.seq (.region k65_r21) (.seq (.seq (.region k65_r22) (.cond (.tmp 67) (.region k65_r23) .skip)) (.seq (.region k65_r24) (.block 1 (.loop k65_l0))))) (.seq (.region k65_r28) (.cond (.tmp 92) (.seq (.region k65_r29) (.seq (.region k65_r30) (.seq (.seq (.region k65_r31) (.cond (.tmp 102) (.region k65_r32) .skip)) (.seq (.region k65_r33) (.block 3 (.loop k65_l1)))))) .skip)))))))))))) (.seq (.region k65_r38) .ret))))
theorem k65_e : type_of% (@Ev_of P pr N e σ Q _ _ k65.eq_1) := Ev_of k65.eq_1
theorem k65_a : type_of% @k65_e ∧ type_of% @k65_r0_e ∧ type_of% @k65_r1_e ∧ type_of% @k65_r2_e ∧ type_of% @k65_r3_e ∧ type_of% @k65_r4_e ∧ type_of% @k65_r5_e ∧ type_of% @k65_r6_e ∧ type_of% @k65_r7_e ∧ type_of% @k65_r8_e ∧ type_of% @k65_r9_e ∧ type_of% @k65_r10_e ∧ type_of% @k65_r11_e ∧ type_of% @k65_r12_e ∧ type_of% @k65_r13_e ∧ type_of% @k65_r14_e ∧ type_of% @k65_r15_e ∧ type_of% @k65_r16_e ∧ type_of% @k65_r17_e ∧ type_of% @k65_r18_e ∧ type_of% @k65_r19_e ∧ type_of% @k65_r20_e ∧ type_of% @k65_r21_e ∧ type_of% @k65_r22_e ∧ type_of% @k65_r23_e ∧ type_of% @k65_r24_e ∧ type_of% @k65_r25_e ∧ type_of% @k65_r27_e ∧ type_of% @k65_r26_e ∧ type_of% @k65_l0_e ∧ type_of% @k65_r28_e ∧ type_of% @k65_r29_e ∧ type_of% @k65_r30_e ∧ type_of% @k65_r31_e ∧ type_of% @k65_r32_e ∧ type_of% @k65_r33_e ∧ type_of% @k65_r34_e ∧ type_of% @k65_r36_e ∧ type_of% @k65_r37_e ∧ type_of% @k65_r35_e ∧ type_of% @k65_l1_e ∧ type_of% @k65_r38_e := ⟨@k65_e, @k65_r0_e, @k65_r1_e, @k65_r2_e, @k65_r3_e, @k65_r4_e, @k65_r5_e, @k65_r6_e, @k65_r7_e, @k65_r8_e, @k65_r9_e, @k65_r10_e, @k65_r11_e, @k65_r12_e, @k65_r13_e, @k65_r14_e, @k65_r15_e, @k65_r16_e, @k65_r17_e, @k65_r18_e, @k65_r19_e, @k65_r20_e, @k65_r21_e, @k65_r22_e, @k65_r23_e, @k65_r24_e, @k65_r25_e, @k65_r27_e, @k65_r26_e, @k65_l0_e, @k65_r28_e, @k65_r29_e, @k65_r30_e, @k65_r31_e, @k65_r32_e, @k65_r33_e, @k65_r34_e, @k65_r36_e, @k65_r37_e, @k65_r35_e, @k65_l1_e, @k65_r38_e⟩
/-- quern/quernref09.Read -/
theorem k65_is : FnIs Try.prog prims 65 135 [ResultVar.cell 4 24] k65 := FnIs.of_fn Try.func65 (by kernel_rfl) rfl
def k66_r0 : List COp := [
  ⟨some 2, .assign (.const (.int .i64 0)), none, true⟩]
theorem k66_r0_e : type_of% (@Eo_of P pr N e σ Q _ _ k66_r0.eq_1) := Eo_of k66_r0.eq_1
def k66_r1 : List COp := [
  ⟨some 5, .move (.tmp 0), none, true⟩,
  ⟨some 6, .binOp .eql 9 (.tmp 5) (.const (.string { data := #[105, 110, 116] })) 9, none, true⟩,
  ⟨some 7, .move (.tmp 6), none, true⟩,
  ⟨some 8, .move (.tmp 0), some (7, false), true⟩,
  ⟨some 9, .binOp .eql 9 (.tmp 8) (.const (.string { data := #[98, 111, 111, 108] })) 9, some (7, false), true⟩,
  ⟨some 10, .pick (.tmp 7) (.const (.bool true)) (.tmp 9), none, true⟩,
  ⟨some 11, .move (.tmp 10), none, true⟩,
  ⟨some 12, .move (.tmp 0), some (11, false), true⟩,
  ⟨some 13, .binOp .eql 9 (.tmp 12) (.const (.string { data := #[116, 101, 120, 116] })) 9, some (11, false), true⟩,
  ⟨some 14, .pick (.tmp 11) (.const (.bool true)) (.tmp 13), none, true⟩]
theorem k66_r1_e : type_of% (@Eo_of P pr N e σ Q _ _ k66_r1.eq_1) := Eo_of k66_r1.eq_1
def k66_r2 : List COp := [
  ⟨some 2, .assign (.const (.int .i64 1)), none, true⟩]
theorem k66_r2_e : type_of% (@Eo_of P pr N e σ Q _ _ k66_r2.eq_1) := Eo_of k66_r2.eq_1
def k66_r3 : List COp := [
  ⟨some 3, .assign (.const (.string { data := #[] })), none, true⟩]
theorem k66_r3_e : type_of% (@Eo_of P pr N e σ Q _ _ k66_r3.eq_1) := Eo_of k66_r3.eq_1
def k66_r4 : List COp := [
  ⟨some 15, .move (.tmp 0), none, true⟩,
  ⟨some 16, .call { callee := .builtin .len, args := #[.tmp 15], argTypes := #[9] }, none, true⟩,
  ⟨some 17, .binOp .gtr 3 (.tmp 16) (.const (.int .i64 2)) 3, none, true⟩,
  ⟨some 18, .move (.tmp 17), none, true⟩,
  ⟨some 19, .move (.tmp 0), some (18, true), true⟩,
  ⟨some 20, .index 9 (.tmp 19) (.const (.int .i64 0)), some (18, true), true⟩,
  ⟨some 21, .binOp .eql 5 (.tmp 20) (.const (.int .u8 91)) 5, some (18, true), true⟩,
  ⟨some 22, .pick (.tmp 18) (.tmp 21) (.const (.bool false)), none, true⟩,
  ⟨some 23, .move (.tmp 22), none, true⟩,
  ⟨some 24, .move (.tmp 0), some (23, true), true⟩,
  ⟨some 25, .move (.tmp 0), some (23, true), true⟩,
  ⟨some 26, .call { callee := .builtin .len, args := #[.tmp 25], argTypes := #[9] }, some (23, true), true⟩,
  ⟨some 27, .binOp .sub 3 (.tmp 26) (.const (.int .i64 1)) 3, some (23, true), true⟩,
  ⟨some 28, .index 9 (.tmp 24) (.tmp 27), some (23, true), true⟩,
  ⟨some 29, .binOp .eql 5 (.tmp 28) (.const (.int .u8 93)) 5, some (23, true), true⟩,
  ⟨some 30, .pick (.tmp 23) (.tmp 29) (.const (.bool false)), none, true⟩]
theorem k66_r4_e : type_of% (@Eo_of P pr N e σ Q _ _ k66_r4.eq_1) := Eo_of k66_r4.eq_1
def k66_r5 : List COp := [
  ⟨some 31, .move (.tmp 0), none, true⟩,
  ⟨some 32, .move (.tmp 0), none, true⟩,
  ⟨some 33, .call { callee := .builtin .len, args := #[.tmp 32], argTypes := #[9] }, none, true⟩,
  ⟨some 34, .binOp .sub 3 (.tmp 33) (.const (.int .i64 1)) 3, none, true⟩,
  ⟨some 35, .slice 9 (.tmp 31) (some (.const (.int .i64 1))) (some (.tmp 34)) .none, none, true⟩,
  ⟨some 3, .assign (.tmp 35), none, true⟩]
theorem k66_r5_e : type_of% (@Eo_of P pr N e σ Q _ _ k66_r5.eq_1) := Eo_of k66_r5.eq_1
def k66_r6 : List COp := [
  ⟨some 36, .move (.tmp 0), none, true⟩,
  ⟨some 37, .call { callee := .builtin .len, args := #[.tmp 36], argTypes := #[9] }, none, true⟩,
  ⟨some 38, .binOp .gtr 3 (.tmp 37) (.const (.int .i64 6)) 3, none, true⟩,
  ⟨some 39, .move (.tmp 38), none, true⟩,
  ⟨some 40, .move (.tmp 0), some (39, true), true⟩,
  ⟨some 41, .slice 9 (.tmp 40) .none (some (.const (.int .i64 5))) .none, some (39, true), true⟩,
  ⟨some 42, .binOp .eql 9 (.tmp 41) (.const (.string { data := #[123, 105, 110, 116, 58] })) 9, some (39, true), true⟩,
  ⟨some 43, .pick (.tmp 39) (.tmp 42) (.const (.bool false)), none, true⟩,
  ⟨some 44, .move (.tmp 43), none, true⟩,
  ⟨some 45, .move (.tmp 0), some (44, true), true⟩,
  ⟨some 46, .move (.tmp 0), some (44, true), true⟩,
  ⟨some 47, .call { callee := .builtin .len, args := #[.tmp 46], argTypes := #[9] }, some (44, true), true⟩,
  ⟨some 48, .binOp .sub 3 (.tmp 47) (.const (.int .i64 1)) 3, some (44, true), true⟩,
  ⟨some 49, .index 9 (.tmp 45) (.tmp 48), some (44, true), true⟩,
  ⟨some 50, .binOp .eql 5 (.tmp 49) (.const (.int .u8 125)) 5, some (44, true), true⟩,
  ⟨some 51, .pick (.tmp 44) (.tmp 50) (.const (.bool false)), none, true⟩]
theorem k66_r6_e : type_of% (@Eo_of P pr N e σ Q _ _ k66_r6.eq_1) := Eo_of k66_r6.eq_1
def k66_r7 : List COp := [
  ⟨some 52, .move (.tmp 0), none, true⟩,
  ⟨some 53, .move (.tmp 0), none, true⟩,
  ⟨some 54, .call { callee := .builtin .len, args := #[.tmp 53], argTypes := #[9] }, none, true⟩,
  ⟨some 55, .binOp .sub 3 (.tmp 54) (.const (.int .i64 1)) 3, none, true⟩,
  ⟨some 56, .slice 9 (.tmp 52) (some (.const (.int .i64 5))) (some (.tmp 55)) .none, none, true⟩,
  ⟨some 3, .assign (.tmp 56), none, true⟩]
theorem k66_r7_e : type_of% (@Eo_of P pr N e σ Q _ _ k66_r7.eq_1) := Eo_of k66_r7.eq_1
def k66_r8 : List COp := [
  ⟨some 57, .move (.tmp 0), none, true⟩,
  ⟨some 58, .call { callee := .builtin .len, args := #[.tmp 57], argTypes := #[9] }, none, true⟩,
  ⟨some 59, .binOp .gtr 3 (.tmp 58) (.const (.int .i64 7)) 3, none, true⟩,
  ⟨some 60, .move (.tmp 59), none, true⟩,
  ⟨some 61, .move (.tmp 0), some (60, true), true⟩,
  ⟨some 62, .slice 9 (.tmp 61) .none (some (.const (.int .i64 6))) .none, some (60, true), true⟩,
  ⟨some 63, .binOp .eql 9 (.tmp 62) (.const (.string { data := #[123, 116, 101, 120, 116, 58] })) 9, some (60, true), true⟩,
  ⟨some 64, .pick (.tmp 60) (.tmp 63) (.const (.bool false)), none, true⟩,
  ⟨some 65, .move (.tmp 64), none, true⟩,
  ⟨some 66, .move (.tmp 0), some (65, true), true⟩,
  ⟨some 67, .move (.tmp 0), some (65, true), true⟩,
  ⟨some 68, .call { callee := .builtin .len, args := #[.tmp 67], argTypes := #[9] }, some (65, true), true⟩,
  ⟨some 69, .binOp .sub 3 (.tmp 68) (.const (.int .i64 1)) 3, some (65, true), true⟩,
  ⟨some 70, .index 9 (.tmp 66) (.tmp 69), some (65, true), true⟩,
  ⟨some 71, .binOp .eql 5 (.tmp 70) (.const (.int .u8 125)) 5, some (65, true), true⟩,
  ⟨some 72, .pick (.tmp 65) (.tmp 71) (.const (.bool false)), none, true⟩]
theorem k66_r8_e : type_of% (@Eo_of P pr N e σ Q _ _ k66_r8.eq_1) := Eo_of k66_r8.eq_1
def k66_r9 : List COp := [
  ⟨some 73, .move (.tmp 0), none, true⟩,
  ⟨some 74, .move (.tmp 0), none, true⟩,
  ⟨some 75, .call { callee := .builtin .len, args := #[.tmp 74], argTypes := #[9] }, none, true⟩,
  ⟨some 76, .binOp .sub 3 (.tmp 75) (.const (.int .i64 1)) 3, none, true⟩,
  ⟨some 77, .slice 9 (.tmp 73) (some (.const (.int .i64 6))) (some (.tmp 76)) .none, none, true⟩,
  ⟨some 3, .assign (.tmp 77), none, true⟩]
theorem k66_r9_e : type_of% (@Eo_of P pr N e σ Q _ _ k66_r9.eq_1) := Eo_of k66_r9.eq_1
def k66_r10 : List COp := [
  ⟨some 2, .assign (.const (.int .i64 0)), none, true⟩]
theorem k66_r10_e : type_of% (@Eo_of P pr N e σ Q _ _ k66_r10.eq_1) := Eo_of k66_r10.eq_1
def k66_r11 : List COp := [
  ⟨some 78, .move (.tmp 0), none, true⟩,
  ⟨some 79, .call { callee := .builtin .len, args := #[.tmp 78], argTypes := #[9] }, none, true⟩,
  ⟨some 80, .binOp .gtr 3 (.tmp 79) (.const (.int .i64 200)) 3, none, true⟩]
theorem k66_r11_e : type_of% (@Eo_of P pr N e σ Q _ _ k66_r11.eq_1) := Eo_of k66_r11.eq_1
def k66_r12 : List COp := [
  ⟨some 2, .assign (.const (.int .i64 0)), none, true⟩]
theorem k66_r12_e : type_of% (@Eo_of P pr N e σ Q _ _ k66_r12.eq_1) := Eo_of k66_r12.eq_1
def k66_r13 : List COp := [
  ⟨some 81, .move (.tmp 3), none, true⟩,
  ⟨some 82, .call { callee := .value (.func 66), args := #[.tmp 81], argTypes := #[9] }, none, true⟩,
  ⟨some 4, .assign (.tmp 82), none, true⟩]
theorem k66_r13_e : type_of% (@Eo_of P pr N e σ Q _ _ k66_r13.eq_1) := Eo_of k66_r13.eq_1
def k66_r14 : List COp := [
  ⟨some 83, .move (.tmp 4), none, true⟩,
  ⟨some 84, .binOp .eql 3 (.tmp 83) (.const (.int .i64 0)) 3, none, true⟩]
theorem k66_r14_e : type_of% (@Eo_of P pr N e σ Q _ _ k66_r14.eq_1) := Eo_of k66_r14.eq_1
def k66_r15 : List COp := [
  ⟨some 2, .assign (.const (.int .i64 0)), none, true⟩]
theorem k66_r15_e : type_of% (@Eo_of P pr N e σ Q _ _ k66_r15.eq_1) := Eo_of k66_r15.eq_1
def k66_r16 : List COp := [
  ⟨some 85, .move (.tmp 4), none, true⟩,
  ⟨some 86, .binOp .add 3 (.tmp 85) (.const (.int .i64 1)) 3, none, true⟩,
  ⟨some 2, .assign (.tmp 86), none, true⟩]
theorem k66_r16_e : type_of% (@Eo_of P pr N e σ Q _ _ k66_r16.eq_1) := Eo_of k66_r16.eq_1
def k66 : CC := (.seq (.region k66_r0) (.seq (.seq (.region k66_r1) (.cond (.tmp 14) (.seq (.region k66_r2) .ret) .skip)) (.seq (.region k66_r3) (.seq (.seq (.region k66_r4) (.cond (.tmp 30) (.region k66_r5) (.seq (.region k66_r6) (.cond (.tmp 51) (.region k66_r7) (.seq (.region k66_r8) (.cond (.tmp 72) (.region k66_r9) (.seq (.region k66_r10) .ret))))))) (.seq (.seq (.region k66_r11) (.cond (.tmp 80) (.seq (.region k66_r12) .ret) .skip)) (.seq (.region k66_r13) (.seq (.seq (.region k66_r14) (.cond (.tmp 84) (.seq (.region k66_r15) .ret) .skip)) (.seq (.region k66_r16) .ret))))))))
theorem k66_e : type_of% (@Ev_of P pr N e σ Q _ _ k66.eq_1) := Ev_of k66.eq_1
theorem k66_a : type_of% @k66_e ∧ type_of% @k66_r0_e ∧ type_of% @k66_r1_e ∧ type_of% @k66_r2_e ∧ type_of% @k66_r3_e ∧ type_of% @k66_r4_e ∧ type_of% @k66_r5_e ∧ type_of% @k66_r6_e ∧ type_of% @k66_r7_e ∧ type_of% @k66_r8_e ∧ type_of% @k66_r9_e ∧ type_of% @k66_r10_e ∧ type_of% @k66_r11_e ∧ type_of% @k66_r12_e ∧ type_of% @k66_r13_e ∧ type_of% @k66_r14_e ∧ type_of% @k66_r15_e ∧ type_of% @k66_r16_e := ⟨@k66_e, @k66_r0_e, @k66_r1_e, @k66_r2_e, @k66_r3_e, @k66_r4_e, @k66_r5_e, @k66_r6_e, @k66_r7_e, @k66_r8_e, @k66_r9_e, @k66_r10_e, @k66_r11_e, @k66_r12_e, @k66_r13_e, @k66_r14_e, @k66_r15_e, @k66_r16_e⟩
/-- quern/quernref08.Depth -/
theorem k66_is : FnIs Try.prog prims 66 87 [ResultVar.tmp 2] k66 := FnIs.of_fn Try.func66 (by kernel_rfl) rfl
end Go.Proofs.Ytlimedbanpfkgaa.Q
