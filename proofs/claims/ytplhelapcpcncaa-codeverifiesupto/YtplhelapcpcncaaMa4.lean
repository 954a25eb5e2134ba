/- A part of the proof: R0. -/
import Derived.Test.YtplhelapcpcncaaMa3
import Derived.Test.YtplhelapcpcncaaChecked
/- The code of some functions without its ornaments. Written by gen.py. -/
set_option maxRecDepth 100000
namespace Go.Proofs.Ytplhelapcpcncaa.Q
open Go Go.RowKit Go.Proofs
variable {P : Program} {pr : Prim} {N : Nat} {e : Nat → V} {σ : St} {Q : VX → (Nat → V) → St → Prop} {QQ : QD} {SS : QS} {m : Pn}
def k3_r0 : List COp := [
  ⟨some 2, .box 25 (.tmp 0), none, true⟩,
  ⟨some 4, .assign (.const (.bool false)), none, true⟩]
theorem k3_r0_e : type_of% (@Eo_of P pr N e σ Q _ _ k3_r0.eq_1) := Eo_of k3_r0.eq_1
def k3_r1 : List COp := [
  ⟨some 7, .call { callee := .value (.func 8), args := #[], argTypes := #[] }, none, true⟩,
  ⟨some 8, .unOp .not 4 (.tmp 7), none, true⟩]
theorem k3_r1_e : type_of% (@Eo_of P pr N e σ Q _ _ k3_r1.eq_1) := Eo_of k3_r1.eq_1
def k3_r2 : List COp := [
  ⟨some 4, .assign (.const (.bool false)), none, true⟩]
theorem k3_r2_e : type_of% (@Eo_of P pr N e σ Q _ _ k3_r2.eq_1) := Eo_of k3_r2.eq_1
def k3_r3 : List COp := [
  ⟨some 9, .load 25 (.tmp 2), none, true⟩,
  ⟨some 10, .call { callee := .value (.func 9), args := #[.tmp 9], argTypes := #[25] }, none, true⟩]
theorem k3_r3_e : type_of% (@Eo_of P pr N e σ Q _ _ k3_r3.eq_1) := Eo_of k3_r3.eq_1
def k3_r4 : List COp := [
  ⟨some 4, .assign (.const (.bool true)), none, true⟩]
theorem k3_r4_e : type_of% (@Eo_of P pr N e σ Q _ _ k3_r4.eq_1) := Eo_of k3_r4.eq_1
def k3_r5 : List COp := [
  ⟨some 11, .fieldAddr 25 (.tmp 2) 0, none, true⟩,
  ⟨some 12, .load 22 (.tmp 11), none, true⟩,
  ⟨some 13, .call { callee := .builtin .len, args := #[.tmp 12], argTypes := #[22] }, none, true⟩,
  ⟨some 14, .move (.const (.int .i64 0)), none, true⟩]
theorem k3_r5_e : type_of% (@Eo_of P pr N e σ Q _ _ k3_r5.eq_1) := Eo_of k3_r5.eq_1
def k3_r6 : List COp := [
  ⟨some 15, .binOp .lss 3 (.tmp 14) (.tmp 13) 3, none, true⟩]
theorem k3_r6_e : type_of% (@Eo_of P pr N e σ Q _ _ k3_r6.eq_1) := Eo_of k3_r6.eq_1
def k3_r7 : List COp := [
  ⟨some 16, .indexAddr 22 (.tmp 12) (.tmp 14), none, true⟩,
  ⟨some 17, .load 29 (.tmp 16), none, true⟩,
  ⟨some 6, .alloc 29, none, true⟩,
  ⟨none, .store 29 (.tmp 6) (.tmp 17), none, true⟩]
theorem k3_r7_e : type_of% (@Eo_of P pr N e σ Q _ _ k3_r7.eq_1) := Eo_of k3_r7.eq_1
def k3_r8 : CC := (.wregion [
  (true, ⟨some 18, .load 29 (.tmp 6), none, false⟩),
  (false, ⟨some 19, .call { callee := .value (.func 10), args := #[.tmp 18], argTypes := #[29] }, none, false⟩),
  (true, ⟨some 20, .load 29 (.tmp 6), none, true⟩),
  (false, ⟨some 21, .call { callee := .value (.func 11), args := #[.tmp 20], argTypes := #[29] }, none, true⟩),
  (false, ⟨some 22, .binOp .neq 9 (.tmp 19) (.tmp 21) 9, none, true⟩)] false [(2, ⟨some 20, .load 29 (.tmp 6), none, true⟩, [0, 2])])
theorem k3_r8_e : type_of% (@Ev_of P pr N e σ Q _ _ k3_r8.eq_1) := Ev_of k3_r8.eq_1
def k3_r9 : List COp := [
  ⟨some 4, .assign (.const (.bool false)), none, true⟩]
theorem k3_r9_e : type_of% (@Eo_of P pr N e σ Q _ _ k3_r9.eq_1) := Eo_of k3_r9.eq_1
def k3_r10 : List COp := [
  ⟨some 23, .binOp .add 3 (.tmp 14) (.const (.int .i64 1)) 3, none, true⟩,
  ⟨some 14, .move (.tmp 23), none, true⟩]
theorem k3_r10_e : type_of% (@Eo_of P pr N e σ Q _ _ k3_r10.eq_1) := Eo_of k3_r10.eq_1
def k3_l0 : CC := (.seq (.region k3_r6) (.seq (.cond (.tmp 15) .skip (.exit 0)) (.seq (.block 1 (.seq (.region k3_r7) (.seq k3_r8 (.cond (.tmp 22) (.seq (.region k3_r9) .ret) .skip)))) (.region k3_r10))))
theorem k3_l0_e : type_of% (@Ev_of P pr N e σ Q _ _ k3_l0.eq_1) := Ev_of k3_l0.eq_1
def k3_r11 : CC := (.wregion [
  (true, ⟨some 24, .load 25 (.tmp 2), none, false⟩),
  (false, ⟨some 25, .move (.tmp 1), none, false⟩),
  (false, ⟨some 26, .call { callee := .value (.func 12), args := #[.tmp 24, .tmp 25], argTypes := #[25, 3] }, none, false⟩),
  (true, ⟨some 27, .load 25 (.tmp 2), none, false⟩),
  (false, ⟨some 28, .move (.tmp 1), none, true⟩),
  (false, ⟨some 29, .call { callee := .value (.func 13), args := #[.tmp 27, .tmp 28], argTypes := #[25, 3] }, none, true⟩),
  (false, ⟨some 30, .binOp .eql 31 (.tmp 26) (.tmp 29) 31, none, true⟩),
  (false, ⟨some 4, .assign (.tmp 30), none, true⟩)] false [(3, ⟨some 27, .load 25 (.tmp 2), none, false⟩, [0, 3])])
theorem k3_r11_e : type_of% (@Ev_of P pr N e σ Q _ _ k3_r11.eq_1) := Ev_of k3_r11.eq_1
def k3 : CC := (.seq (.region k3_r0) (.seq (.seq (.region k3_r1) (.cond (.tmp 8) (.seq (.region k3_r2) .ret) .skip)) (.seq (.seq (.region k3_r3) (.cond (.tmp 10) (.seq (.region k3_r4) .ret) .skip)) (.seq (.seq (.region k3_r5) (.block 0 (.loop k3_l0))) (.seq k3_r11 .ret)))))
theorem k3_e : type_of% (@Ev_of P pr N e σ Q _ _ k3.eq_1) := Ev_of k3.eq_1
theorem k3_a : type_of% @k3_e ∧ type_of% @k3_r0_e ∧ type_of% @k3_r1_e ∧ type_of% @k3_r2_e ∧ type_of% @k3_r3_e ∧ type_of% @k3_r4_e ∧ type_of% @k3_r5_e ∧ type_of% @k3_r6_e ∧ type_of% @k3_r7_e ∧ type_of% @k3_r8_e ∧ type_of% @k3_r9_e ∧ type_of% @k3_r10_e ∧ type_of% @k3_l0_e ∧ type_of% @k3_r11_e := ⟨@k3_e, @k3_r0_e, @k3_r1_e, @k3_r2_e, @k3_r3_e, @k3_r4_e, @k3_r5_e, @k3_r6_e, @k3_r7_e, @k3_r8_e, @k3_r9_e, @k3_r10_e, @k3_l0_e, @k3_r11_e⟩
/-- quern/quernlaw13.CodeVerifies -/
theorem k3_is : FnIs Try.prog prims 3 31 [ResultVar.tmp 4] k3 := FnIs.of_fn Try.func3 (by kernel_rfl) rfl
def k8_r0 : List COp := [
  ⟨some 0, .assign (.const (.bool false)), none, true⟩]
theorem k8_r0_e : type_of% (@Eo_of P pr N e σ Q _ _ k8_r0.eq_1) := Eo_of k8_r0.eq_1
def k8_r1 : List COp := [
  ⟨some 4, .build 39 #[(0, .const (.int .i64 1))], none, true⟩,
  ⟨some 5, .build 39 #[(0, .const (.int .i64 10))], none, true⟩,
  ⟨some 6, .buildSlice 35 2 #[(0, .tmp 4), (1, .tmp 5)], none, true⟩,
  ⟨some 7, .call { callee := .value (.func 20), args := #[.tmp 6], argTypes := #[35] }, none, true⟩,
  ⟨some 8, .call { callee := .value (.func 15), args := #[.tmp 7, .const (.int .i64 0)], argTypes := #[25, 3] }, none, true⟩,
  ⟨some 3, .move (.tmp 8), none, true⟩,
  ⟨some 9, .extract (.tmp 3) 0, none, true⟩,
  ⟨some 10, .extract (.tmp 3) 1, none, true⟩,
  ⟨some 1, .assign (.tmp 9), none, true⟩,
  ⟨some 2, .assign (.tmp 10), none, true⟩]
theorem k8_r1_e : type_of% (@Eo_of P pr N e σ Q _ _ k8_r1.eq_1) := Eo_of k8_r1.eq_1
def k8_r2 : List COp := [
  ⟨some 11, .move (.tmp 2), none, true⟩,
  ⟨some 12, .binOp .eql 31 (.tmp 11) (.const (.int .i64 0)) 31, none, true⟩,
  ⟨some 13, .move (.tmp 12), none, true⟩,
  ⟨some 14, .move (.tmp 1), some (13, true), true⟩,
  ⟨some 15, .convert 41 9 (.tmp 14), some (13, true), true⟩,
  ⟨some 16, .binOp .eql 9 (.tmp 15) (.const (.string { data := #[1, 1, 1, 0, 7, 0, 0, 0, 1, 2, 1, 0, 10, 0] })) 9, some (13, true), true⟩,
  ⟨some 17, .pick (.tmp 13) (.tmp 16) (.const (.bool false)), none, true⟩,
  ⟨some 18, .move (.tmp 17), none, true⟩,
  ⟨some 19, .build 39 #[(0, .const (.int .i64 1))], some (18, true), true⟩,
  ⟨some 20, .buildSlice 35 1 #[(0, .tmp 19)], some (18, true), true⟩,
  ⟨some 21, .call { callee := .value (.func 20), args := #[.tmp 20], argTypes := #[35] }, some (18, true), true⟩,
  ⟨some 22, .call { callee := .value (.func 12), args := #[.tmp 21, .const (.int .i64 0)], argTypes := #[25, 3] }, some (18, true), true⟩,
  ⟨some 23, .binOp .eql 31 (.tmp 22) (.const (.int .i64 40)) 31, some (18, true), true⟩,
  ⟨some 24, .pick (.tmp 18) (.tmp 23) (.const (.bool false)), none, true⟩,
  ⟨some 25, .move (.tmp 24), none, true⟩,
  ⟨some 26, .build 39 #[(0, .const (.int .i64 10))], some (25, true), true⟩,
  ⟨some 27, .buildSlice 35 1 #[(0, .tmp 26)], some (25, true), true⟩,
  ⟨some 28, .call { callee := .value (.func 20), args := #[.tmp 27], argTypes := #[35] }, some (25, true), true⟩,
  ⟨some 29, .call { callee := .value (.func 12), args := #[.tmp 28, .const (.int .i64 0)], argTypes := #[25, 3] }, some (25, true), true⟩,
  ⟨some 30, .binOp .eql 31 (.tmp 29) (.const (.int .i64 40)) 31, some (25, true), true⟩,
  ⟨some 31, .pick (.tmp 25) (.tmp 30) (.const (.bool false)), none, true⟩,
  ⟨some 32, .move (.tmp 31), none, true⟩,
  ⟨some 33, .build 39 #[(0, .const (.int .i64 1))], some (32, true), true⟩,
  ⟨some 34, .build 39 #[(0, .const (.int .i64 7))], some (32, true), true⟩,
  ⟨some 35, .buildSlice 35 2 #[(0, .tmp 33), (1, .tmp 34)], some (32, true), true⟩,
  ⟨some 36, .call { callee := .value (.func 20), args := #[.tmp 35], argTypes := #[35] }, some (32, true), true⟩,
  ⟨some 37, .call { callee := .value (.func 12), args := #[.tmp 36, .const (.int .i64 0)], argTypes := #[25, 3] }, some (32, true), true⟩,
  ⟨some 38, .binOp .eql 31 (.tmp 37) (.const (.int .i64 40)) 31, some (32, true), true⟩,
  ⟨some 39, .pick (.tmp 32) (.tmp 38) (.const (.bool false)), none, true⟩,
  ⟨some 0, .assign (.tmp 39), none, true⟩]
theorem k8_r2_e : type_of% (@Eo_of P pr N e σ Q _ _ k8_r2.eq_1) := Eo_of k8_r2.eq_1
def k8 : CC := (.seq (.region k8_r0) (.seq (.region k8_r1) (.seq (.region k8_r2) .ret)))
theorem k8_e : type_of% (@Ev_of P pr N e σ Q _ _ k8.eq_1) := Ev_of k8.eq_1
theorem k8_a : type_of% @k8_e ∧ type_of% @k8_r0_e ∧ type_of% @k8_r1_e ∧ type_of% @k8_r2_e := ⟨@k8_e, @k8_r0_e, @k8_r1_e, @k8_r2_e⟩
/-- quern/quernlaw13.wakes -/
theorem k8_is : FnIs Try.prog prims 8 40 [ResultVar.tmp 0] k8 := FnIs.of_fn Try.func8 (by kernel_rfl) rfl
def k9_r0 : List COp := [
  ⟨some 1, .box 25 (.tmp 0), none, true⟩,
  ⟨some 2, .assign (.const (.bool false)), none, true⟩]
theorem k9_r0_e : type_of% (@Eo_of P pr N e σ Q _ _ k9_r0.eq_1) := Eo_of k9_r0.eq_1
def k9_r1 : List COp := [
  ⟨some 3, .assign (.const (.int .i64 0)), none, true⟩]
theorem k9_r1_e : type_of% (@Eo_of P pr N e σ Q _ _ k9_r1.eq_1) := Eo_of k9_r1.eq_1
def k9_r2 : List COp := [
  ⟨some 10, .fieldAddr 25 (.tmp 1) 1, none, true⟩,
  ⟨some 11, .load 23 (.tmp 10), none, true⟩,
  ⟨some 12, .call { callee := .builtin .len, args := #[.tmp 11], argTypes := #[23] }, none, true⟩,
  ⟨some 13, .move (.const (.int .i64 0)), none, true⟩]
theorem k9_r2_e : type_of% (@Eo_of P pr N e σ Q _ _ k9_r2.eq_1) := Eo_of k9_r2.eq_1
def k9_r3 : List COp := [
  ⟨some 14, .binOp .lss 3 (.tmp 13) (.tmp 12) 3, none, true⟩]
theorem k9_r3_e : type_of% (@Eo_of P pr N e σ Q _ _ k9_r3.eq_1) := Eo_of k9_r3.eq_1
def k9_r4 : List COp := [
  ⟨some 15, .indexAddr 23 (.tmp 11) (.tmp 13), none, true⟩,
  ⟨some 16, .load 37 (.tmp 15), none, true⟩,
  ⟨some 5, .alloc 37, none, true⟩,
  ⟨none, .store 37 (.tmp 5) (.tmp 16), none, true⟩]
theorem k9_r4_e : type_of% (@Eo_of P pr N e σ Q _ _ k9_r4.eq_1) := Eo_of k9_r4.eq_1
def k9_r5 : List COp := [
  ⟨some 17, .move (.tmp 3), none, true⟩,
  ⟨some 18, .fieldAddr 37 (.tmp 5) 4, none, true⟩,
  ⟨some 19, .load 35 (.tmp 18), none, true⟩,
  ⟨some 20, .call { callee := .builtin .len, args := #[.tmp 19], argTypes := #[35] }, none, true⟩,
  ⟨some 21, .binOp .add 3 (.const (.int .i64 1)) (.tmp 20) 3, none, true⟩,
  ⟨some 22, .binOp .add 3 (.tmp 17) (.tmp 21) 3, none, true⟩,
  ⟨some 3, .assign (.tmp 22), none, true⟩]
theorem k9_r5_e : type_of% (@Eo_of P pr N e σ Q _ _ k9_r5.eq_1) := Eo_of k9_r5.eq_1
def k9_r6 : List COp := [
  ⟨some 23, .move (.tmp 3), none, true⟩,
  ⟨some 24, .binOp .gtr 3 (.tmp 23) (.const (.int .i64 4096)) 3, none, true⟩]
theorem k9_r6_e : type_of% (@Eo_of P pr N e σ Q _ _ k9_r6.eq_1) := Eo_of k9_r6.eq_1
def k9_r7 : List COp := [
  ⟨some 2, .assign (.const (.bool true)), none, true⟩]
theorem k9_r7_e : type_of% (@Eo_of P pr N e σ Q _ _ k9_r7.eq_1) := Eo_of k9_r7.eq_1
def k9_r8 : List COp := [
  ⟨some 25, .binOp .add 3 (.tmp 13) (.const (.int .i64 1)) 3, none, true⟩,
  ⟨some 13, .move (.tmp 25), none, true⟩]
theorem k9_r8_e : type_of% (@Eo_of P pr N e σ Q _ _ k9_r8.eq_1) := Eo_of k9_r8.eq_1
def k9_l0 : CC := (.seq (.region k9_r3) (.seq (.cond (.tmp 14) .skip (.exit 0)) (.seq (.block 1 (.seq (.region k9_r4) (.seq (.region k9_r5) (.seq (.region k9_r6) (.cond (.tmp 24) (.seq (.region k9_r7) .ret) .skip))))) (.region k9_r8))))
theorem k9_l0_e : type_of% (@Ev_of P pr N e σ Q _ _ k9_l0.eq_1) := Ev_of k9_l0.eq_1
def k9_r9 : List COp := [
  ⟨some 26, .fieldAddr 25 (.tmp 1) 0, none, true⟩,
  ⟨some 27, .load 22 (.tmp 26), none, true⟩,
  ⟨some 28, .call { callee := .builtin .len, args := #[.tmp 27], argTypes := #[22] }, none, true⟩,
  ⟨some 29, .move (.const (.int .i64 0)), none, true⟩]
theorem k9_r9_e : type_of% (@Eo_of P pr N e σ Q _ _ k9_r9.eq_1) := Eo_of k9_r9.eq_1
def k9_r10 : List COp := [
  ⟨some 30, .binOp .lss 3 (.tmp 29) (.tmp 28) 3, none, true⟩]
theorem k9_r10_e : type_of% (@Eo_of P pr N e σ Q _ _ k9_r10.eq_1) := Eo_of k9_r10.eq_1
def k9_r11 : List COp := [
  ⟨some 31, .indexAddr 22 (.tmp 27) (.tmp 29), none, true⟩,
  ⟨some 32, .load 29 (.tmp 31), none, true⟩,
  ⟨some 7, .alloc 29, none, true⟩,
  ⟨none, .store 29 (.tmp 7) (.tmp 32), none, true⟩]
theorem k9_r11_e : type_of% (@Eo_of P pr N e σ Q _ _ k9_r11.eq_1) := Eo_of k9_r11.eq_1
def k9_r12 : List COp := [
  ⟨some 33, .move (.tmp 3), none, true⟩,
  ⟨some 34, .fieldAddr 29 (.tmp 7) 2, none, true⟩,
  ⟨some 35, .load 9 (.tmp 34), none, true⟩,
  ⟨some 36, .call { callee := .builtin .len, args := #[.tmp 35], argTypes := #[9] }, none, true⟩,
  ⟨some 37, .binOp .add 3 (.const (.int .i64 1)) (.tmp 36) 3, none, true⟩,
  ⟨some 38, .fieldAddr 29 (.tmp 7) 3, none, true⟩,
  ⟨some 39, .load 22 (.tmp 38), none, true⟩,
  ⟨some 40, .call { callee := .builtin .len, args := #[.tmp 39], argTypes := #[22] }, none, true⟩,
  ⟨some 41, .binOp .add 3 (.tmp 37) (.tmp 40) 3, none, true⟩,
  ⟨some 42, .binOp .add 3 (.tmp 33) (.tmp 41) 3, none, true⟩,
  ⟨some 3, .assign (.tmp 42), none, true⟩]
theorem k9_r12_e : type_of% (@Eo_of P pr N e σ Q _ _ k9_r12.eq_1) := Eo_of k9_r12.eq_1
def k9_r13 : List COp := [
  ⟨some 43, .move (.tmp 3), none, true⟩,
  ⟨some 44, .binOp .gtr 3 (.tmp 43) (.const (.int .i64 8192)) 3, none, true⟩]
theorem k9_r13_e : type_of% (@Eo_of P pr N e σ Q _ _ k9_r13.eq_1) := Eo_of k9_r13.eq_1
def k9_r14 : List COp := [
  ⟨some 2, .assign (.const (.bool true)), none, true⟩]
theorem k9_r14_e : type_of% (@Eo_of P pr N e σ Q _ _ k9_r14.eq_1) := Eo_of k9_r14.eq_1
def k9_r15 : List COp := [
  ⟨some 45, .fieldAddr 29 (.tmp 7) 3, none, true⟩,
  ⟨some 46, .load 22 (.tmp 45), none, true⟩,
  ⟨some 47, .call { callee := .builtin .len, args := #[.tmp 46], argTypes := #[22] }, none, true⟩,
  ⟨some 48, .move (.const (.int .i64 0)), none, true⟩]
theorem k9_r15_e : type_of% (@Eo_of P pr N e σ Q _ _ k9_r15.eq_1) := Eo_of k9_r15.eq_1
def k9_r16 : List COp := [
  ⟨some 49, .binOp .lss 3 (.tmp 48) (.tmp 47) 3, none, true⟩]
theorem k9_r16_e : type_of% (@Eo_of P pr N e σ Q _ _ k9_r16.eq_1) := Eo_of k9_r16.eq_1
def k9_r17 : List COp := [
  ⟨some 50, .indexAddr 22 (.tmp 46) (.tmp 48), none, true⟩,
  ⟨some 51, .load 29 (.tmp 50), none, true⟩,
  ⟨some 9, .alloc 29, none, true⟩,
  ⟨none, .store 29 (.tmp 9) (.tmp 51), none, true⟩]
theorem k9_r17_e : type_of% (@Eo_of P pr N e σ Q _ _ k9_r17.eq_1) := Eo_of k9_r17.eq_1
def k9_r18 : List COp := [
  ⟨some 52, .fieldAddr 29 (.tmp 9) 3, none, true⟩,
  ⟨some 53, .load 22 (.tmp 52), none, true⟩,
  ⟨some 54, .call { callee := .builtin .len, args := #[.tmp 53], argTypes := #[22] }, none, true⟩,
  ⟨some 55, .binOp .gtr 3 (.tmp 54) (.const (.int .i64 0)) 3, none, true⟩]
theorem k9_r18_e : type_of% (@Eo_of P pr N e σ Q _ _ k9_r18.eq_1) := Eo_of k9_r18.eq_1
def k9_r19 : List COp := [
  ⟨some 2, .assign (.const (.bool true)), none, true⟩]
theorem k9_r19_e : type_of% (@Eo_of P pr N e σ Q _ _ k9_r19.eq_1) := Eo_of k9_r19.eq_1
def k9_r20 : List COp := [
  ⟨some 56, .binOp .add 3 (.tmp 48) (.const (.int .i64 1)) 3, none, true⟩,
  ⟨some 48, .move (.tmp 56), none, true⟩]
theorem k9_r20_e : type_of% (@Eo_of P pr N e σ Q _ _ k9_r20.eq_1) := Eo_of k9_r20.eq_1
def k9_l2 : CC := (.seq (.region k9_r16) (.seq (.cond (.tmp 49) .skip (.exit 4)) (.seq (.block 5 (.seq (.region k9_r17) (.seq (.region k9_r18) (.cond (.tmp 55) (.seq (.region k9_r19) .ret) .skip)))) (.region k9_r20))))
theorem k9_l2_e : type_of% (@Ev_of P pr N e σ Q _ _ k9_l2.eq_1) := Ev_of k9_l2.eq_1
def k9_r21 : List COp := [
  ⟨some 57, .binOp .add 3 (.tmp 29) (.const (.int .i64 1)) 3, none, true⟩,
  ⟨some 29, .move (.tmp 57), none, true⟩]
theorem k9_r21_e : type_of% (@Eo_of P pr N e σ Q _ _ k9_r21.eq_1) := Eo_of k9_r21.eq_1
def k9_l1 : CC := (.seq (.region k9_r10) (.seq (.cond (.tmp 30) .skip (.exit 2)) (.seq (.block 3 (.seq (.region k9_r11) (.seq (.region k9_r12) (.seq (.seq (.region k9_r13) (.cond (.tmp 44) (.seq (.region k9_r14) .ret) .skip)) (.seq (.region k9_r15) (.block 4 (.loop k9_l2))))))) (.region k9_r21))))
theorem k9_l1_e : type_of% (@Ev_of P pr N e σ Q _ _ k9_l1.eq_1) := Ev_of k9_l1.eq_1
def k9_r22 : List COp := [
  ⟨some 2, .assign (.const (.bool false)), none, true⟩]
theorem k9_r22_e : type_of% (@Eo_of P pr N e σ Q _ _ k9_r22.eq_1) := Eo_of k9_r22.eq_1
def k9 : CC := (.seq (.region k9_r0) (.seq (.region k9_r1) (.seq (.seq (.region k9_r2) (.block 0 (.loop k9_l0))) (.seq (.seq (.region k9_r9) (.block 2 (.loop k9_l1))) (.seq (.region k9_r22) .ret)))))
theorem k9_e : type_of% (@Ev_of P pr N e σ Q _ _ k9.eq_1) := Ev_of k9.eq_1
theorem k9_a : type_of% @k9_e ∧ type_of% @k9_r0_e ∧ type_of% @k9_r1_e ∧ type_of% @k9_r2_e ∧ type_of% @k9_r3_e ∧ type_of% @k9_r4_e ∧ type_of% @k9_r5_e ∧ type_of% @k9_r6_e ∧ type_of% @k9_r7_e ∧ type_of% @k9_r8_e ∧ type_of% @k9_l0_e ∧ type_of% @k9_r9_e ∧ type_of% @k9_r10_e ∧ type_of% @k9_r11_e ∧ type_of% @k9_r12_e ∧ type_of% @k9_r13_e ∧ type_of% @k9_r14_e ∧ type_of% @k9_r15_e ∧ type_of% @k9_r16_e ∧ type_of% @k9_r17_e ∧ type_of% @k9_r18_e ∧ type_of% @k9_r19_e ∧ type_of% @k9_r20_e ∧ type_of% @k9_l2_e ∧ type_of% @k9_r21_e ∧ type_of% @k9_l1_e ∧ type_of% @k9_r22_e := ⟨@k9_e, @k9_r0_e, @k9_r1_e, @k9_r2_e, @k9_r3_e, @k9_r4_e, @k9_r5_e, @k9_r6_e, @k9_r7_e, @k9_r8_e, @k9_l0_e, @k9_r9_e, @k9_r10_e, @k9_r11_e, @k9_r12_e, @k9_r13_e, @k9_r14_e, @k9_r15_e, @k9_r16_e, @k9_r17_e, @k9_r18_e, @k9_r19_e, @k9_r20_e, @k9_l2_e, @k9_r21_e, @k9_l1_e, @k9_r22_e⟩
/-- quern/quernlaw13.large -/
theorem k9_is : FnIs Try.prog prims 9 58 [ResultVar.tmp 2] k9 := FnIs.of_fn Try.func9 (by kernel_rfl) rfl
def k10_r0 : List COp := [
  ⟨some 1, .box 29 (.tmp 0), none, true⟩,
  ⟨some 2, .assign (.const (.string { data := #[] })), none, true⟩]
theorem k10_r0_e : type_of% (@Eo_of P pr N e σ Q _ _ k10_r0.eq_1) := Eo_of k10_r0.eq_1
def k10_r1 : List COp := [
  ⟨some 5, .buildSlice 49 5 #[(0, .const (.string { data := #[105, 110, 116] })), (1, .const (.string { data := #[98, 111, 111, 108] })), (2, .const (.string { data := #[116, 101, 120, 116] })), (3, .const (.string { data := #[91, 105, 110, 116, 93] })), (4, .const (.string { data := #[123, 105, 110, 116, 58, 105, 110, 116, 125] }))], none, true⟩,
  ⟨some 6, .call { callee := .builtin .len, args := #[.tmp 5], argTypes := #[49] }, none, true⟩,
  ⟨some 7, .move (.const (.int .i64 0)), none, true⟩]
theorem k10_r1_e : type_of% (@Eo_of P pr N e σ Q _ _ k10_r1.eq_1) := Eo_of k10_r1.eq_1
def k10_r2 : List COp := [
  ⟨some 8, .binOp .lss 3 (.tmp 7) (.tmp 6) 3, none, true⟩]
theorem k10_r2_e : type_of% (@Eo_of P pr N e σ Q _ _ k10_r2.eq_1) := Eo_of k10_r2.eq_1
def k10_r3 : List COp := [
  ⟨some 9, .indexAddr 49 (.tmp 5) (.tmp 7), none, true⟩,
  ⟨some 10, .load 9 (.tmp 9), none, true⟩,
  ⟨some 4, .assign (.tmp 10), none, true⟩]
theorem k10_r3_e : type_of% (@Eo_of P pr N e σ Q _ _ k10_r3.eq_1) := Eo_of k10_r3.eq_1
def k10_r4 : List COp := [
  ⟨some 11, .fieldAddr 29 (.tmp 1) 3, none, true⟩,
  ⟨some 12, .load 22 (.tmp 11), none, true⟩,
  ⟨some 13, .call { callee := .builtin .len, args := #[.tmp 12], argTypes := #[22] }, none, true⟩,
  ⟨some 14, .binOp .eql 3 (.tmp 13) (.const (.int .i64 0)) 3, none, true⟩,
  ⟨some 15, .move (.tmp 14), none, true⟩,
  ⟨some 16, .load 29 (.tmp 1), some (15, true), true⟩,
  ⟨some 17, .move (.tmp 4), some (15, true), true⟩,
  ⟨some 18, .call { callee := .value (.func 21), args := #[.tmp 16, .tmp 17], argTypes := #[29, 9] }, some (15, true), true⟩,
  ⟨some 19, .pick (.tmp 15) (.tmp 18) (.const (.bool false)), none, true⟩]
theorem k10_r4_e : type_of% (@Eo_of P pr N e σ Q _ _ k10_r4.eq_1) := Eo_of k10_r4.eq_1
def k10_r5 : List COp := [
  ⟨some 20, .move (.tmp 4), none, true⟩,
  ⟨some 2, .assign (.tmp 20), none, true⟩]
theorem k10_r5_e : type_of% (@Eo_of P pr N e σ Q _ _ k10_r5.eq_1) := Eo_of k10_r5.eq_1
def k10_r6 : List COp := [
  ⟨some 21, .binOp .add 3 (.tmp 7) (.const (.int .i64 1)) 3, none, true⟩,
  ⟨some 7, .move (.tmp 21), none, true⟩]
theorem k10_r6_e : type_of% (@Eo_of P pr N e σ Q _ _ k10_r6.eq_1) := Eo_of k10_r6.eq_1
def k10_l0 : CC := (.seq (.region k10_r2) (.seq (.cond (.tmp 8) .skip (.exit 0)) (.seq (.block 1 (.seq (.region k10_r3) (.seq (.region k10_r4) (.cond (.tmp 19) (.seq (.region k10_r5) .ret) .skip)))) (.region k10_r6))))
theorem k10_l0_e : type_of% (@Ev_of P pr N e σ Q _ _ k10_l0.eq_1) := Ev_of k10_l0.eq_1
def k10_r7 : List COp := [
  ⟨some 2, .assign (.const (.string { data := #[] })), none, true⟩]
theorem k10_r7_e : type_of% (@Eo_of P pr N e σ Q _ _ k10_r7.eq_1) := Eo_of k10_r7.eq_1
def k10 : CC := (.seq (.region k10_r0) (.seq (.seq (.region k10_r1) (.block 0 (.loop k10_l0))) (.seq (.region k10_r7) .ret)))
theorem k10_e : type_of% (@Ev_of P pr N e σ Q _ _ k10.eq_1) := Ev_of k10.eq_1
theorem k10_a : type_of% @k10_e ∧ type_of% @k10_r0_e ∧ type_of% @k10_r1_e ∧ type_of% @k10_r2_e ∧ type_of% @k10_r3_e ∧ type_of% @k10_r4_e ∧ type_of% @k10_r5_e ∧ type_of% @k10_r6_e ∧ type_of% @k10_l0_e ∧ type_of% @k10_r7_e := ⟨@k10_e, @k10_r0_e, @k10_r1_e, @k10_r2_e, @k10_r3_e, @k10_r4_e, @k10_r5_e, @k10_r6_e, @k10_l0_e, @k10_r7_e⟩
/-- quern/code.Type -/
theorem k10_is : FnIs Try.prog prims 10 22 [ResultVar.tmp 2] k10 := FnIs.of_fn Try.func10 (by kernel_rfl) rfl
def k11_r0 : List COp := [
  ⟨some 1, .box 29 (.tmp 0), none, true⟩,
  ⟨some 2, .assign (.const (.string { data := #[] })), none, true⟩]
theorem k11_r0_e : type_of% (@Eo_of P pr N e σ Q _ _ k11_r0.eq_1) := Eo_of k11_r0.eq_1
def k11_r1 : List COp := [
  ⟨some 6, .fieldAddr 29 (.tmp 1) 3, none, true⟩,
  ⟨some 7, .load 22 (.tmp 6), none, true⟩,
  ⟨some 8, .call { callee := .builtin .len, args := #[.tmp 7], argTypes := #[22] }, none, true⟩,
  ⟨some 9, .binOp .gtr 3 (.tmp 8) (.const (.int .i64 0)) 3, none, true⟩]
theorem k11_r1_e : type_of% (@Eo_of P pr N e σ Q _ _ k11_r1.eq_1) := Eo_of k11_r1.eq_1
def k11_r2 : List COp := [
  ⟨some 2, .assign (.const (.string { data := #[] })), none, true⟩]
theorem k11_r2_e : type_of% (@Eo_of P pr N e σ Q _ _ k11_r2.eq_1) := Eo_of k11_r2.eq_1
def k11_r3 : List COp := [
  ⟨some 10, .build 51 #[(0, .const (.string { data := #[105, 110, 116] })), (1, .const (.string { data := #[98, 111, 111, 108] })), (2, .const (.string { data := #[116, 101, 120, 116] })), (3, .const (.string { data := #[91, 105, 110, 116, 93] })), (4, .const (.string { data := #[123, 105, 110, 116, 58, 105, 110, 116, 125] }))], none, true⟩,
  ⟨some 3, .alloc 51, none, true⟩,
  ⟨none, .store 51 (.tmp 3) (.tmp 10), none, true⟩]
theorem k11_r3_e : type_of% (@Eo_of P pr N e σ Q _ _ k11_r3.eq_1) := Eo_of k11_r3.eq_1
def k11_r4 : List COp := [
  ⟨some 11, .load 51 (.tmp 3), none, true⟩,
  ⟨some 12, .move (.const (.int .i64 0)), none, true⟩]
theorem k11_r4_e : type_of% (@Eo_of P pr N e σ Q _ _ k11_r4.eq_1) := Eo_of k11_r4.eq_1
def k11_r5 : List COp := [
  ⟨some 13, .binOp .lss 3 (.tmp 12) (.const (.int .i64 5)) 3, none, true⟩]
theorem k11_r5_e : type_of% (@Eo_of P pr N e σ Q _ _ k11_r5.eq_1) := Eo_of k11_r5.eq_1
def k11_r6 : List COp := [
  ⟨some 14, .index 51 (.tmp 11) (.tmp 12), none, true⟩,
  ⟨some 5, .assign (.tmp 14), none, true⟩]
theorem k11_r6_e : type_of% (@Eo_of P pr N e σ Q _ _ k11_r6.eq_1) := Eo_of k11_r6.eq_1
def k11_r7 : List COp := [
  ⟨some 15, .load 29 (.tmp 1), none, true⟩,
  ⟨some 16, .move (.tmp 5), none, true⟩,
  ⟨some 17, .call { callee := .value (.func 22), args := #[.tmp 15, .tmp 16], argTypes := #[29, 9] }, none, true⟩]
theorem k11_r7_e : type_of% (@Eo_of P pr N e σ Q _ _ k11_r7.eq_1) := Eo_of k11_r7.eq_1
def k11_r8 : List COp := [
  ⟨some 18, .move (.tmp 5), none, true⟩,
  ⟨some 2, .assign (.tmp 18), none, true⟩]
theorem k11_r8_e : type_of% (@Eo_of P pr N e σ Q _ _ k11_r8.eq_1) := Eo_of k11_r8.eq_1
def k11_r9 : List COp := [
  ⟨some 19, .binOp .add 3 (.tmp 12) (.const (.int .i64 1)) 3, none, true⟩,
  ⟨some 12, .move (.tmp 19), none, true⟩]
theorem k11_r9_e : type_of% (@Eo_of P pr N e σ Q _ _ k11_r9.eq_1) := Eo_of k11_r9.eq_1
def k11_l0 : CC := (.seq (.region k11_r5) (.seq (.cond (.tmp 13) .skip (.exit 0)) (.seq (.block 1 (.seq (.region k11_r6) (.seq (.region k11_r7) (.cond (.tmp 17) (.seq (.region k11_r8) .ret) .skip)))) (.region k11_r9))))
theorem k11_l0_e : type_of% (@Ev_of P pr N e σ Q _ _ k11_l0.eq_1) := Ev_of k11_l0.eq_1
def k11_r10 : List COp := [
  ⟨some 2, .assign (.const (.string { data := #[] })), none, true⟩]
theorem k11_r10_e : type_of% (@Eo_of P pr N e σ Q _ _ k11_r10.eq_1) := Eo_of k11_r10.eq_1
def k11 : CC := (.seq (.region k11_r0) (.seq (.seq (.region k11_r1) (.cond (.tmp 9) (.seq (.region k11_r2) .ret) .skip)) (.seq (.region k11_r3) (.seq (.seq (.region k11_r4) (.block 0 (.loop k11_l0))) (.seq (.region k11_r10) .ret)))))
theorem k11_e : type_of% (@Ev_of P pr N e σ Q _ _ k11.eq_1) := Ev_of k11.eq_1
theorem k11_a : type_of% @k11_e ∧ type_of% @k11_r0_e ∧ type_of% @k11_r1_e ∧ type_of% @k11_r2_e ∧ type_of% @k11_r3_e ∧ type_of% @k11_r4_e ∧ type_of% @k11_r5_e ∧ type_of% @k11_r6_e ∧ type_of% @k11_r7_e ∧ type_of% @k11_r8_e ∧ type_of% @k11_r9_e ∧ type_of% @k11_l0_e ∧ type_of% @k11_r10_e := ⟨@k11_e, @k11_r0_e, @k11_r1_e, @k11_r2_e, @k11_r3_e, @k11_r4_e, @k11_r5_e, @k11_r6_e, @k11_r7_e, @k11_r8_e, @k11_r9_e, @k11_l0_e, @k11_r10_e⟩
/-- quern/quernref13.Type -/
theorem k11_is : FnIs Try.prog prims 11 20 [ResultVar.tmp 2] k11 := FnIs.of_fn Try.func11 (by kernel_rfl) rfl
def k12_r0 : List COp := [
  ⟨some 2, .box 25 (.tmp 0), none, true⟩,
  ⟨some 4, .assign (.const (.int .i64 0)), none, true⟩]
theorem k12_r0_e : type_of% (@Eo_of P pr N e σ Q _ _ k12_r0.eq_1) := Eo_of k12_r0.eq_1
def k12_r1 : List COp := [
  ⟨some 11, .fieldAddr 25 (.tmp 2) 1, none, true⟩,
  ⟨some 12, .load 23 (.tmp 11), none, true⟩,
  ⟨some 13, .call { callee := .builtin .len, args := #[.tmp 12], argTypes := #[23] }, none, true⟩,
  ⟨some 14, .binOp .gtr 3 (.tmp 13) (.const (.int .i64 32)) 3, none, true⟩,
  ⟨some 15, .move (.tmp 14), none, true⟩,
  ⟨some 16, .move (.tmp 1), some (15, false), true⟩,
  ⟨some 17, .binOp .lss 3 (.tmp 16) (.const (.int .i64 0)) 3, some (15, false), true⟩,
  ⟨some 18, .pick (.tmp 15) (.const (.bool true)) (.tmp 17), none, true⟩,
  ⟨some 19, .move (.tmp 18), none, true⟩,
  ⟨some 20, .move (.tmp 1), some (19, false), true⟩,
  ⟨some 21, .binOp .gtr 3 (.tmp 20) (.const (.int .i64 32)) 3, some (19, false), true⟩,
  ⟨some 22, .pick (.tmp 19) (.const (.bool true)) (.tmp 21), none, true⟩,
  ⟨some 23, .move (.tmp 22), none, true⟩,
  ⟨some 24, .fieldAddr 25 (.tmp 2) 0, some (23, false), true⟩,
  ⟨some 25, .load 22 (.tmp 24), some (23, false), true⟩,
  ⟨some 26, .call { callee := .builtin .len, args := #[.tmp 25], argTypes := #[22] }, some (23, false), true⟩,
  ⟨some 27, .binOp .gtr 3 (.tmp 26) (.const (.int .i64 16384)) 3, some (23, false), true⟩,
  ⟨some 28, .pick (.tmp 23) (.const (.bool true)) (.tmp 27), none, true⟩]
theorem k12_r1_e : type_of% (@Eo_of P pr N e σ Q _ _ k12_r1.eq_1) := Eo_of k12_r1.eq_1
def k12_r2 : List COp := [
  ⟨some 4, .assign (.const (.int .i64 40)), none, true⟩]
theorem k12_r2_e : type_of% (@Eo_of P pr N e σ Q _ _ k12_r2.eq_1) := Eo_of k12_r2.eq_1
def k12_r3 : List COp := [
  ⟨some 29, .fieldAddr 25 (.tmp 2) 0, none, true⟩,
  ⟨some 30, .load 22 (.tmp 29), none, true⟩,
  ⟨some 31, .call { callee := .builtin .len, args := #[.tmp 30], argTypes := #[22] }, none, true⟩,
  ⟨some 32, .move (.const (.int .i64 0)), none, true⟩]
theorem k12_r3_e : type_of% (@Eo_of P pr N e σ Q _ _ k12_r3.eq_1) := Eo_of k12_r3.eq_1
def k12_r4 : List COp := [
  ⟨some 33, .binOp .lss 3 (.tmp 32) (.tmp 31) 3, none, true⟩]
theorem k12_r4_e : type_of% (@Eo_of P pr N e σ Q _ _ k12_r4.eq_1) := Eo_of k12_r4.eq_1
def k12_r5 : List COp := [
  ⟨some 34, .indexAddr 22 (.tmp 30) (.tmp 32), none, true⟩,
  ⟨some 35, .load 29 (.tmp 34), none, true⟩,
  ⟨some 6, .alloc 29, none, true⟩,
  ⟨none, .store 29 (.tmp 6) (.tmp 35), none, true⟩]
theorem k12_r5_e : type_of% (@Eo_of P pr N e σ Q _ _ k12_r5.eq_1) := Eo_of k12_r5.eq_1
def k12_r6 : List COp := [
  ⟨some 36, .load 29 (.tmp 6), none, true⟩,
  ⟨some 37, .call { callee := .value (.func 10), args := #[.tmp 36], argTypes := #[29] }, none, true⟩,
  ⟨some 38, .binOp .eql 9 (.tmp 37) (.const (.string { data := #[] })) 9, none, true⟩]
theorem k12_r6_e : type_of% (@Eo_of P pr N e σ Q _ _ k12_r6.eq_1) := Eo_of k12_r6.eq_1
def k12_r7 : List COp := [
  ⟨some 4, .assign (.const (.int .i64 40)), none, true⟩]
theorem k12_r7_e : type_of% (@Eo_of P pr N e σ Q _ _ k12_r7.eq_1) := Eo_of k12_r7.eq_1
def k12_r8 : List COp := [
  ⟨some 39, .binOp .add 3 (.tmp 32) (.const (.int .i64 1)) 3, none, true⟩,
  ⟨some 32, .move (.tmp 39), none, true⟩]
theorem k12_r8_e : type_of% (@Eo_of P pr N e σ Q _ _ k12_r8.eq_1) := Eo_of k12_r8.eq_1
def k12_l0 : CC := (.seq (.region k12_r4) (.seq (.cond (.tmp 33) .skip (.exit 0)) (.seq (.block 1 (.seq (.region k12_r5) (.seq (.region k12_r6) (.cond (.tmp 38) (.seq (.region k12_r7) .ret) .skip)))) (.region k12_r8))))
theorem k12_l0_e : type_of% (@Ev_of P pr N e σ Q _ _ k12_l0.eq_1) := Ev_of k12_l0.eq_1
def k12_r9 : List COp := [
  ⟨some 40, .fieldAddr 25 (.tmp 2) 1, none, true⟩,
  ⟨some 41, .load 23 (.tmp 40), none, true⟩,
  ⟨some 42, .call { callee := .builtin .len, args := #[.tmp 41], argTypes := #[23] }, none, true⟩,
  ⟨some 43, .move (.const (.int .i64 0)), none, true⟩]
theorem k12_r9_e : type_of% (@Eo_of P pr N e σ Q _ _ k12_r9.eq_1) := Eo_of k12_r9.eq_1
def k12_r10 : List COp := [
  ⟨some 44, .binOp .lss 3 (.tmp 43) (.tmp 42) 3, none, true⟩]
theorem k12_r10_e : type_of% (@Eo_of P pr N e σ Q _ _ k12_r10.eq_1) := Eo_of k12_r10.eq_1
def k12_r11 : List COp := [
  ⟨some 45, .move (.tmp 43), none, true⟩,
  ⟨some 46, .indexAddr 23 (.tmp 41) (.tmp 43), none, true⟩,
  ⟨some 47, .load 37 (.tmp 46), none, true⟩,
  ⟨some 8, .alloc 37, none, true⟩,
  ⟨some 7, .assign (.tmp 45), none, true⟩,
  ⟨none, .store 37 (.tmp 8) (.tmp 47), none, true⟩]
theorem k12_r11_e : type_of% (@Eo_of P pr N e σ Q _ _ k12_r11.eq_1) := Eo_of k12_r11.eq_1
def k12_r12 : List COp := [
  ⟨some 48, .fieldAddr 37 (.tmp 8) 0, none, true⟩,
  ⟨some 49, .load 3 (.tmp 48), none, true⟩,
  ⟨some 50, .binOp .lss 3 (.tmp 49) (.const (.int .i64 0)) 3, none, true⟩,
  ⟨some 51, .move (.tmp 50), none, true⟩,
  ⟨some 52, .fieldAddr 37 (.tmp 8) 0, some (51, false), true⟩,
  ⟨some 53, .load 3 (.tmp 52), some (51, false), true⟩,
  ⟨some 54, .binOp .gtr 3 (.tmp 53) (.const (.int .i64 8)) 3, some (51, false), true⟩,
  ⟨some 55, .pick (.tmp 51) (.const (.bool true)) (.tmp 54), none, true⟩,
  ⟨some 56, .move (.tmp 55), none, true⟩,
  ⟨some 57, .fieldAddr 37 (.tmp 8) 1, some (56, false), true⟩,
  ⟨some 58, .load 3 (.tmp 57), some (56, false), true⟩,
  ⟨some 59, .fieldAddr 37 (.tmp 8) 0, some (56, false), true⟩,
  ⟨some 60, .load 3 (.tmp 59), some (56, false), true⟩,
  ⟨some 61, .binOp .lss 3 (.tmp 58) (.tmp 60) 3, some (56, false), true⟩,
  ⟨some 62, .pick (.tmp 56) (.const (.bool true)) (.tmp 61), none, true⟩,
  ⟨some 63, .move (.tmp 62), none, true⟩,
  ⟨some 64, .fieldAddr 37 (.tmp 8) 1, some (63, false), true⟩,
  ⟨some 65, .load 3 (.tmp 64), some (63, false), true⟩,
  ⟨some 66, .binOp .gtr 3 (.tmp 65) (.const (.int .i64 256)) 3, some (63, false), true⟩,
  ⟨some 67, .pick (.tmp 63) (.const (.bool true)) (.tmp 66), none, true⟩,
  ⟨some 68, .move (.tmp 67), none, true⟩,
  ⟨some 69, .fieldAddr 37 (.tmp 8) 2, some (68, false), true⟩,
  ⟨some 70, .load 3 (.tmp 69), some (68, false), true⟩,
  ⟨some 71, .binOp .lss 3 (.tmp 70) (.const (.int .i64 0)) 3, some (68, false), true⟩,
  ⟨some 72, .pick (.tmp 68) (.const (.bool true)) (.tmp 71), none, true⟩,
  ⟨some 73, .move (.tmp 72), none, true⟩,
  ⟨some 74, .fieldAddr 37 (.tmp 8) 2, some (73, false), true⟩,
  ⟨some 75, .load 3 (.tmp 74), some (73, false), true⟩,
  ⟨some 76, .fieldAddr 25 (.tmp 2) 0, some (73, false), true⟩,
  ⟨some 77, .load 22 (.tmp 76), some (73, false), true⟩,
  ⟨some 78, .call { callee := .builtin .len, args := #[.tmp 77], argTypes := #[22] }, some (73, false), true⟩,
  ⟨some 79, .binOp .geq 3 (.tmp 75) (.tmp 78) 3, some (73, false), true⟩,
  ⟨some 80, .pick (.tmp 73) (.const (.bool true)) (.tmp 79), none, true⟩,
  ⟨some 81, .move (.tmp 80), none, true⟩,
  ⟨some 82, .fieldAddr 37 (.tmp 8) 3, some (81, false), true⟩,
  ⟨some 83, .load 3 (.tmp 82), some (81, false), true⟩,
  ⟨some 84, .binOp .lss 3 (.tmp 83) (.const (.int .i64 1)) 3, some (81, false), true⟩,
  ⟨some 85, .pick (.tmp 81) (.const (.bool true)) (.tmp 84), none, true⟩,
  ⟨some 86, .move (.tmp 85), none, true⟩,
  ⟨some 87, .fieldAddr 37 (.tmp 8) 3, some (86, false), true⟩,
  ⟨some 88, .load 3 (.tmp 87), some (86, false), true⟩,
  ⟨some 89, .binOp .gtr 3 (.tmp 88) (.const (.int .i64 256)) 3, some (86, false), true⟩,
  ⟨some 90, .pick (.tmp 86) (.const (.bool true)) (.tmp 89), none, true⟩,
  ⟨some 91, .move (.tmp 90), none, true⟩,
  ⟨some 92, .fieldAddr 37 (.tmp 8) 4, some (91, false), true⟩,
  ⟨some 93, .load 35 (.tmp 92), some (91, false), true⟩,
  ⟨some 94, .call { callee := .builtin .len, args := #[.tmp 93], argTypes := #[35] }, some (91, false), true⟩,
  ⟨some 95, .binOp .lss 3 (.tmp 94) (.const (.int .i64 1)) 3, some (91, false), true⟩,
  ⟨some 96, .pick (.tmp 91) (.const (.bool true)) (.tmp 95), none, true⟩,
  ⟨some 97, .move (.tmp 96), none, true⟩,
  ⟨some 98, .fieldAddr 37 (.tmp 8) 4, some (97, false), true⟩,
  ⟨some 99, .load 35 (.tmp 98), some (97, false), true⟩,
  ⟨some 100, .call { callee := .builtin .len, args := #[.tmp 99], argTypes := #[35] }, some (97, false), true⟩,
  ⟨some 101, .binOp .gtr 3 (.tmp 100) (.const (.int .i64 16384)) 3, some (97, false), true⟩,
  ⟨some 102, .pick (.tmp 97) (.const (.bool true)) (.tmp 101), none, true⟩]
theorem k12_r12_e : type_of% (@Eo_of P pr N e σ Q _ _ k12_r12.eq_1) := Eo_of k12_r12.eq_1
def k12_r13 : List COp := [
  ⟨some 4, .assign (.const (.int .i64 40)), none, true⟩]
theorem k12_r13_e : type_of% (@Eo_of P pr N e σ Q _ _ k12_r13.eq_1) := Eo_of k12_r13.eq_1
def k12_r14 : List COp := [
  ⟨some 103, .fieldAddr 37 (.tmp 8) 4, none, true⟩,
  ⟨some 104, .load 35 (.tmp 103), none, true⟩,
  ⟨some 105, .call { callee := .builtin .len, args := #[.tmp 104], argTypes := #[35] }, none, true⟩,
  ⟨some 106, .move (.const (.int .i64 0)), none, true⟩]
theorem k12_r14_e : type_of% (@Eo_of P pr N e σ Q _ _ k12_r14.eq_1) := Eo_of k12_r14.eq_1
def k12_r15 : List COp := [
  ⟨some 107, .binOp .lss 3 (.tmp 106) (.tmp 105) 3, none, true⟩]
theorem k12_r15_e : type_of% (@Eo_of P pr N e σ Q _ _ k12_r15.eq_1) := Eo_of k12_r15.eq_1
def k12_r16 : List COp := [
  ⟨some 108, .indexAddr 35 (.tmp 104) (.tmp 106), none, true⟩,
  ⟨some 109, .load 39 (.tmp 108), none, true⟩,
  ⟨some 10, .alloc 39, none, true⟩,
  ⟨none, .store 39 (.tmp 10) (.tmp 109), none, true⟩]
theorem k12_r16_e : type_of% (@Eo_of P pr N e σ Q _ _ k12_r16.eq_1) := Eo_of k12_r16.eq_1
def k12_r17 : List COp := [
  ⟨some 110, .load 25 (.tmp 2), none, true⟩,
  ⟨some 111, .move (.tmp 1), none, true⟩,
  ⟨some 112, .move (.tmp 7), none, true⟩,
  ⟨some 113, .load 39 (.tmp 10), none, true⟩,
  ⟨some 114, .call { callee := .value (.func 23), args := #[.tmp 110, .tmp 111, .tmp 112, .tmp 113], argTypes := #[25, 3, 3, 39] }, none, true⟩,
  ⟨some 115, .unOp .not 4 (.tmp 114), none, true⟩]
theorem k12_r17_e : type_of% (@Eo_of P pr N e σ Q _ _ k12_r17.eq_1) := Eo_of k12_r17.eq_1
def k12_r18 : List COp := [
  ⟨some 4, .assign (.const (.int .i64 40)), none, true⟩]
theorem k12_r18_e : type_of% (@Eo_of P pr N e σ Q _ _ k12_r18.eq_1) := Eo_of k12_r18.eq_1
def k12_r19 : List COp := [
  ⟨some 116, .binOp .add 3 (.tmp 106) (.const (.int .i64 1)) 3, none, true⟩,
  ⟨some 106, .move (.tmp 116), none, true⟩]
theorem k12_r19_e : type_of% (@Eo_of P pr N e σ Q _ _ k12_r19.eq_1) := Eo_of k12_r19.eq_1
def k12_l2 : CC := (.seq (.region k12_r15) (.seq (.cond (.tmp 107) .skip (.exit 4)) (.seq (.block 5 (.seq (.region k12_r16) (.seq (.region k12_r17) (.cond (.tmp 115) (.seq (.region k12_r18) .ret) .skip)))) (.region k12_r19))))
theorem k12_l2_e : type_of% (@Ev_of P pr N e σ Q _ _ k12_l2.eq_1) := Ev_of k12_l2.eq_1
def k12_r20 : List COp := [
  ⟨some 117, .load 25 (.tmp 2), none, true⟩,
  ⟨some 118, .move (.tmp 7), none, true⟩,
  ⟨some 119, .call { callee := .value (.func 24), args := #[.tmp 117, .tmp 118], argTypes := #[25, 3] }, none, true⟩,
  ⟨some 120, .unOp .not 4 (.tmp 119), none, true⟩]
theorem k12_r20_e : type_of% (@Eo_of P pr N e σ Q _ _ k12_r20.eq_1) := Eo_of k12_r20.eq_1
def k12_r21 : List COp := [
  ⟨some 4, .assign (.const (.int .i64 40)), none, true⟩]
theorem k12_r21_e : type_of% (@Eo_of P pr N e σ Q _ _ k12_r21.eq_1) := Eo_of k12_r21.eq_1
def k12_r22 : List COp := [
  ⟨some 121, .binOp .add 3 (.tmp 43) (.const (.int .i64 1)) 3, none, true⟩,
  ⟨some 43, .move (.tmp 121), none, true⟩]
theorem k12_r22_e : type_of% (@Eo_of P pr N e σ Q _ _ k12_r22.eq_1) := Eo_of k12_r22.eq_1
def k12_l1 : CC := (.seq (.region k12_r10) (.seq (.cond (.tmp 44) .skip (.exit 2)) (.seq (.block 3 (.seq (.region k12_r11) (.seq (.seq (.region k12_r12) (.cond (.tmp 102) (.seq (.region k12_r13) .ret) .skip)) (.seq (.seq (.region k12_r14) (.block 4 (.loop k12_l2))) (.seq (.region k12_r20) (.cond (.tmp 120) (.seq (.region k12_r21) .ret) .skip)))))) (.region k12_r22))))
theorem k12_l1_e : type_of% (@Ev_of P pr N e σ Q _ _ k12_l1.eq_1) := Ev_of k12_l1.eq_1
def k12_r23 : List COp := [
  ⟨some 4, .assign (.const (.int .i64 0)), none, true⟩]
theorem k12_r23_e : type_of% (@Eo_of P pr N e σ Q _ _ k12_r23.eq_1) := Eo_of k12_r23.eq_1
def k12 : CC := (.seq (.region k12_r0) (.seq (.seq (.region k12_r1) (.cond (.tmp 28) (.seq (.region k12_r2) .ret) .skip)) (.seq (.seq (.region k12_r3) (.block 0 (.loop k12_l0))) (.seq (.seq (.region k12_r9) (.block 2 (.loop k12_l1))) (.seq (.region k12_r23) .ret)))))
theorem k12_e : type_of% (@Ev_of P pr N e σ Q _ _ k12.eq_1) := Ev_of k12.eq_1
theorem k12_a : type_of% @k12_e ∧ type_of% @k12_r0_e ∧ type_of% @k12_r1_e ∧ type_of% @k12_r2_e ∧ type_of% @k12_r3_e ∧ type_of% @k12_r4_e ∧ type_of% @k12_r5_e ∧ type_of% @k12_r6_e ∧ type_of% @k12_r7_e ∧ type_of% @k12_r8_e ∧ type_of% @k12_l0_e ∧ type_of% @k12_r9_e ∧ type_of% @k12_r10_e ∧ type_of% @k12_r11_e ∧ type_of% @k12_r12_e ∧ type_of% @k12_r13_e ∧ type_of% @k12_r14_e ∧ type_of% @k12_r15_e ∧ type_of% @k12_r16_e ∧ type_of% @k12_r17_e ∧ type_of% @k12_r18_e ∧ type_of% @k12_r19_e ∧ type_of% @k12_l2_e ∧ type_of% @k12_r20_e ∧ type_of% @k12_r21_e ∧ type_of% @k12_r22_e ∧ type_of% @k12_l1_e ∧ type_of% @k12_r23_e := ⟨@k12_e, @k12_r0_e, @k12_r1_e, @k12_r2_e, @k12_r3_e, @k12_r4_e, @k12_r5_e, @k12_r6_e, @k12_r7_e, @k12_r8_e, @k12_l0_e, @k12_r9_e, @k12_r10_e, @k12_r11_e, @k12_r12_e, @k12_r13_e, @k12_r14_e, @k12_r15_e, @k12_r16_e, @k12_r17_e, @k12_r18_e, @k12_r19_e, @k12_l2_e, @k12_r20_e, @k12_r21_e, @k12_r22_e, @k12_l1_e, @k12_r23_e⟩
/-- quern/code.Verify -/
theorem k12_is : FnIs Try.prog prims 12 122 [ResultVar.tmp 4] k12 := FnIs.of_fn Try.func12 (by kernel_rfl) rfl
def k13_r0 : List COp := [
  ⟨some 2, .box 25 (.tmp 0), none, true⟩,
  ⟨some 4, .assign (.const (.int .i64 0)), none, true⟩]
theorem k13_r0_e : type_of% (@Eo_of P pr N e σ Q _ _ k13_r0.eq_1) := Eo_of k13_r0.eq_1
def k13_r1 : List COp := [
  ⟨some 11, .move (.tmp 1), none, true⟩,
  ⟨some 12, .binOp .lss 3 (.tmp 11) (.const (.int .i64 0)) 3, none, true⟩,
  ⟨some 13, .move (.tmp 12), none, true⟩,
  ⟨some 14, .move (.tmp 1), some (13, false), true⟩,
  ⟨some 15, .binOp .gtr 3 (.tmp 14) (.const (.int .i64 32)) 3, some (13, false), true⟩,
  ⟨some 16, .pick (.tmp 13) (.const (.bool true)) (.tmp 15), none, true⟩,
  ⟨some 17, .move (.tmp 16), none, true⟩,
  ⟨some 18, .fieldAddr 25 (.tmp 2) 1, some (17, false), true⟩,
  ⟨some 19, .load 23 (.tmp 18), some (17, false), true⟩,
  ⟨some 20, .call { callee := .builtin .len, args := #[.tmp 19], argTypes := #[23] }, some (17, false), true⟩,
  ⟨some 21, .binOp .gtr 3 (.tmp 20) (.const (.int .i64 32)) 3, some (17, false), true⟩,
  ⟨some 22, .pick (.tmp 17) (.const (.bool true)) (.tmp 21), none, true⟩,
  ⟨some 23, .move (.tmp 22), none, true⟩,
  ⟨some 24, .fieldAddr 25 (.tmp 2) 0, some (23, false), true⟩,
  ⟨some 25, .load 22 (.tmp 24), some (23, false), true⟩,
  ⟨some 26, .call { callee := .builtin .len, args := #[.tmp 25], argTypes := #[22] }, some (23, false), true⟩,
  ⟨some 27, .binOp .gtr 3 (.tmp 26) (.const (.int .i64 16384)) 3, some (23, false), true⟩,
  ⟨some 28, .pick (.tmp 23) (.const (.bool true)) (.tmp 27), none, true⟩]
theorem k13_r1_e : type_of% (@Eo_of P pr N e σ Q _ _ k13_r1.eq_1) := Eo_of k13_r1.eq_1
def k13_r2 : List COp := [
  ⟨some 4, .assign (.const (.int .i64 40)), none, true⟩]
theorem k13_r2_e : type_of% (@Eo_of P pr N e σ Q _ _ k13_r2.eq_1) := Eo_of k13_r2.eq_1
def k13_r3 : List COp := [
  ⟨some 29, .fieldAddr 25 (.tmp 2) 0, none, true⟩,
  ⟨some 30, .load 22 (.tmp 29), none, true⟩,
  ⟨some 31, .call { callee := .builtin .len, args := #[.tmp 30], argTypes := #[22] }, none, true⟩,
  ⟨some 32, .move (.const (.int .i64 0)), none, true⟩]
theorem k13_r3_e : type_of% (@Eo_of P pr N e σ Q _ _ k13_r3.eq_1) := Eo_of k13_r3.eq_1
def k13_r4 : List COp := [
  ⟨some 33, .binOp .lss 3 (.tmp 32) (.tmp 31) 3, none, true⟩]
theorem k13_r4_e : type_of% (@Eo_of P pr N e σ Q _ _ k13_r4.eq_1) := Eo_of k13_r4.eq_1
def k13_r5 : List COp := [
  ⟨some 34, .indexAddr 22 (.tmp 30) (.tmp 32), none, true⟩,
  ⟨some 35, .load 29 (.tmp 34), none, true⟩,
  ⟨some 6, .alloc 29, none, true⟩,
  ⟨none, .store 29 (.tmp 6) (.tmp 35), none, true⟩]
theorem k13_r5_e : type_of% (@Eo_of P pr N e σ Q _ _ k13_r5.eq_1) := Eo_of k13_r5.eq_1
def k13_r6 : List COp := [
  ⟨some 36, .load 29 (.tmp 6), none, true⟩,
  ⟨some 37, .call { callee := .value (.func 11), args := #[.tmp 36], argTypes := #[29] }, none, true⟩,
  ⟨some 38, .binOp .eql 9 (.tmp 37) (.const (.string { data := #[] })) 9, none, true⟩]
theorem k13_r6_e : type_of% (@Eo_of P pr N e σ Q _ _ k13_r6.eq_1) := Eo_of k13_r6.eq_1
def k13_r7 : List COp := [
  ⟨some 4, .assign (.const (.int .i64 40)), none, true⟩]
theorem k13_r7_e : type_of% (@Eo_of P pr N e σ Q _ _ k13_r7.eq_1) := Eo_of k13_r7.eq_1
def k13_r8 : List COp := [
  ⟨some 39, .binOp .add 3 (.tmp 32) (.const (.int .i64 1)) 3, none, true⟩,
  ⟨some 32, .move (.tmp 39), none, true⟩]
theorem k13_r8_e : type_of% (@Eo_of P pr N e σ Q _ _ k13_r8.eq_1) := Eo_of k13_r8.eq_1
def k13_l0 : CC := (.seq (.region k13_r4) (.seq (.cond (.tmp 33) .skip (.exit 0)) (.seq (.block 1 (.seq (.region k13_r5) (.seq (.region k13_r6) (.cond (.tmp 38) (.seq (.region k13_r7) .ret) .skip)))) (.region k13_r8))))
theorem k13_l0_e : type_of% (@Ev_of P pr N e σ Q _ _ k13_l0.eq_1) := Ev_of k13_l0.eq_1
def k13_r9 : List COp := [
  ⟨some 40, .fieldAddr 25 (.tmp 2) 1, none, true⟩,
  ⟨some 41, .load 23 (.tmp 40), none, true⟩,
  ⟨some 42, .call { callee := .builtin .len, args := #[.tmp 41], argTypes := #[23] }, none, true⟩,
  ⟨some 43, .move (.const (.int .i64 0)), none, true⟩]
theorem k13_r9_e : type_of% (@Eo_of P pr N e σ Q _ _ k13_r9.eq_1) := Eo_of k13_r9.eq_1
def k13_r10 : List COp := [
  ⟨some 44, .binOp .lss 3 (.tmp 43) (.tmp 42) 3, none, true⟩]
theorem k13_r10_e : type_of% (@Eo_of P pr N e σ Q _ _ k13_r10.eq_1) := Eo_of k13_r10.eq_1
def k13_r11 : List COp := [
  ⟨some 45, .move (.tmp 43), none, true⟩,
  ⟨some 46, .indexAddr 23 (.tmp 41) (.tmp 43), none, true⟩,
  ⟨some 47, .load 37 (.tmp 46), none, true⟩,
  ⟨some 8, .alloc 37, none, true⟩,
  ⟨some 7, .assign (.tmp 45), none, true⟩,
  ⟨none, .store 37 (.tmp 8) (.tmp 47), none, true⟩]
theorem k13_r11_e : type_of% (@Eo_of P pr N e σ Q _ _ k13_r11.eq_1) := Eo_of k13_r11.eq_1
def k13_r12 : List COp := [
  ⟨some 48, .fieldAddr 37 (.tmp 8) 0, none, true⟩,
  ⟨some 49, .load 3 (.tmp 48), none, true⟩,
  ⟨some 50, .binOp .lss 3 (.tmp 49) (.const (.int .i64 0)) 3, none, true⟩,
  ⟨some 51, .move (.tmp 50), none, true⟩,
  ⟨some 52, .fieldAddr 37 (.tmp 8) 0, some (51, false), true⟩,
  ⟨some 53, .load 3 (.tmp 52), some (51, false), true⟩,
  ⟨some 54, .binOp .gtr 3 (.tmp 53) (.const (.int .i64 8)) 3, some (51, false), true⟩,
  ⟨some 55, .pick (.tmp 51) (.const (.bool true)) (.tmp 54), none, true⟩,
  ⟨some 56, .move (.tmp 55), none, true⟩,
  ⟨some 57, .fieldAddr 37 (.tmp 8) 1, some (56, false), true⟩,
  ⟨some 58, .load 3 (.tmp 57), some (56, false), true⟩,
  ⟨some 59, .fieldAddr 37 (.tmp 8) 0, some (56, false), true⟩,
  ⟨some 60, .load 3 (.tmp 59), some (56, false), true⟩,
  ⟨some 61, .binOp .lss 3 (.tmp 58) (.tmp 60) 3, some (56, false), true⟩,
  ⟨some 62, .pick (.tmp 56) (.const (.bool true)) (.tmp 61), none, true⟩,
  ⟨some 63, .move (.tmp 62), none, true⟩,
  ⟨some 64, .fieldAddr 37 (.tmp 8) 1, some (63, false), true⟩,
  ⟨some 65, .load 3 (.tmp 64), some (63, false), true⟩,
  ⟨some 66, .binOp .gtr 3 (.tmp 65) (.const (.int .i64 256)) 3, some (63, false), true⟩,
  ⟨some 67, .pick (.tmp 63) (.const (.bool true)) (.tmp 66), none, true⟩,
  ⟨some 68, .move (.tmp 67), none, true⟩,
  ⟨some 69, .fieldAddr 37 (.tmp 8) 2, some (68, false), true⟩,
  ⟨some 70, .load 3 (.tmp 69), some (68, false), true⟩,
  ⟨some 71, .binOp .lss 3 (.tmp 70) (.const (.int .i64 0)) 3, some (68, false), true⟩,
  ⟨some 72, .pick (.tmp 68) (.const (.bool true)) (.tmp 71), none, true⟩,
  ⟨some 73, .move (.tmp 72), none, true⟩,
  ⟨some 74, .fieldAddr 37 (.tmp 8) 2, some (73, false), true⟩,
  ⟨some 75, .load 3 (.tmp 74), some (73, false), true⟩,
  ⟨some 76, .fieldAddr 25 (.tmp 2) 0, some (73, false), true⟩,
  ⟨some 77, .load 22 (.tmp 76), some (73, false), true⟩,
  ⟨some 78, .call { callee := .builtin .len, args := #[.tmp 77], argTypes := #[22] }, some (73, false), true⟩,
  ⟨some 79, .binOp .geq 3 (.tmp 75) (.tmp 78) 3, some (73, false), true⟩,
  ⟨some 80, .pick (.tmp 73) (.const (.bool true)) (.tmp 79), none, true⟩,
  ⟨some 81, .move (.tmp 80), none, true⟩,
  ⟨some 82, .fieldAddr 37 (.tmp 8) 3, some (81, false), true⟩,
  ⟨some 83, .load 3 (.tmp 82), some (81, false), true⟩,
  ⟨some 84, .binOp .lss 3 (.tmp 83) (.const (.int .i64 1)) 3, some (81, false), true⟩,
  ⟨some 85, .pick (.tmp 81) (.const (.bool true)) (.tmp 84), none, true⟩,
  ⟨some 86, .move (.tmp 85), none, true⟩,
  ⟨some 87, .fieldAddr 37 (.tmp 8) 3, some (86, false), true⟩,
  ⟨some 88, .load 3 (.tmp 87), some (86, false), true⟩,
  ⟨some 89, .binOp .gtr 3 (.tmp 88) (.const (.int .i64 256)) 3, some (86, false), true⟩,
  ⟨some 90, .pick (.tmp 86) (.const (.bool true)) (.tmp 89), none, true⟩,
  ⟨some 91, .move (.tmp 90), none, true⟩,
  ⟨some 92, .fieldAddr 37 (.tmp 8) 4, some (91, false), true⟩,
  ⟨some 93, .load 35 (.tmp 92), some (91, false), true⟩,
  ⟨some 94, .call { callee := .builtin .len, args := #[.tmp 93], argTypes := #[35] }, some (91, false), true⟩,
  ⟨some 95, .binOp .lss 3 (.tmp 94) (.const (.int .i64 1)) 3, some (91, false), true⟩,
  ⟨some 96, .pick (.tmp 91) (.const (.bool true)) (.tmp 95), none, true⟩,
  ⟨some 97, .move (.tmp 96), none, true⟩,
  ⟨some 98, .fieldAddr 37 (.tmp 8) 4, some (97, false), true⟩,
  ⟨some 99, .load 35 (.tmp 98), some (97, false), true⟩,
  ⟨some 100, .call { callee := .builtin .len, args := #[.tmp 99], argTypes := #[35] }, some (97, false), true⟩,
  ⟨some 101, .binOp .gtr 3 (.tmp 100) (.const (.int .i64 16384)) 3, some (97, false), true⟩,
  ⟨some 102, .pick (.tmp 97) (.const (.bool true)) (.tmp 101), none, true⟩]
theorem k13_r12_e : type_of% (@Eo_of P pr N e σ Q _ _ k13_r12.eq_1) := Eo_of k13_r12.eq_1
def k13_r13 : List COp := [
  ⟨some 4, .assign (.const (.int .i64 40)), none, true⟩]
theorem k13_r13_e : type_of% (@Eo_of P pr N e σ Q _ _ k13_r13.eq_1) := Eo_of k13_r13.eq_1
def k13_r14 : List COp := [
  ⟨some 103, .fieldAddr 37 (.tmp 8) 4, none, true⟩,
  ⟨some 104, .load 35 (.tmp 103), none, true⟩,
  ⟨some 105, .call { callee := .builtin .len, args := #[.tmp 104], argTypes := #[35] }, none, true⟩,
  ⟨some 106, .move (.const (.int .i64 0)), none, true⟩]
theorem k13_r14_e : type_of% (@Eo_of P pr N e σ Q _ _ k13_r14.eq_1) := Eo_of k13_r14.eq_1
def k13_r15 : List COp := [
  ⟨some 107, .binOp .lss 3 (.tmp 106) (.tmp 105) 3, none, true⟩]
theorem k13_r15_e : type_of% (@Eo_of P pr N e σ Q _ _ k13_r15.eq_1) := Eo_of k13_r15.eq_1
def k13_r16 : List COp := [
  ⟨some 108, .indexAddr 35 (.tmp 104) (.tmp 106), none, true⟩,
  ⟨some 109, .load 39 (.tmp 108), none, true⟩,
  ⟨some 10, .alloc 39, none, true⟩,
  ⟨none, .store 39 (.tmp 10) (.tmp 109), none, true⟩]
theorem k13_r16_e : type_of% (@Eo_of P pr N e σ Q _ _ k13_r16.eq_1) := Eo_of k13_r16.eq_1
def k13_r17 : List COp := [
  ⟨some 110, .load 25 (.tmp 2), none, true⟩,
  ⟨some 111, .move (.tmp 1), none, true⟩,
  ⟨some 112, .move (.tmp 7), none, true⟩,
  ⟨some 113, .load 39 (.tmp 10), none, true⟩,
  ⟨some 114, .call { callee := .value (.func 25), args := #[.tmp 110, .tmp 111, .tmp 112, .tmp 113], argTypes := #[25, 3, 3, 39] }, none, true⟩,
  ⟨some 115, .unOp .not 4 (.tmp 114), none, true⟩]
theorem k13_r17_e : type_of% (@Eo_of P pr N e σ Q _ _ k13_r17.eq_1) := Eo_of k13_r17.eq_1
def k13_r18 : List COp := [
  ⟨some 4, .assign (.const (.int .i64 40)), none, true⟩]
theorem k13_r18_e : type_of% (@Eo_of P pr N e σ Q _ _ k13_r18.eq_1) := Eo_of k13_r18.eq_1
def k13_r19 : List COp := [
  ⟨some 116, .binOp .add 3 (.tmp 106) (.const (.int .i64 1)) 3, none, true⟩,
  ⟨some 106, .move (.tmp 116), none, true⟩]
theorem k13_r19_e : type_of% (@Eo_of P pr N e σ Q _ _ k13_r19.eq_1) := Eo_of k13_r19.eq_1
def k13_l2 : CC := (.seq (.region k13_r15) (.seq (.cond (.tmp 107) .skip (.exit 4)) (.seq (.block 5 (.seq (.region k13_r16) (.seq (.region k13_r17) (.cond (.tmp 115) (.seq (.region k13_r18) .ret) .skip)))) (.region k13_r19))))
theorem k13_l2_e : type_of% (@Ev_of P pr N e σ Q _ _ k13_l2.eq_1) := Ev_of k13_l2.eq_1
def k13_r20 : List COp := [
  ⟨some 117, .load 25 (.tmp 2), none, true⟩,
  ⟨some 118, .move (.tmp 7), none, true⟩,
  ⟨some 119, .call { callee := .value (.func 26), args := #[.tmp 117, .tmp 118], argTypes := #[25, 3] }, none, true⟩,
  ⟨some 120, .unOp .not 4 (.tmp 119), none, true⟩]
theorem k13_r20_e : type_of% (@Eo_of P pr N e σ Q _ _ k13_r20.eq_1) := Eo_of k13_r20.eq_1
def k13_r21 : List COp := [
  ⟨some 4, .assign (.const (.int .i64 40)), none, true⟩]
theorem k13_r21_e : type_of% (@Eo_of P pr N e σ Q _ _ k13_r21.eq_1) := Eo_of k13_r21.eq_1
def k13_r22 : List COp := [
  ⟨some 121, .binOp .add 3 (.tmp 43) (.const (.int .i64 1)) 3, none, true⟩,
  ⟨some 43, .move (.tmp 121), none, true⟩]
theorem k13_r22_e : type_of% (@Eo_of P pr N e σ Q _ _ k13_r22.eq_1) := Eo_of k13_r22.eq_1
def k13_l1 : CC := (.seq (.region k13_r10) (.seq (.cond (.tmp 44) .skip (.exit 2)) (.seq (.block 3 (.seq (.region k13_r11) (.seq (.seq (.region k13_r12) (.cond (.tmp 102) (.seq (.region k13_r13) .ret) .skip)) (.seq (.seq (.region k13_r14) (.block 4 (.loop k13_l2))) (.seq (.region k13_r20) (.cond (.tmp 120) (.seq (.region k13_r21) .ret) .skip)))))) (.region k13_r22))))
theorem k13_l1_e : type_of% (@Ev_of P pr N e σ Q _ _ k13_l1.eq_1) := Ev_of k13_l1.eq_1
def k13_r23 : List COp := [
  ⟨some 4, .assign (.const (.int .i64 0)), none, true⟩]
theorem k13_r23_e : type_of% (@Eo_of P pr N e σ Q _ _ k13_r23.eq_1) := Eo_of k13_r23.eq_1
def k13 : CC := (.seq (.region k13_r0) (.seq (.seq (.region k13_r1) (.cond (.tmp 28) (.seq (.region k13_r2) .ret) .skip)) (.seq (.seq (.region k13_r3) (.block 0 (.loop k13_l0))) (.seq (.seq (.region k13_r9) (.block 2 (.loop k13_l1))) (.seq (.region k13_r23) .ret)))))
theorem k13_e : type_of% (@Ev_of P pr N e σ Q _ _ k13.eq_1) := Ev_of k13.eq_1
theorem k13_a : type_of% @k13_e ∧ type_of% @k13_r0_e ∧ type_of% @k13_r1_e ∧ type_of% @k13_r2_e ∧ type_of% @k13_r3_e ∧ type_of% @k13_r4_e ∧ type_of% @k13_r5_e ∧ type_of% @k13_r6_e ∧ type_of% @k13_r7_e ∧ type_of% @k13_r8_e ∧ type_of% @k13_l0_e ∧ type_of% @k13_r9_e ∧ type_of% @k13_r10_e ∧ type_of% @k13_r11_e ∧ type_of% @k13_r12_e ∧ type_of% @k13_r13_e ∧ type_of% @k13_r14_e ∧ type_of% @k13_r15_e ∧ type_of% @k13_r16_e ∧ type_of% @k13_r17_e ∧ type_of% @k13_r18_e ∧ type_of% @k13_r19_e ∧ type_of% @k13_l2_e ∧ type_of% @k13_r20_e ∧ type_of% @k13_r21_e ∧ type_of% @k13_r22_e ∧ type_of% @k13_l1_e ∧ type_of% @k13_r23_e := ⟨@k13_e, @k13_r0_e, @k13_r1_e, @k13_r2_e, @k13_r3_e, @k13_r4_e, @k13_r5_e, @k13_r6_e, @k13_r7_e, @k13_r8_e, @k13_l0_e, @k13_r9_e, @k13_r10_e, @k13_r11_e, @k13_r12_e, @k13_r13_e, @k13_r14_e, @k13_r15_e, @k13_r16_e, @k13_r17_e, @k13_r18_e, @k13_r19_e, @k13_l2_e, @k13_r20_e, @k13_r21_e, @k13_r22_e, @k13_l1_e, @k13_r23_e⟩
/-- quern/quernref13.Verify -/
theorem k13_is : FnIs Try.prog prims 13 122 [ResultVar.tmp 4] k13 := FnIs.of_fn Try.func13 (by kernel_rfl) rfl
def k15_r0 : List COp := [
  ⟨some 2, .box 25 (.tmp 0), none, true⟩,
  ⟨some 4, .assign (.const (.slice .none 0 0)), none, true⟩,
  ⟨some 5, .assign (.const (.int .i64 0)), none, true⟩]
theorem k15_r0_e : type_of% (@Eo_of P pr N e σ Q _ _ k15_r0.eq_1) := Eo_of k15_r0.eq_1
def k15_r1 : List COp := [
  ⟨some 16, .load 25 (.tmp 2), none, true⟩,
  ⟨some 17, .move (.tmp 1), none, true⟩,
  ⟨some 18, .call { callee := .value (.func 12), args := #[.tmp 16, .tmp 17], argTypes := #[25, 3] }, none, true⟩,
  ⟨some 6, .assign (.tmp 18), none, true⟩]
theorem k15_r1_e : type_of% (@Eo_of P pr N e σ Q _ _ k15_r1.eq_1) := Eo_of k15_r1.eq_1
def k15_r2 : List COp := [
  ⟨some 19, .move (.tmp 6), none, true⟩,
  ⟨some 20, .binOp .neq 31 (.tmp 19) (.const (.int .i64 0)) 31, none, true⟩]
theorem k15_r2_e : type_of% (@Eo_of P pr N e σ Q _ _ k15_r2.eq_1) := Eo_of k15_r2.eq_1
def k15_r3 : List COp := [
  ⟨some 21, .move (.tmp 6), none, true⟩,
  ⟨some 4, .assign (.const (.slice .none 0 0)), none, true⟩,
  ⟨some 5, .assign (.tmp 21), none, true⟩]
theorem k15_r3_e : type_of% (@Eo_of P pr N e σ Q _ _ k15_r3.eq_1) := Eo_of k15_r3.eq_1
def k15_r4 : List COp := [
  ⟨some 22, .fieldAddr 25 (.tmp 2) 0, none, true⟩,
  ⟨some 23, .load 22 (.tmp 22), none, true⟩,
  ⟨some 24, .call { callee := .builtin .len, args := #[.tmp 23], argTypes := #[22] }, none, true⟩,
  ⟨some 25, .fieldAddr 25 (.tmp 2) 1, none, true⟩,
  ⟨some 26, .load 23 (.tmp 25), none, true⟩,
  ⟨some 27, .call { callee := .builtin .len, args := #[.tmp 26], argTypes := #[23] }, none, true⟩,
  ⟨some 28, .buildSlice 70 2 #[(0, .tmp 24), (1, .tmp 27)], none, true⟩,
  ⟨some 29, .call { callee := .value (.func 28), args := #[.const (.slice .none 0 0), .tmp 28], argTypes := #[41, 70] }, none, true⟩,
  ⟨some 7, .assign (.tmp 29), none, true⟩]
theorem k15_r4_e : type_of% (@Eo_of P pr N e σ Q _ _ k15_r4.eq_1) := Eo_of k15_r4.eq_1
def k15_r5 : List COp := [
  ⟨some 30, .fieldAddr 25 (.tmp 2) 0, none, true⟩,
  ⟨some 31, .load 22 (.tmp 30), none, true⟩,
  ⟨some 32, .call { callee := .builtin .len, args := #[.tmp 31], argTypes := #[22] }, none, true⟩,
  ⟨some 33, .move (.const (.int .i64 0)), none, true⟩]
theorem k15_r5_e : type_of% (@Eo_of P pr N e σ Q _ _ k15_r5.eq_1) := Eo_of k15_r5.eq_1
def k15_r6 : List COp := [
  ⟨some 34, .binOp .lss 3 (.tmp 33) (.tmp 32) 3, none, true⟩]
theorem k15_r6_e : type_of% (@Eo_of P pr N e σ Q _ _ k15_r6.eq_1) := Eo_of k15_r6.eq_1
def k15_r7 : List COp := [
  ⟨some 35, .indexAddr 22 (.tmp 31) (.tmp 33), none, true⟩,
  ⟨some 36, .load 29 (.tmp 35), none, true⟩,
  ⟨some 9, .alloc 29, none, true⟩,
  ⟨none, .store 29 (.tmp 9) (.tmp 36), none, true⟩]
theorem k15_r7_e : type_of% (@Eo_of P pr N e σ Q _ _ k15_r7.eq_1) := Eo_of k15_r7.eq_1
def k15_r8 : CC := (.wregion [
  (true, ⟨some 38, .load 29 (.tmp 9), none, false⟩),
  (false, ⟨some 39, .load 29 (.tmp 9), none, true⟩),
  (false, ⟨some 40, .call { callee := .value (.func 10), args := #[.tmp 39], argTypes := #[29] }, none, true⟩),
  (true, ⟨some 41, .call { callee := .value (.func 29), args := #[.tmp 38, .tmp 40], argTypes := #[29, 9] }, none, true⟩),
  (false, ⟨some 37, .move (.tmp 41), none, true⟩),
  (false, ⟨some 42, .extract (.tmp 37) 0, none, false⟩),
  (false, ⟨some 43, .extract (.tmp 37) 1, none, false⟩),
  (false, ⟨some 10, .assign (.tmp 42), none, true⟩),
  (false, ⟨some 11, .assign (.tmp 43), none, true⟩)] false [(0, ⟨some 38, .load 29 (.tmp 9), none, false⟩, [0, 3])])
theorem k15_r8_e : type_of% (@Ev_of P pr N e σ Q _ _ k15_r8.eq_1) := Ev_of k15_r8.eq_1
def k15_r9 : List COp := [
  ⟨some 44, .move (.tmp 7), none, true⟩,
  ⟨some 45, .fieldAddr 29 (.tmp 9) 0, none, true⟩,
  ⟨some 46, .load 3 (.tmp 45), none, true⟩,
  ⟨some 47, .buildSlice 70 1 #[(0, .tmp 46)], none, true⟩,
  ⟨some 48, .call { callee := .value (.func 28), args := #[.tmp 44, .tmp 47], argTypes := #[41, 70] }, none, true⟩,
  ⟨some 49, .move (.tmp 10), none, true⟩,
  ⟨some 50, .call { callee := .builtin .append, args := #[.tmp 48, .tmp 49], argTypes := #[41, 41] }, none, true⟩,
  ⟨some 7, .assign (.tmp 50), none, true⟩]
theorem k15_r9_e : type_of% (@Eo_of P pr N e σ Q _ _ k15_r9.eq_1) := Eo_of k15_r9.eq_1
def k15_r10 : List COp := [
  ⟨some 51, .binOp .add 3 (.tmp 33) (.const (.int .i64 1)) 3, none, true⟩,
  ⟨some 33, .move (.tmp 51), none, true⟩]
theorem k15_r10_e : type_of% (@Eo_of P pr N e σ Q _ _ k15_r10.eq_1) := Eo_of k15_r10.eq_1
def k15_l0 : CC := (.seq (.region k15_r6) (.seq (.cond (.tmp 34) .skip (.exit 0)) (.seq (.block 1 (.seq (.region k15_r7) (.seq k15_r8 (.region k15_r9)))) (.region k15_r10))))
theorem k15_l0_e : type_of% (@Ev_of P pr N e σ Q _ _ k15_l0.eq_1) := Ev_of k15_l0.eq_1
def k15_r11 : List COp := [
  ⟨some 52, .fieldAddr 25 (.tmp 2) 1, none, true⟩,
  ⟨some 53, .load 23 (.tmp 52), none, true⟩,
  ⟨some 54, .call { callee := .builtin .len, args := #[.tmp 53], argTypes := #[23] }, none, true⟩,
  ⟨some 55, .move (.const (.int .i64 0)), none, true⟩]
theorem k15_r11_e : type_of% (@Eo_of P pr N e σ Q _ _ k15_r11.eq_1) := Eo_of k15_r11.eq_1
def k15_r12 : List COp := [
  ⟨some 56, .binOp .lss 3 (.tmp 55) (.tmp 54) 3, none, true⟩]
theorem k15_r12_e : type_of% (@Eo_of P pr N e σ Q _ _ k15_r12.eq_1) := Eo_of k15_r12.eq_1
def k15_r13 : List COp := [
  ⟨some 57, .indexAddr 23 (.tmp 53) (.tmp 55), none, true⟩,
  ⟨some 58, .load 37 (.tmp 57), none, true⟩,
  ⟨some 13, .alloc 37, none, true⟩,
  ⟨none, .store 37 (.tmp 13) (.tmp 58), none, true⟩]
theorem k15_r13_e : type_of% (@Eo_of P pr N e σ Q _ _ k15_r13.eq_1) := Eo_of k15_r13.eq_1
def k15_r14 : List COp := [
  ⟨some 59, .move (.tmp 7), none, true⟩,
  ⟨some 60, .fieldAddr 37 (.tmp 13) 0, none, true⟩,
  ⟨some 61, .load 3 (.tmp 60), none, true⟩,
  ⟨some 62, .fieldAddr 37 (.tmp 13) 1, none, true⟩,
  ⟨some 63, .load 3 (.tmp 62), none, true⟩,
  ⟨some 64, .fieldAddr 37 (.tmp 13) 2, none, true⟩,
  ⟨some 65, .load 3 (.tmp 64), none, true⟩,
  ⟨some 66, .fieldAddr 37 (.tmp 13) 3, none, true⟩,
  ⟨some 67, .load 3 (.tmp 66), none, true⟩,
  ⟨some 68, .fieldAddr 37 (.tmp 13) 4, none, true⟩,
  ⟨some 69, .load 35 (.tmp 68), none, true⟩,
  ⟨some 70, .call { callee := .builtin .len, args := #[.tmp 69], argTypes := #[35] }, none, true⟩,
  ⟨some 71, .buildSlice 70 5 #[(0, .tmp 61), (1, .tmp 63), (2, .tmp 65), (3, .tmp 67), (4, .tmp 70)], none, true⟩,
  ⟨some 72, .call { callee := .value (.func 28), args := #[.tmp 59, .tmp 71], argTypes := #[41, 70] }, none, true⟩,
  ⟨some 7, .assign (.tmp 72), none, true⟩]
theorem k15_r14_e : type_of% (@Eo_of P pr N e σ Q _ _ k15_r14.eq_1) := Eo_of k15_r14.eq_1
def k15_r15 : List COp := [
  ⟨some 73, .fieldAddr 37 (.tmp 13) 4, none, true⟩,
  ⟨some 74, .load 35 (.tmp 73), none, true⟩,
  ⟨some 75, .call { callee := .builtin .len, args := #[.tmp 74], argTypes := #[35] }, none, true⟩,
  ⟨some 76, .move (.const (.int .i64 0)), none, true⟩]
theorem k15_r15_e : type_of% (@Eo_of P pr N e σ Q _ _ k15_r15.eq_1) := Eo_of k15_r15.eq_1
def k15_r16 : List COp := [
  ⟨some 77, .binOp .lss 3 (.tmp 76) (.tmp 75) 3, none, true⟩]
theorem k15_r16_e : type_of% (@Eo_of P pr N e σ Q _ _ k15_r16.eq_1) := Eo_of k15_r16.eq_1
def k15_r17 : List COp := [
  ⟨some 78, .indexAddr 35 (.tmp 74) (.tmp 76), none, true⟩,
  ⟨some 79, .load 39 (.tmp 78), none, true⟩,
  ⟨some 15, .alloc 39, none, true⟩,
  ⟨none, .store 39 (.tmp 15) (.tmp 79), none, true⟩]
theorem k15_r17_e : type_of% (@Eo_of P pr N e σ Q _ _ k15_r17.eq_1) := Eo_of k15_r17.eq_1
def k15_r18 : List COp := [
  ⟨some 80, .move (.tmp 7), none, true⟩,
  ⟨some 81, .fieldAddr 39 (.tmp 15) 0, none, true⟩,
  ⟨some 82, .load 3 (.tmp 81), none, true⟩,
  ⟨some 83, .fieldAddr 39 (.tmp 15) 1, none, true⟩,
  ⟨some 84, .load 3 (.tmp 83), none, true⟩,
  ⟨some 85, .buildSlice 70 2 #[(0, .tmp 82), (1, .tmp 84)], none, true⟩,
  ⟨some 86, .call { callee := .value (.func 28), args := #[.tmp 80, .tmp 85], argTypes := #[41, 70] }, none, true⟩,
  ⟨some 7, .assign (.tmp 86), none, true⟩]
theorem k15_r18_e : type_of% (@Eo_of P pr N e σ Q _ _ k15_r18.eq_1) := Eo_of k15_r18.eq_1
def k15_r19 : List COp := [
  ⟨some 87, .binOp .add 3 (.tmp 76) (.const (.int .i64 1)) 3, none, true⟩,
  ⟨some 76, .move (.tmp 87), none, true⟩]
theorem k15_r19_e : type_of% (@Eo_of P pr N e σ Q _ _ k15_r19.eq_1) := Eo_of k15_r19.eq_1
def k15_l2 : CC := (.seq (.region k15_r16) (.seq (.cond (.tmp 77) .skip (.exit 4)) (.seq (.block 5 (.seq (.region k15_r17) (.region k15_r18))) (.region k15_r19))))
theorem k15_l2_e : type_of% (@Ev_of P pr N e σ Q _ _ k15_l2.eq_1) := Ev_of k15_l2.eq_1
def k15_r20 : List COp := [
  ⟨some 88, .binOp .add 3 (.tmp 55) (.const (.int .i64 1)) 3, none, true⟩,
  ⟨some 55, .move (.tmp 88), none, true⟩]
theorem k15_r20_e : type_of% (@Eo_of P pr N e σ Q _ _ k15_r20.eq_1) := Eo_of k15_r20.eq_1
def k15_l1 : CC := (.seq (.region k15_r12) (.seq (.cond (.tmp 56) .skip (.exit 2)) (.seq (.block 3 (.seq (.region k15_r13) (.seq (.region k15_r14) (.seq (.region k15_r15) (.block 4 (.loop k15_l2)))))) (.region k15_r20))))
theorem k15_l1_e : type_of% (@Ev_of P pr N e σ Q _ _ k15_l1.eq_1) := Ev_of k15_l1.eq_1
def k15_r21 : List COp := [
  ⟨some 89, .move (.tmp 7), none, true⟩,
  ⟨some 4, .assign (.tmp 89), none, true⟩,
  ⟨some 5, .assign (.const (.int .i64 0)), none, true⟩]
theorem k15_r21_e : type_of% (@Eo_of P pr N e σ Q _ _ k15_r21.eq_1) := Eo_of k15_r21.eq_1
def k15 : CC := (.seq (.region k15_r0) (.seq (.seq (.region k15_r1) (.seq (.region k15_r2) (.cond (.tmp 20) (.seq (.region k15_r3) .ret) .skip))) (.seq (.region k15_r4) (.seq (.seq (.region k15_r5) (.block 0 (.loop k15_l0))) (.seq (.seq (.region k15_r11) (.block 2 (.loop k15_l1))) (.seq (.region k15_r21) .ret))))))
theorem k15_e : type_of% (@Ev_of P pr N e σ Q _ _ k15.eq_1) := Ev_of k15.eq_1
theorem k15_a : type_of% @k15_e ∧ type_of% @k15_r0_e ∧ type_of% @k15_r1_e ∧ type_of% @k15_r2_e ∧ type_of% @k15_r3_e ∧ type_of% @k15_r4_e ∧ type_of% @k15_r5_e ∧ type_of% @k15_r6_e ∧ type_of% @k15_r7_e ∧ type_of% @k15_r8_e ∧ type_of% @k15_r9_e ∧ type_of% @k15_r10_e ∧ type_of% @k15_l0_e ∧ type_of% @k15_r11_e ∧ type_of% @k15_r12_e ∧ type_of% @k15_r13_e ∧ type_of% @k15_r14_e ∧ type_of% @k15_r15_e ∧ type_of% @k15_r16_e ∧ type_of% @k15_r17_e ∧ type_of% @k15_r18_e ∧ type_of% @k15_r19_e ∧ type_of% @k15_l2_e ∧ type_of% @k15_r20_e ∧ type_of% @k15_l1_e ∧ type_of% @k15_r21_e := ⟨@k15_e, @k15_r0_e, @k15_r1_e, @k15_r2_e, @k15_r3_e, @k15_r4_e, @k15_r5_e, @k15_r6_e, @k15_r7_e, @k15_r8_e, @k15_r9_e, @k15_r10_e, @k15_l0_e, @k15_r11_e, @k15_r12_e, @k15_r13_e, @k15_r14_e, @k15_r15_e, @k15_r16_e, @k15_r17_e, @k15_r18_e, @k15_r19_e, @k15_l2_e, @k15_r20_e, @k15_l1_e, @k15_r21_e⟩
/-- quern/code.Encode -/
theorem k15_is : FnIs Try.prog prims 15 90 [ResultVar.tmp 4, ResultVar.tmp 5] k15 := FnIs.of_fn Try.func15 (by kernel_rfl) rfl
def k20_r0 : List COp := [
  ⟨some 2, .alloc 25, none, true⟩]
theorem k20_r0_e : type_of% (@Eo_of P pr N e σ Q _ _ k20_r0.eq_1) := Eo_of k20_r0.eq_1
def k20_r1 : List COp := [
  ⟨some 3, .build 29 #[(0, .const (.int .i64 1)), (1, .const (.int .i64 7))], none, true⟩,
  ⟨some 4, .buildSlice 22 1 #[(0, .tmp 3)], none, true⟩,
  ⟨some 5, .move (.tmp 0), none, true⟩,
  ⟨some 6, .build 37 #[(3, .const (.int .i64 1)), (4, .tmp 5)], none, true⟩,
  ⟨some 7, .buildSlice 23 1 #[(0, .tmp 6)], none, true⟩,
  ⟨some 8, .build 25 #[(0, .tmp 4), (1, .tmp 7)], none, true⟩,
  ⟨none, .store 25 (.tmp 2) (.tmp 8), none, true⟩]
theorem k20_r1_e : type_of% (@Eo_of P pr N e σ Q _ _ k20_r1.eq_1) := Eo_of k20_r1.eq_1
def k20 : CC := (.seq (.region k20_r0) (.seq (.region k20_r1) .ret))
theorem k20_e : type_of% (@Ev_of P pr N e σ Q _ _ k20.eq_1) := Ev_of k20.eq_1
theorem k20_a : type_of% @k20_e ∧ type_of% @k20_r0_e ∧ type_of% @k20_r1_e := ⟨@k20_e, @k20_r0_e, @k20_r1_e⟩
/-- quern/quernlaw13.example -/
theorem k20_is : FnIs Try.prog prims 20 9 [ResultVar.cell 2 25] k20 := FnIs.of_fn Try.func20 (by kernel_rfl) rfl
def k23_r0 : List COp := [
  ⟨some 4, .box 25 (.tmp 0), none, true⟩,
  ⟨some 7, .box 39 (.tmp 3), none, true⟩,
  ⟨some 8, .assign (.const (.bool false)), none, true⟩]
theorem k23_r0_e : type_of% (@Eo_of P pr N e σ Q _ _ k23_r0.eq_1) := Eo_of k23_r0.eq_1
def k23_r1 : List COp := [
  ⟨some 13, .fieldAddr 25 (.tmp 4) 1, none, true⟩,
  ⟨some 14, .load 23 (.tmp 13), none, true⟩,
  ⟨some 15, .move (.tmp 2), none, true⟩,
  ⟨some 16, .indexAddr 23 (.tmp 14) (.tmp 15), none, true⟩,
  ⟨some 17, .load 37 (.tmp 16), none, true⟩,
  ⟨some 9, .alloc 37, none, true⟩,
  ⟨none, .store 37 (.tmp 9) (.tmp 17), none, true⟩]
theorem k23_r1_e : type_of% (@Eo_of P pr N e σ Q _ _ k23_r1.eq_1) := Eo_of k23_r1.eq_1
def k23_r2 : List COp := [
  ⟨some 18, .makeMap 68 .none, none, true⟩,
  ⟨some 19, .fieldAddr 25 (.tmp 4) 0, none, true⟩,
  ⟨some 20, .load 22 (.tmp 19), none, true⟩,
  ⟨some 21, .call { callee := .builtin .len, args := #[.tmp 20], argTypes := #[22] }, none, true⟩,
  ⟨none, .insert 68 (.tmp 18) (.const (.int .i64 1)) (.tmp 21), none, true⟩,
  ⟨some 22, .fieldAddr 37 (.tmp 9) 1, none, true⟩,
  ⟨some 23, .load 3 (.tmp 22), none, true⟩,
  ⟨none, .insert 68 (.tmp 18) (.const (.int .i64 2)) (.tmp 23), none, true⟩,
  ⟨some 24, .fieldAddr 37 (.tmp 9) 1, none, true⟩,
  ⟨some 25, .load 3 (.tmp 24), none, true⟩,
  ⟨none, .insert 68 (.tmp 18) (.const (.int .i64 3)) (.tmp 25), none, true⟩,
  ⟨some 26, .move (.tmp 1), none, true⟩,
  ⟨none, .insert 68 (.tmp 18) (.const (.int .i64 4)) (.tmp 26), none, true⟩,
  ⟨some 27, .move (.tmp 1), none, true⟩,
  ⟨none, .insert 68 (.tmp 18) (.const (.int .i64 5)) (.tmp 27), none, true⟩,
  ⟨some 28, .fieldAddr 37 (.tmp 9) 4, none, true⟩,
  ⟨some 29, .load 35 (.tmp 28), none, true⟩,
  ⟨some 30, .call { callee := .builtin .len, args := #[.tmp 29], argTypes := #[35] }, none, true⟩,
  ⟨none, .insert 68 (.tmp 18) (.const (.int .i64 7)) (.tmp 30), none, true⟩,
  ⟨some 31, .fieldAddr 37 (.tmp 9) 4, none, true⟩,
  ⟨some 32, .load 35 (.tmp 31), none, true⟩,
  ⟨some 33, .call { callee := .builtin .len, args := #[.tmp 32], argTypes := #[35] }, none, true⟩,
  ⟨none, .insert 68 (.tmp 18) (.const (.int .i64 8)) (.tmp 33), none, true⟩,
  ⟨some 34, .move (.tmp 2), none, true⟩,
  ⟨none, .insert 68 (.tmp 18) (.const (.int .i64 9)) (.tmp 34), none, true⟩,
  ⟨none, .insert 68 (.tmp 18) (.const (.int .i64 11)) (.const (.int .i64 1099511627777)), none, true⟩,
  ⟨none, .insert 68 (.tmp 18) (.const (.int .i64 12)) (.const (.int .i64 14)), none, true⟩,
  ⟨some 35, .move (.tmp 18), none, true⟩,
  ⟨some 10, .assign (.tmp 35), none, true⟩]
theorem k23_r2_e : type_of% (@Eo_of P pr N e σ Q _ _ k23_r2.eq_1) := Eo_of k23_r2.eq_1
def k23_r3 : List COp := [
  ⟨some 37, .move (.tmp 10), none, true⟩,
  ⟨some 38, .fieldAddr 39 (.tmp 7) 0, none, true⟩,
  ⟨some 39, .load 3 (.tmp 38), none, true⟩,
  ⟨some 40, .lookup 68 (.tmp 37) (.tmp 39) true, none, true⟩,
  ⟨some 36, .move (.tmp 40), none, true⟩,
  ⟨some 41, .extract (.tmp 36) 0, none, true⟩,
  ⟨some 42, .extract (.tmp 36) 1, none, true⟩,
  ⟨some 11, .assign (.tmp 41), none, true⟩,
  ⟨some 12, .assign (.tmp 42), none, true⟩]
theorem k23_r3_e : type_of% (@Eo_of P pr N e σ Q _ _ k23_r3.eq_1) := Eo_of k23_r3.eq_1
def k23_r4 : List COp := [
  ⟨some 43, .move (.tmp 12), none, true⟩]
theorem k23_r4_e : type_of% (@Eo_of P pr N e σ Q _ _ k23_r4.eq_1) := Eo_of k23_r4.eq_1
def k23_r5 : List COp := [
  ⟨some 44, .fieldAddr 39 (.tmp 7) 1, none, true⟩,
  ⟨some 45, .load 3 (.tmp 44), none, true⟩,
  ⟨some 46, .binOp .geq 3 (.tmp 45) (.const (.int .i64 0)) 3, none, true⟩,
  ⟨some 47, .move (.tmp 46), none, true⟩,
  ⟨some 48, .fieldAddr 39 (.tmp 7) 1, some (47, true), true⟩,
  ⟨some 49, .load 3 (.tmp 48), some (47, true), true⟩,
  ⟨some 50, .move (.tmp 11), some (47, true), true⟩,
  ⟨some 51, .binOp .lss 3 (.tmp 49) (.tmp 50) 3, some (47, true), true⟩,
  ⟨some 52, .pick (.tmp 47) (.tmp 51) (.const (.bool false)), none, true⟩,
  ⟨some 53, .move (.tmp 52), none, true⟩,
  ⟨some 54, .fieldAddr 39 (.tmp 7) 0, some (53, true), true⟩,
  ⟨some 55, .load 3 (.tmp 54), some (53, true), true⟩,
  ⟨some 56, .binOp .neq 3 (.tmp 55) (.const (.int .i64 12)) 3, some (53, true), true⟩,
  ⟨some 57, .move (.tmp 56), some (53, true), true⟩,
  ⟨some 58, .fieldAddr 39 (.tmp 7) 1, some (57, false), true⟩,
  ⟨some 59, .load 3 (.tmp 58), some (57, false), true⟩,
  ⟨some 60, .binOp .geq 3 (.tmp 59) (.const (.int .i64 3)) 3, some (57, false), true⟩,
  ⟨some 61, .pick (.tmp 57) (.const (.bool true)) (.tmp 60), some (53, true), true⟩,
  ⟨some 62, .pick (.tmp 53) (.tmp 61) (.const (.bool false)), none, true⟩,
  ⟨some 8, .assign (.tmp 62), none, true⟩]
theorem k23_r5_e : type_of% (@Eo_of P pr N e σ Q _ _ k23_r5.eq_1) := Eo_of k23_r5.eq_1
def k23_r6 : List COp := [
  ⟨some 63, .fieldAddr 39 (.tmp 7) 0, none, true⟩,
  ⟨some 64, .load 3 (.tmp 63), none, true⟩,
  ⟨some 65, .binOp .geq 3 (.tmp 64) (.const (.int .i64 1)) 3, none, true⟩,
  ⟨some 66, .move (.tmp 65), none, true⟩,
  ⟨some 67, .fieldAddr 39 (.tmp 7) 0, some (66, true), true⟩,
  ⟨some 68, .load 3 (.tmp 67), some (66, true), true⟩,
  ⟨some 69, .binOp .leq 3 (.tmp 68) (.const (.int .i64 21)) 3, some (66, true), true⟩,
  ⟨some 70, .pick (.tmp 66) (.tmp 69) (.const (.bool false)), none, true⟩,
  ⟨some 71, .move (.tmp 70), none, true⟩,
  ⟨some 72, .fieldAddr 39 (.tmp 7) 1, some (71, true), true⟩,
  ⟨some 73, .load 3 (.tmp 72), some (71, true), true⟩,
  ⟨some 74, .binOp .eql 3 (.tmp 73) (.const (.int .i64 0)) 3, some (71, true), true⟩,
  ⟨some 75, .pick (.tmp 71) (.tmp 74) (.const (.bool false)), none, true⟩,
  ⟨some 8, .assign (.tmp 75), none, true⟩]
theorem k23_r6_e : type_of% (@Eo_of P pr N e σ Q _ _ k23_r6.eq_1) := Eo_of k23_r6.eq_1
def k23 : CC := (.seq (.region k23_r0) (.seq (.region k23_r1) (.seq (.region k23_r2) (.seq (.seq (.region k23_r3) (.seq (.region k23_r4) (.cond (.tmp 43) (.seq (.region k23_r5) .ret) .skip))) (.seq (.region k23_r6) .ret)))))
theorem k23_e : type_of% (@Ev_of P pr N e σ Q _ _ k23.eq_1) := Ev_of k23.eq_1
theorem k23_a : type_of% @k23_e ∧ type_of% @k23_r0_e ∧ type_of% @k23_r1_e ∧ type_of% @k23_r2_e ∧ type_of% @k23_r3_e ∧ type_of% @k23_r4_e ∧ type_of% @k23_r5_e ∧ type_of% @k23_r6_e := ⟨@k23_e, @k23_r0_e, @k23_r1_e, @k23_r2_e, @k23_r3_e, @k23_r4_e, @k23_r5_e, @k23_r6_e⟩
/-- quern/code.right -/
theorem k23_is : FnIs Try.prog prims 23 76 [ResultVar.tmp 8] k23 := FnIs.of_fn Try.func23 (by kernel_rfl) rfl
def k24_r0 : List COp := [
  ⟨some 2, .box 25 (.tmp 0), none, true⟩,
  ⟨some 4, .assign (.const (.bool false)), none, true⟩]
theorem k24_r0_e : type_of% (@Eo_of P pr N e σ Q _ _ k24_r0.eq_1) := Eo_of k24_r0.eq_1
def k24_r1 : List COp := [
  ⟨some 17, .fieldAddr 25 (.tmp 2) 1, none, true⟩,
  ⟨some 18, .load 23 (.tmp 17), none, true⟩,
  ⟨some 19, .move (.tmp 1), none, true⟩,
  ⟨some 20, .indexAddr 23 (.tmp 18) (.tmp 19), none, true⟩,
  ⟨some 21, .load 37 (.tmp 20), none, true⟩,
  ⟨some 5, .alloc 37, none, true⟩,
  ⟨none, .store 37 (.tmp 5) (.tmp 21), none, true⟩]
theorem k24_r1_e : type_of% (@Eo_of P pr N e σ Q _ _ k24_r1.eq_1) := Eo_of k24_r1.eq_1
def k24_r2 : CC := (.hreg [
  (false, ⟨some 22, .fieldAddr 37 (.tmp 5) 4, none, true⟩),
  (false, ⟨some 23, .load 35 (.tmp 22), none, true⟩),
  (false, ⟨some 24, .call { callee := .builtin .len, args := #[.tmp 23], argTypes := #[35] }, none, true⟩),
  (true, ⟨some 25, .makeSlice 70 (.tmp 24) (.tmp 24), none, true⟩),
  (false, ⟨some 6, .assign (.tmp 25), none, true⟩)])
theorem k24_r2_e : type_of% (@Ev_of P pr N e σ Q _ _ k24_r2.eq_1) := Ev_of k24_r2.eq_1
def k24_r3 : CC := (.hreg [
  (true, ⟨some 26, .buildSlice 70 1 #[(0, .const (.int .i64 0))], none, true⟩),
  (false, ⟨some 7, .assign (.tmp 26), none, true⟩)])
theorem k24_r3_e : type_of% (@Ev_of P pr N e σ Q _ _ k24_r3.eq_1) := Ev_of k24_r3.eq_1
def k24_r4 : List COp := [
  ⟨some 27, .move (.tmp 6), none, true⟩,
  ⟨some 28, .call { callee := .builtin .len, args := #[.tmp 27], argTypes := #[70] }, none, true⟩,
  ⟨some 29, .move (.const (.int .i64 0)), none, true⟩]
theorem k24_r4_e : type_of% (@Eo_of P pr N e σ Q _ _ k24_r4.eq_1) := Eo_of k24_r4.eq_1
def k24_r5 : List COp := [
  ⟨some 30, .binOp .lss 3 (.tmp 29) (.tmp 28) 3, none, true⟩]
theorem k24_r5_e : type_of% (@Eo_of P pr N e σ Q _ _ k24_r5.eq_1) := Eo_of k24_r5.eq_1
def k24_r6 : List COp := [
  ⟨some 31, .move (.tmp 29), none, true⟩,
  ⟨some 8, .assign (.tmp 31), none, true⟩]
theorem k24_r6_e : type_of% (@Eo_of P pr N e σ Q _ _ k24_r6.eq_1) := Eo_of k24_r6.eq_1
def k24_r7 : List COp := [
  ⟨some 32, .move (.tmp 6), none, true⟩,
  ⟨some 33, .move (.tmp 8), none, true⟩,
  ⟨some 34, .indexAddr 70 (.tmp 32) (.tmp 33), none, true⟩,
  ⟨none, .store 3 (.tmp 34) (.const (.int .i64 (-1))), none, true⟩]
theorem k24_r7_e : type_of% (@Eo_of P pr N e σ Q _ _ k24_r7.eq_1) := Eo_of k24_r7.eq_1
def k24_r8 : List COp := [
  ⟨some 35, .binOp .add 3 (.tmp 29) (.const (.int .i64 1)) 3, none, true⟩,
  ⟨some 29, .move (.tmp 35), none, true⟩]
theorem k24_r8_e : type_of% (@Eo_of P pr N e σ Q _ _ k24_r8.eq_1) := Eo_of k24_r8.eq_1
def k24_l0 : CC := (.seq (.region k24_r5) (.seq (.cond (.tmp 30) .skip (.exit 0)) (.seq (.block 1 (.seq (.region k24_r6) (.region k24_r7))) (.region k24_r8))))
theorem k24_l0_e : type_of% (@Ev_of P pr N e σ Q _ _ k24_l0.eq_1) := Ev_of k24_l0.eq_1
def k24_r9 : List COp := [
  ⟨some 36, .move (.tmp 6), none, true⟩,
  ⟨some 37, .indexAddr 70 (.tmp 36) (.const (.int .i64 0)), none, true⟩,
  ⟨none, .store 3 (.tmp 37) (.const (.int .i64 0)), none, true⟩]
theorem k24_r9_e : type_of% (@Eo_of P pr N e σ Q _ _ k24_r9.eq_1) := Eo_of k24_r9.eq_1
def k24_r10 : List COp := [
  ⟨some 38, .move (.tmp 7), none, true⟩,
  ⟨some 39, .call { callee := .builtin .len, args := #[.tmp 38], argTypes := #[70] }, none, true⟩,
  ⟨some 40, .binOp .gtr 3 (.tmp 39) (.const (.int .i64 0)) 3, none, true⟩]
theorem k24_r10_e : type_of% (@Eo_of P pr N e σ Q _ _ k24_r10.eq_1) := Eo_of k24_r10.eq_1
def k24_r11 : List COp := [
  ⟨some 41, .move (.tmp 7), none, true⟩,
  ⟨some 42, .move (.tmp 7), none, true⟩,
  ⟨some 43, .call { callee := .builtin .len, args := #[.tmp 42], argTypes := #[70] }, none, true⟩,
  ⟨some 44, .binOp .sub 3 (.tmp 43) (.const (.int .i64 1)) 3, none, true⟩,
  ⟨some 45, .indexAddr 70 (.tmp 41) (.tmp 44), none, true⟩,
  ⟨some 46, .load 3 (.tmp 45), none, true⟩,
  ⟨some 9, .assign (.tmp 46), none, true⟩]
theorem k24_r11_e : type_of% (@Eo_of P pr N e σ Q _ _ k24_r11.eq_1) := Eo_of k24_r11.eq_1
def k24_r12 : List COp := [
  ⟨some 47, .move (.tmp 7), none, true⟩,
  ⟨some 48, .move (.tmp 7), none, true⟩,
  ⟨some 49, .call { callee := .builtin .len, args := #[.tmp 48], argTypes := #[70] }, none, true⟩,
  ⟨some 50, .binOp .sub 3 (.tmp 49) (.const (.int .i64 1)) 3, none, true⟩,
  ⟨some 51, .slice 70 (.tmp 47) .none (some (.tmp 50)) .none, none, true⟩,
  ⟨some 7, .assign (.tmp 51), none, true⟩]
theorem k24_r12_e : type_of% (@Eo_of P pr N e σ Q _ _ k24_r12.eq_1) := Eo_of k24_r12.eq_1
def k24_r13 : List COp := [
  ⟨some 52, .fieldAddr 37 (.tmp 5) 4, none, true⟩,
  ⟨some 53, .load 35 (.tmp 52), none, true⟩,
  ⟨some 54, .move (.tmp 9), none, true⟩,
  ⟨some 55, .indexAddr 35 (.tmp 53) (.tmp 54), none, true⟩,
  ⟨some 56, .load 39 (.tmp 55), none, true⟩,
  ⟨some 10, .alloc 39, none, true⟩,
  ⟨none, .store 39 (.tmp 10) (.tmp 56), none, true⟩]
theorem k24_r13_e : type_of% (@Eo_of P pr N e σ Q _ _ k24_r13.eq_1) := Eo_of k24_r13.eq_1
def k24_r14 : List COp := [
  ⟨some 58, .load 25 (.tmp 2), none, true⟩,
  ⟨some 59, .load 39 (.tmp 10), none, true⟩,
  ⟨some 60, .call { callee := .value (.func 45), args := #[.tmp 58, .tmp 59], argTypes := #[25, 39] }, none, true⟩,
  ⟨some 57, .move (.tmp 60), none, true⟩,
  ⟨some 61, .extract (.tmp 57) 0, none, true⟩,
  ⟨some 62, .extract (.tmp 57) 1, none, true⟩,
  ⟨some 11, .assign (.tmp 61), none, true⟩,
  ⟨some 12, .assign (.tmp 62), none, true⟩]
theorem k24_r14_e : type_of% (@Eo_of P pr N e σ Q _ _ k24_r14.eq_1) := Eo_of k24_r14.eq_1
def k24_r15 : List COp := [
  ⟨some 63, .move (.tmp 6), none, true⟩,
  ⟨some 64, .move (.tmp 9), none, true⟩,
  ⟨some 65, .indexAddr 70 (.tmp 63) (.tmp 64), none, true⟩,
  ⟨some 66, .load 3 (.tmp 65), none, true⟩,
  ⟨some 67, .move (.tmp 11), none, true⟩,
  ⟨some 68, .binOp .sub 3 (.tmp 66) (.tmp 67) 3, none, true⟩,
  ⟨some 13, .assign (.tmp 68), none, true⟩]
theorem k24_r15_e : type_of% (@Eo_of P pr N e σ Q _ _ k24_r15.eq_1) := Eo_of k24_r15.eq_1
def k24_r16 : List COp := [
  ⟨some 69, .move (.tmp 13), none, true⟩,
  ⟨some 70, .binOp .lss 3 (.tmp 69) (.const (.int .i64 0)) 3, none, true⟩,
  ⟨some 71, .move (.tmp 70), none, true⟩,
  ⟨some 72, .move (.tmp 13), some (71, false), true⟩,
  ⟨some 73, .move (.tmp 12), some (71, false), true⟩,
  ⟨some 74, .binOp .add 3 (.tmp 72) (.tmp 73) 3, some (71, false), true⟩,
  ⟨some 75, .fieldAddr 37 (.tmp 5) 3, some (71, false), true⟩,
  ⟨some 76, .load 3 (.tmp 75), some (71, false), true⟩,
  ⟨some 77, .binOp .gtr 3 (.tmp 74) (.tmp 76) 3, some (71, false), true⟩,
  ⟨some 78, .pick (.tmp 71) (.const (.bool true)) (.tmp 77), none, true⟩]
theorem k24_r16_e : type_of% (@Eo_of P pr N e σ Q _ _ k24_r16.eq_1) := Eo_of k24_r16.eq_1
def k24_r17 : List COp := [
  ⟨some 4, .assign (.const (.bool false)), none, true⟩]
theorem k24_r17_e : type_of% (@Eo_of P pr N e σ Q _ _ k24_r17.eq_1) := Eo_of k24_r17.eq_1
def k24_r18 : List COp := [
  ⟨some 79, .move (.tmp 13), none, true⟩,
  ⟨some 80, .move (.tmp 12), none, true⟩,
  ⟨some 81, .binOp .add 3 (.tmp 79) (.tmp 80) 3, none, true⟩,
  ⟨some 13, .assign (.tmp 81), none, true⟩]
theorem k24_r18_e : type_of% (@Eo_of P pr N e σ Q _ _ k24_r18.eq_1) := Eo_of k24_r18.eq_1
def k24_r19 : List COp := [
  ⟨some 14, .assign (.const (.slice .none 0 0)), none, true⟩]
theorem k24_r19_e : type_of% (@Eo_of P pr N e σ Q _ _ k24_r19.eq_1) := Eo_of k24_r19.eq_1
def k24_r20 : List COp := [
  ⟨some 82, .fieldAddr 39 (.tmp 10) 0, none, true⟩,
  ⟨some 83, .load 3 (.tmp 82), none, true⟩]
theorem k24_r20_e : type_of% (@Eo_of P pr N e σ Q _ _ k24_r20.eq_1) := Eo_of k24_r20.eq_1
def k24_r22 : List COp := [
  ⟨some 88, .binOp .eql 3 (.tmp 83) (.const (.int .i64 10)) 3, none, true⟩,
  ⟨some 87, .assign (.tmp 88), none, true⟩]
theorem k24_r22_e : type_of% (@Eo_of P pr N e σ Q _ _ k24_r22.eq_1) := Eo_of k24_r22.eq_1
def k24_r23 : List COp := [
  ⟨some 90, .binOp .eql 3 (.tmp 83) (.const (.int .i64 7)) 3, none, true⟩,
  ⟨some 89, .assign (.tmp 90), none, true⟩]
theorem k24_r23_e : type_of% (@Eo_of P pr N e σ Q _ _ k24_r23.eq_1) := Eo_of k24_r23.eq_1
def k24_r24 : List COp := [
  ⟨some 91, .fieldAddr 39 (.tmp 10) 1, none, true⟩,
  ⟨some 92, .load 3 (.tmp 91), none, true⟩,
  ⟨some 93, .buildSlice 70 1 #[(0, .tmp 92)], none, true⟩,
  ⟨some 14, .assign (.tmp 93), none, true⟩]
theorem k24_r24_e : type_of% (@Eo_of P pr N e σ Q _ _ k24_r24.eq_1) := Eo_of k24_r24.eq_1
def k24_r25 : List COp := [
  ⟨some 95, .binOp .eql 3 (.tmp 83) (.const (.int .i64 8)) 3, none, true⟩,
  ⟨some 94, .assign (.tmp 95), none, true⟩]
theorem k24_r25_e : type_of% (@Eo_of P pr N e σ Q _ _ k24_r25.eq_1) := Eo_of k24_r25.eq_1
def k24_r26 : List COp := [
  ⟨some 96, .move (.tmp 9), none, true⟩,
  ⟨some 97, .binOp .add 3 (.tmp 96) (.const (.int .i64 1)) 3, none, true⟩,
  ⟨some 98, .fieldAddr 39 (.tmp 10) 1, none, true⟩,
  ⟨some 99, .load 3 (.tmp 98), none, true⟩,
  ⟨some 100, .buildSlice 70 2 #[(0, .tmp 97), (1, .tmp 99)], none, true⟩,
  ⟨some 14, .assign (.tmp 100), none, true⟩]
theorem k24_r26_e : type_of% (@Eo_of P pr N e σ Q _ _ k24_r26.eq_1) := Eo_of k24_r26.eq_1
def k24_r21 : List COp := [
  ⟨some 84, .move (.tmp 9), none, true⟩,
  ⟨some 85, .binOp .add 3 (.tmp 84) (.const (.int .i64 1)) 3, none, true⟩,
  ⟨some 86, .buildSlice 70 1 #[(0, .tmp 85)], none, true⟩,
  ⟨some 14, .assign (.tmp 86), none, true⟩]
theorem k24_r21_e : type_of% (@Eo_of P pr N e σ Q _ _ k24_r21.eq_1) := Eo_of k24_r21.eq_1
def k24_r27 : List COp := [
  ⟨some 101, .move (.tmp 14), none, true⟩,
  ⟨some 102, .call { callee := .builtin .len, args := #[.tmp 101], argTypes := #[70] }, none, true⟩,
  ⟨some 103, .move (.const (.int .i64 0)), none, true⟩]
theorem k24_r27_e : type_of% (@Eo_of P pr N e σ Q _ _ k24_r27.eq_1) := Eo_of k24_r27.eq_1
def k24_r28 : List COp := [
  ⟨some 104, .binOp .lss 3 (.tmp 103) (.tmp 102) 3, none, true⟩]
theorem k24_r28_e : type_of% (@Eo_of P pr N e σ Q _ _ k24_r28.eq_1) := Eo_of k24_r28.eq_1
def k24_r29 : List COp := [
  ⟨some 105, .indexAddr 70 (.tmp 101) (.tmp 103), none, true⟩,
  ⟨some 106, .load 3 (.tmp 105), none, true⟩,
  ⟨some 16, .assign (.tmp 106), none, true⟩]
theorem k24_r29_e : type_of% (@Eo_of P pr N e σ Q _ _ k24_r29.eq_1) := Eo_of k24_r29.eq_1
def k24_r30 : List COp := [
  ⟨some 108, .move (.tmp 16), none, true⟩,
  ⟨some 109, .fieldAddr 37 (.tmp 5) 4, none, true⟩,
  ⟨some 110, .load 35 (.tmp 109), none, true⟩,
  ⟨some 111, .call { callee := .builtin .len, args := #[.tmp 110], argTypes := #[35] }, none, true⟩,
  ⟨some 112, .binOp .geq 3 (.tmp 108) (.tmp 111) 3, none, true⟩,
  ⟨some 113, .move (.tmp 112), none, true⟩,
  ⟨some 114, .move (.tmp 6), some (113, false), true⟩,
  ⟨some 115, .move (.tmp 16), some (113, false), true⟩,
  ⟨some 116, .indexAddr 70 (.tmp 114) (.tmp 115), some (113, false), true⟩,
  ⟨some 117, .load 3 (.tmp 116), some (113, false), true⟩,
  ⟨some 118, .binOp .geq 3 (.tmp 117) (.const (.int .i64 0)) 3, some (113, false), true⟩,
  ⟨some 119, .move (.tmp 118), some (113, false), true⟩,
  ⟨some 120, .move (.tmp 6), some (119, true), true⟩,
  ⟨some 121, .move (.tmp 16), some (119, true), true⟩,
  ⟨some 122, .indexAddr 70 (.tmp 120) (.tmp 121), some (119, true), true⟩,
  ⟨some 123, .load 3 (.tmp 122), some (119, true), true⟩,
  ⟨some 124, .move (.tmp 13), some (119, true), true⟩,
  ⟨some 125, .binOp .neq 3 (.tmp 123) (.tmp 124) 3, some (119, true), true⟩,
  ⟨some 126, .pick (.tmp 119) (.tmp 125) (.const (.bool false)), some (113, false), true⟩,
  ⟨some 127, .pick (.tmp 113) (.const (.bool true)) (.tmp 126), none, true⟩,
  ⟨some 107, .assign (.tmp 127), none, true⟩]
theorem k24_r30_e : type_of% (@Eo_of P pr N e σ Q _ _ k24_r30.eq_1) := Eo_of k24_r30.eq_1
def k24_r31 : List COp := [
  ⟨some 4, .assign (.const (.bool false)), none, true⟩]
theorem k24_r31_e : type_of% (@Eo_of P pr N e σ Q _ _ k24_r31.eq_1) := Eo_of k24_r31.eq_1
def k24_r32 : List COp := [
  ⟨some 129, .move (.tmp 6), none, true⟩,
  ⟨some 130, .move (.tmp 16), none, true⟩,
  ⟨some 131, .indexAddr 70 (.tmp 129) (.tmp 130), none, true⟩,
  ⟨some 132, .load 3 (.tmp 131), none, true⟩,
  ⟨some 133, .binOp .lss 3 (.tmp 132) (.const (.int .i64 0)) 3, none, true⟩,
  ⟨some 128, .assign (.tmp 133), none, true⟩]
theorem k24_r32_e : type_of% (@Eo_of P pr N e σ Q _ _ k24_r32.eq_1) := Eo_of k24_r32.eq_1
def k24_r33 : List COp := [
  ⟨some 134, .move (.tmp 6), none, true⟩,
  ⟨some 135, .move (.tmp 16), none, true⟩,
  ⟨some 136, .move (.tmp 13), none, true⟩,
  ⟨some 137, .indexAddr 70 (.tmp 134) (.tmp 135), none, true⟩,
  ⟨none, .store 3 (.tmp 137) (.tmp 136), none, true⟩]
theorem k24_r33_e : type_of% (@Eo_of P pr N e σ Q _ _ k24_r33.eq_1) := Eo_of k24_r33.eq_1
def k24_r34 : CC := (.hreg [
  (false, ⟨some 138, .move (.tmp 7), none, true⟩),
  (false, ⟨some 139, .move (.tmp 16), none, true⟩),
  (true, ⟨some 140, .buildSlice 70 1 #[(0, .tmp 139)], none, true⟩),
  (true, ⟨some 141, .call { callee := .builtin .append, args := #[.tmp 138, .tmp 140], argTypes := #[70, 70] }, none, true⟩),
  (false, ⟨some 7, .assign (.tmp 141), none, true⟩)])
theorem k24_r34_e : type_of% (@Ev_of P pr N e σ Q _ _ k24_r34.eq_1) := Ev_of k24_r34.eq_1
def k24_r35 : List COp := [
  ⟨some 142, .binOp .add 3 (.tmp 103) (.const (.int .i64 1)) 3, none, true⟩,
  ⟨some 103, .move (.tmp 142), none, true⟩]
theorem k24_r35_e : type_of% (@Eo_of P pr N e σ Q _ _ k24_r35.eq_1) := Eo_of k24_r35.eq_1
def k24_l2 : CC := (.seq (.region k24_r28) (.seq (.cond (.tmp 104) .skip (.exit 5)) (.seq (.block 6 (.seq (.region k24_r29) (.block 7 (.seq (.region k24_r30) (.cond (.tmp 107) (.seq (.region k24_r31) .ret) (.seq (.region k24_r32) (.cond (.tmp 128) (.seq (.region k24_r33) k24_r34) .skip))))))) (.region k24_r35))))
theorem k24_l2_e : type_of% (@Ev_of P pr N e σ Q _ _ k24_l2.eq_1) := Ev_of k24_l2.eq_1
def k24_l1 : CC := (.seq (.seq (.region k24_r10) (.cond (.tmp 40) .skip (.exit 2))) (.block 3 (.seq (.region k24_r11) (.seq (.region k24_r12) (.seq (.region k24_r13) (.seq (.region k24_r14) (.seq (.region k24_r15) (.seq (.seq (.region k24_r16) (.cond (.tmp 78) (.seq (.region k24_r17) .ret) .skip)) (.seq (.region k24_r18) (.seq (.region k24_r19) (.seq (.seq (.region k24_r20) (.block 4 (.seq (.region k24_r22) (.cond (.tmp 87) .skip (.seq (.region k24_r23) (.cond (.tmp 89) (.region k24_r24) (.seq (.region k24_r25) (.cond (.tmp 94) (.region k24_r26) (.region k24_r21))))))))) (.seq (.region k24_r27) (.block 5 (.loop k24_l2))))))))))))))
theorem k24_l1_e : type_of% (@Ev_of P pr N e σ Q _ _ k24_l1.eq_1) := Ev_of k24_l1.eq_1
def k24_r36 : List COp := [
  ⟨some 4, .assign (.const (.bool true)), none, true⟩]
theorem k24_r36_e : type_of% (@Eo_of P pr N e σ Q _ _ k24_r36.eq_1) := Eo_of k24_r36.eq_1
def k24 : CC := (.seq (.region k24_r0) (.seq (.region k24_r1) (.seq k24_r2 (.seq k24_r3 (.seq (.seq (.region k24_r4) (.block 0 (.loop k24_l0))) (.seq (.region k24_r9) (.seq (.block 2 (.loop k24_l1)) (.seq (.region k24_r36) .ret))))))))
theorem k24_e : type_of% (@Ev_of P pr N e σ Q _ _ k24.eq_1) := Ev_of k24.eq_1
theorem k24_a : type_of% @k24_e ∧ type_of% @k24_r0_e ∧ type_of% @k24_r1_e ∧ type_of% @k24_r2_e ∧ type_of% @k24_r3_e ∧ type_of% @k24_r4_e ∧ type_of% @k24_r5_e ∧ type_of% @k24_r6_e ∧ type_of% @k24_r7_e ∧ type_of% @k24_r8_e ∧ type_of% @k24_l0_e ∧ type_of% @k24_r9_e ∧ type_of% @k24_r10_e ∧ type_of% @k24_r11_e ∧ type_of% @k24_r12_e ∧ type_of% @k24_r13_e ∧ type_of% @k24_r14_e ∧ type_of% @k24_r15_e ∧ type_of% @k24_r16_e ∧ type_of% @k24_r17_e ∧ type_of% @k24_r18_e ∧ type_of% @k24_r19_e ∧ type_of% @k24_r20_e ∧ type_of% @k24_r22_e ∧ type_of% @k24_r23_e ∧ type_of% @k24_r24_e ∧ type_of% @k24_r25_e ∧ type_of% @k24_r26_e ∧ type_of% @k24_r21_e ∧ type_of% @k24_r27_e ∧ type_of% @k24_r28_e ∧ type_of% @k24_r29_e ∧ type_of% @k24_r30_e ∧ type_of% @k24_r31_e ∧ type_of% @k24_r32_e ∧ type_of% @k24_r33_e ∧ type_of% @k24_r34_e ∧ type_of% @k24_r35_e ∧ type_of% @k24_l2_e ∧ type_of% @k24_l1_e ∧ type_of% @k24_r36_e := ⟨@k24_e, @k24_r0_e, @k24_r1_e, @k24_r2_e, @k24_r3_e, @k24_r4_e, @k24_r5_e, @k24_r6_e, @k24_r7_e, @k24_r8_e, @k24_l0_e, @k24_r9_e, @k24_r10_e, @k24_r11_e, @k24_r12_e, @k24_r13_e, @k24_r14_e, @k24_r15_e, @k24_r16_e, @k24_r17_e, @k24_r18_e, @k24_r19_e, @k24_r20_e, @k24_r22_e, @k24_r23_e, @k24_r24_e, @k24_r25_e, @k24_r26_e, @k24_r21_e, @k24_r27_e, @k24_r28_e, @k24_r29_e, @k24_r30_e, @k24_r31_e, @k24_r32_e, @k24_r33_e, @k24_r34_e, @k24_r35_e, @k24_l2_e, @k24_l1_e, @k24_r36_e⟩
/-- quern/code.heights -/
theorem k24_is : FnIs Try.prog prims 24 143 [ResultVar.tmp 4] k24 := FnIs.of_fn Try.func24 (by kernel_rfl) rfl
def k25_r0 : List COp := [
  ⟨some 4, .box 25 (.tmp 0), none, true⟩,
  ⟨some 7, .box 39 (.tmp 3), none, true⟩,
  ⟨some 8, .assign (.const (.bool false)), none, true⟩]
theorem k25_r0_e : type_of% (@Eo_of P pr N e σ Q _ _ k25_r0.eq_1) := Eo_of k25_r0.eq_1
def k25_r1 : List COp := [
  ⟨some 12, .fieldAddr 25 (.tmp 4) 1, none, true⟩,
  ⟨some 13, .load 23 (.tmp 12), none, true⟩,
  ⟨some 14, .move (.tmp 2), none, true⟩,
  ⟨some 15, .indexAddr 23 (.tmp 13) (.tmp 14), none, true⟩,
  ⟨some 16, .load 37 (.tmp 15), none, true⟩,
  ⟨some 9, .alloc 37, none, true⟩,
  ⟨none, .store 37 (.tmp 9) (.tmp 16), none, true⟩]
theorem k25_r1_e : type_of% (@Eo_of P pr N e σ Q _ _ k25_r1.eq_1) := Eo_of k25_r1.eq_1
def k25_r2 : List COp := [
  ⟨some 10, .assign (.const (.int .i64 0)), none, true⟩,
  ⟨some 11, .assign (.const (.int .i64 1)), none, true⟩]
theorem k25_r2_e : type_of% (@Eo_of P pr N e σ Q _ _ k25_r2.eq_1) := Eo_of k25_r2.eq_1
def k25_r3 : List COp := [
  ⟨some 17, .fieldAddr 39 (.tmp 7) 0, none, true⟩,
  ⟨some 18, .load 3 (.tmp 17), none, true⟩]
theorem k25_r3_e : type_of% (@Eo_of P pr N e σ Q _ _ k25_r3.eq_1) := Eo_of k25_r3.eq_1
def k25_r4 : List COp := [
  ⟨some 20, .binOp .eql 3 (.tmp 18) (.const (.int .i64 1)) 3, none, true⟩,
  ⟨some 19, .assign (.tmp 20), none, true⟩]
theorem k25_r4_e : type_of% (@Eo_of P pr N e σ Q _ _ k25_r4.eq_1) := Eo_of k25_r4.eq_1
def k25_r5 : List COp := [
  ⟨some 21, .fieldAddr 25 (.tmp 4) 0, none, true⟩,
  ⟨some 22, .load 22 (.tmp 21), none, true⟩,
  ⟨some 23, .call { callee := .builtin .len, args := #[.tmp 22], argTypes := #[22] }, none, true⟩,
  ⟨some 11, .assign (.tmp 23), none, true⟩]
theorem k25_r5_e : type_of% (@Eo_of P pr N e σ Q _ _ k25_r5.eq_1) := Eo_of k25_r5.eq_1
def k25_r6 : List COp := [
  ⟨some 25, .binOp .eql 3 (.tmp 18) (.const (.int .i64 2)) 3, none, true⟩,
  ⟨some 24, .assign (.tmp 25), none, true⟩]
theorem k25_r6_e : type_of% (@Eo_of P pr N e σ Q _ _ k25_r6.eq_1) := Eo_of k25_r6.eq_1
def k25_r7 : List COp := [
  ⟨some 26, .binOp .eql 3 (.tmp 18) (.const (.int .i64 3)) 3, none, true⟩,
  ⟨some 24, .assign (.tmp 26), none, true⟩]
theorem k25_r7_e : type_of% (@Eo_of P pr N e σ Q _ _ k25_r7.eq_1) := Eo_of k25_r7.eq_1
def k25_r8 : List COp := [
  ⟨some 27, .fieldAddr 37 (.tmp 9) 1, none, true⟩,
  ⟨some 28, .load 3 (.tmp 27), none, true⟩,
  ⟨some 11, .assign (.tmp 28), none, true⟩]
theorem k25_r8_e : type_of% (@Eo_of P pr N e σ Q _ _ k25_r8.eq_1) := Eo_of k25_r8.eq_1
def k25_r9 : List COp := [
  ⟨some 30, .binOp .eql 3 (.tmp 18) (.const (.int .i64 4)) 3, none, true⟩,
  ⟨some 29, .assign (.tmp 30), none, true⟩]
theorem k25_r9_e : type_of% (@Eo_of P pr N e σ Q _ _ k25_r9.eq_1) := Eo_of k25_r9.eq_1
def k25_r10 : List COp := [
  ⟨some 31, .binOp .eql 3 (.tmp 18) (.const (.int .i64 5)) 3, none, true⟩,
  ⟨some 29, .assign (.tmp 31), none, true⟩]
theorem k25_r10_e : type_of% (@Eo_of P pr N e σ Q _ _ k25_r10.eq_1) := Eo_of k25_r10.eq_1
def k25_r11 : List COp := [
  ⟨some 32, .move (.tmp 1), none, true⟩,
  ⟨some 11, .assign (.tmp 32), none, true⟩]
theorem k25_r11_e : type_of% (@Eo_of P pr N e σ Q _ _ k25_r11.eq_1) := Eo_of k25_r11.eq_1
def k25_r12 : List COp := [
  ⟨some 34, .binOp .eql 3 (.tmp 18) (.const (.int .i64 7)) 3, none, true⟩,
  ⟨some 33, .assign (.tmp 34), none, true⟩]
theorem k25_r12_e : type_of% (@Eo_of P pr N e σ Q _ _ k25_r12.eq_1) := Eo_of k25_r12.eq_1
def k25_r13 : List COp := [
  ⟨some 35, .binOp .eql 3 (.tmp 18) (.const (.int .i64 8)) 3, none, true⟩,
  ⟨some 33, .assign (.tmp 35), none, true⟩]
theorem k25_r13_e : type_of% (@Eo_of P pr N e σ Q _ _ k25_r13.eq_1) := Eo_of k25_r13.eq_1
def k25_r14 : List COp := [
  ⟨some 36, .fieldAddr 37 (.tmp 9) 4, none, true⟩,
  ⟨some 37, .load 35 (.tmp 36), none, true⟩,
  ⟨some 38, .call { callee := .builtin .len, args := #[.tmp 37], argTypes := #[35] }, none, true⟩,
  ⟨some 11, .assign (.tmp 38), none, true⟩]
theorem k25_r14_e : type_of% (@Eo_of P pr N e σ Q _ _ k25_r14.eq_1) := Eo_of k25_r14.eq_1
def k25_r15 : List COp := [
  ⟨some 40, .binOp .eql 3 (.tmp 18) (.const (.int .i64 9)) 3, none, true⟩,
  ⟨some 39, .assign (.tmp 40), none, true⟩]
theorem k25_r15_e : type_of% (@Eo_of P pr N e σ Q _ _ k25_r15.eq_1) := Eo_of k25_r15.eq_1
def k25_r16 : List COp := [
  ⟨some 41, .move (.tmp 2), none, true⟩,
  ⟨some 11, .assign (.tmp 41), none, true⟩]
theorem k25_r16_e : type_of% (@Eo_of P pr N e σ Q _ _ k25_r16.eq_1) := Eo_of k25_r16.eq_1
def k25_r17 : List COp := [
  ⟨some 43, .binOp .eql 3 (.tmp 18) (.const (.int .i64 11)) 3, none, true⟩,
  ⟨some 42, .assign (.tmp 43), none, true⟩]
theorem k25_r17_e : type_of% (@Eo_of P pr N e σ Q _ _ k25_r17.eq_1) := Eo_of k25_r17.eq_1
def k25_r18 : List COp := [
  ⟨some 11, .assign (.const (.int .i64 1099511627777)), none, true⟩]
theorem k25_r18_e : type_of% (@Eo_of P pr N e σ Q _ _ k25_r18.eq_1) := Eo_of k25_r18.eq_1
def k25_r19 : List COp := [
  ⟨some 45, .binOp .eql 3 (.tmp 18) (.const (.int .i64 12)) 3, none, true⟩,
  ⟨some 44, .assign (.tmp 45), none, true⟩]
theorem k25_r19_e : type_of% (@Eo_of P pr N e σ Q _ _ k25_r19.eq_1) := Eo_of k25_r19.eq_1
def k25_r20 : List COp := [
  ⟨some 10, .assign (.const (.int .i64 3)), none, true⟩,
  ⟨some 11, .assign (.const (.int .i64 14)), none, true⟩]
theorem k25_r20_e : type_of% (@Eo_of P pr N e σ Q _ _ k25_r20.eq_1) := Eo_of k25_r20.eq_1
def k25_r21 : List COp := [
  ⟨some 46, .fieldAddr 39 (.tmp 7) 0, none, true⟩,
  ⟨some 47, .load 3 (.tmp 46), none, true⟩,
  ⟨some 48, .binOp .geq 3 (.tmp 47) (.const (.int .i64 1)) 3, none, true⟩,
  ⟨some 49, .move (.tmp 48), none, true⟩,
  ⟨some 50, .fieldAddr 39 (.tmp 7) 0, some (49, true), true⟩,
  ⟨some 51, .load 3 (.tmp 50), some (49, true), true⟩,
  ⟨some 52, .binOp .leq 3 (.tmp 51) (.const (.int .i64 21)) 3, some (49, true), true⟩,
  ⟨some 53, .pick (.tmp 49) (.tmp 52) (.const (.bool false)), none, true⟩,
  ⟨some 54, .move (.tmp 53), none, true⟩,
  ⟨some 55, .fieldAddr 39 (.tmp 7) 1, some (54, true), true⟩,
  ⟨some 56, .load 3 (.tmp 55), some (54, true), true⟩,
  ⟨some 57, .move (.tmp 10), some (54, true), true⟩,
  ⟨some 58, .binOp .geq 3 (.tmp 56) (.tmp 57) 3, some (54, true), true⟩,
  ⟨some 59, .pick (.tmp 54) (.tmp 58) (.const (.bool false)), none, true⟩,
  ⟨some 60, .move (.tmp 59), none, true⟩,
  ⟨some 61, .fieldAddr 39 (.tmp 7) 1, some (60, true), true⟩,
  ⟨some 62, .load 3 (.tmp 61), some (60, true), true⟩,
  ⟨some 63, .move (.tmp 11), some (60, true), true⟩,
  ⟨some 64, .binOp .lss 3 (.tmp 62) (.tmp 63) 3, some (60, true), true⟩,
  ⟨some 65, .pick (.tmp 60) (.tmp 64) (.const (.bool false)), none, true⟩,
  ⟨some 8, .assign (.tmp 65), none, true⟩]
theorem k25_r21_e : type_of% (@Eo_of P pr N e σ Q _ _ k25_r21.eq_1) := Eo_of k25_r21.eq_1
def k25 : CC := (.seq (.region k25_r0) (.seq (.region k25_r1) (.seq (.region k25_r2) (.seq (.seq (.region k25_r3) (.block 0 (.seq (.region k25_r4) (.cond (.tmp 19) (.region k25_r5) (.seq (.seq (.region k25_r6) (.cond (.tmp 24) .skip (.region k25_r7))) (.cond (.tmp 24) (.region k25_r8) (.seq (.seq (.region k25_r9) (.cond (.tmp 29) .skip (.region k25_r10))) (.cond (.tmp 29) (.region k25_r11) (.seq (.seq (.region k25_r12) (.cond (.tmp 33) .skip (.region k25_r13))) (.cond (.tmp 33) (.region k25_r14) (.seq (.region k25_r15) (.cond (.tmp 39) (.region k25_r16) (.seq (.region k25_r17) (.cond (.tmp 42) (.region k25_r18) (.seq (.region k25_r19) (.cond (.tmp 44) (.region k25_r20) .skip)))))))))))))))) (.seq (.region k25_r21) .ret)))))
theorem k25_e : type_of% (@Ev_of P pr N e σ Q _ _ k25.eq_1) := Ev_of k25.eq_1
theorem k25_a : type_of% @k25_e ∧ type_of% @k25_r0_e ∧ type_of% @k25_r1_e ∧ type_of% @k25_r2_e ∧ type_of% @k25_r3_e ∧ type_of% @k25_r4_e ∧ type_of% @k25_r5_e ∧ type_of% @k25_r6_e ∧ type_of% @k25_r7_e ∧ type_of% @k25_r8_e ∧ type_of% @k25_r9_e ∧ type_of% @k25_r10_e ∧ type_of% @k25_r11_e ∧ type_of% @k25_r12_e ∧ type_of% @k25_r13_e ∧ type_of% @k25_r14_e ∧ type_of% @k25_r15_e ∧ type_of% @k25_r16_e ∧ type_of% @k25_r17_e ∧ type_of% @k25_r18_e ∧ type_of% @k25_r19_e ∧ type_of% @k25_r20_e ∧ type_of% @k25_r21_e := ⟨@k25_e, @k25_r0_e, @k25_r1_e, @k25_r2_e, @k25_r3_e, @k25_r4_e, @k25_r5_e, @k25_r6_e, @k25_r7_e, @k25_r8_e, @k25_r9_e, @k25_r10_e, @k25_r11_e, @k25_r12_e, @k25_r13_e, @k25_r14_e, @k25_r15_e, @k25_r16_e, @k25_r17_e, @k25_r18_e, @k25_r19_e, @k25_r20_e, @k25_r21_e⟩
/-- quern/quernref13.fits -/
theorem k25_is : FnIs Try.prog prims 25 66 [ResultVar.tmp 8] k25 := FnIs.of_fn Try.func25 (by kernel_rfl) rfl
def k26_r0 : List COp := [
  ⟨some 2, .box 25 (.tmp 0), none, true⟩,
  ⟨some 4, .assign (.const (.bool false)), none, true⟩]
theorem k26_r0_e : type_of% (@Eo_of P pr N e σ Q _ _ k26_r0.eq_1) := Eo_of k26_r0.eq_1
def k26_r1 : List COp := [
  ⟨some 16, .fieldAddr 25 (.tmp 2) 1, none, true⟩,
  ⟨some 17, .load 23 (.tmp 16), none, true⟩,
  ⟨some 18, .move (.tmp 1), none, true⟩,
  ⟨some 19, .indexAddr 23 (.tmp 17) (.tmp 18), none, true⟩,
  ⟨some 20, .load 37 (.tmp 19), none, true⟩,
  ⟨some 5, .alloc 37, none, true⟩,
  ⟨none, .store 37 (.tmp 5) (.tmp 20), none, true⟩]
theorem k26_r1_e : type_of% (@Eo_of P pr N e σ Q _ _ k26_r1.eq_1) := Eo_of k26_r1.eq_1
def k26_r2 : CC := (.hreg [
  (false, ⟨some 21, .fieldAddr 37 (.tmp 5) 4, none, true⟩),
  (false, ⟨some 22, .load 35 (.tmp 21), none, true⟩),
  (false, ⟨some 23, .call { callee := .builtin .len, args := #[.tmp 22], argTypes := #[35] }, none, true⟩),
  (true, ⟨some 24, .makeSlice 70 (.tmp 23) (.tmp 23), none, true⟩),
  (false, ⟨some 6, .assign (.tmp 24), none, true⟩)])
theorem k26_r2_e : type_of% (@Ev_of P pr N e σ Q _ _ k26_r2.eq_1) := Ev_of k26_r2.eq_1
def k26_r3 : List COp := [
  ⟨some 25, .move (.tmp 6), none, true⟩,
  ⟨some 26, .call { callee := .builtin .len, args := #[.tmp 25], argTypes := #[70] }, none, true⟩,
  ⟨some 27, .move (.const (.int .i64 0)), none, true⟩]
theorem k26_r3_e : type_of% (@Eo_of P pr N e σ Q _ _ k26_r3.eq_1) := Eo_of k26_r3.eq_1
def k26_r4 : List COp := [
  ⟨some 28, .binOp .lss 3 (.tmp 27) (.tmp 26) 3, none, true⟩]
theorem k26_r4_e : type_of% (@Eo_of P pr N e σ Q _ _ k26_r4.eq_1) := Eo_of k26_r4.eq_1
def k26_r5 : List COp := [
  ⟨some 29, .move (.tmp 27), none, true⟩,
  ⟨some 7, .assign (.tmp 29), none, true⟩]
theorem k26_r5_e : type_of% (@Eo_of P pr N e σ Q _ _ k26_r5.eq_1) := Eo_of k26_r5.eq_1
def k26_r6 : List COp := [
  ⟨some 30, .move (.tmp 6), none, true⟩,
  ⟨some 31, .move (.tmp 7), none, true⟩,
  ⟨some 32, .indexAddr 70 (.tmp 30) (.tmp 31), none, true⟩,
  ⟨none, .store 3 (.tmp 32) (.const (.int .i64 (-1))), none, true⟩]
theorem k26_r6_e : type_of% (@Eo_of P pr N e σ Q _ _ k26_r6.eq_1) := Eo_of k26_r6.eq_1
def k26_r7 : List COp := [
  ⟨some 33, .binOp .add 3 (.tmp 27) (.const (.int .i64 1)) 3, none, true⟩,
  ⟨some 27, .move (.tmp 33), none, true⟩]
theorem k26_r7_e : type_of% (@Eo_of P pr N e σ Q _ _ k26_r7.eq_1) := Eo_of k26_r7.eq_1
def k26_l0 : CC := (.seq (.region k26_r4) (.seq (.cond (.tmp 28) .skip (.exit 0)) (.seq (.block 1 (.seq (.region k26_r5) (.region k26_r6))) (.region k26_r7))))
theorem k26_l0_e : type_of% (@Ev_of P pr N e σ Q _ _ k26_l0.eq_1) := Ev_of k26_l0.eq_1
def k26_r8 : List COp := [
  ⟨some 34, .move (.tmp 6), none, true⟩,
  ⟨some 35, .indexAddr 70 (.tmp 34) (.const (.int .i64 0)), none, true⟩,
  ⟨none, .store 3 (.tmp 35) (.const (.int .i64 0)), none, true⟩]
theorem k26_r8_e : type_of% (@Eo_of P pr N e σ Q _ _ k26_r8.eq_1) := Eo_of k26_r8.eq_1
def k26_r9 : CC := (.hreg [
  (false, ⟨some 36, .fieldAddr 37 (.tmp 5) 4, none, true⟩),
  (false, ⟨some 37, .load 35 (.tmp 36), none, true⟩),
  (false, ⟨some 38, .call { callee := .builtin .len, args := #[.tmp 37], argTypes := #[35] }, none, true⟩),
  (true, ⟨some 39, .makeSlice 73 (.tmp 38) (.tmp 38), none, true⟩),
  (false, ⟨some 8, .assign (.tmp 39), none, true⟩)])
theorem k26_r9_e : type_of% (@Ev_of P pr N e σ Q _ _ k26_r9.eq_1) := Ev_of k26_r9.eq_1
def k26_r10 : List COp := [
  ⟨some 9, .assign (.const (.bool true)), none, true⟩]
theorem k26_r10_e : type_of% (@Eo_of P pr N e σ Q _ _ k26_r10.eq_1) := Eo_of k26_r10.eq_1
def k26_r11 : List COp := [
  ⟨some 40, .move (.tmp 9), none, true⟩]
theorem k26_r11_e : type_of% (@Eo_of P pr N e σ Q _ _ k26_r11.eq_1) := Eo_of k26_r11.eq_1
def k26_r12 : List COp := [
  ⟨some 9, .assign (.const (.bool false)), none, true⟩]
theorem k26_r12_e : type_of% (@Eo_of P pr N e σ Q _ _ k26_r12.eq_1) := Eo_of k26_r12.eq_1
def k26_r13 : List COp := [
  ⟨some 41, .fieldAddr 37 (.tmp 5) 4, none, true⟩,
  ⟨some 42, .load 35 (.tmp 41), none, true⟩,
  ⟨some 43, .call { callee := .builtin .len, args := #[.tmp 42], argTypes := #[35] }, none, true⟩,
  ⟨some 44, .move (.const (.int .i64 0)), none, true⟩]
theorem k26_r13_e : type_of% (@Eo_of P pr N e σ Q _ _ k26_r13.eq_1) := Eo_of k26_r13.eq_1
def k26_r14 : List COp := [
  ⟨some 45, .binOp .lss 3 (.tmp 44) (.tmp 43) 3, none, true⟩]
theorem k26_r14_e : type_of% (@Eo_of P pr N e σ Q _ _ k26_r14.eq_1) := Eo_of k26_r14.eq_1
def k26_r15 : List COp := [
  ⟨some 46, .move (.tmp 44), none, true⟩,
  ⟨some 47, .indexAddr 35 (.tmp 42) (.tmp 44), none, true⟩,
  ⟨some 48, .load 39 (.tmp 47), none, true⟩,
  ⟨some 11, .alloc 39, none, true⟩,
  ⟨some 10, .assign (.tmp 46), none, true⟩,
  ⟨none, .store 39 (.tmp 11) (.tmp 48), none, true⟩]
theorem k26_r15_e : type_of% (@Eo_of P pr N e σ Q _ _ k26_r15.eq_1) := Eo_of k26_r15.eq_1
def k26_r16 : List COp := [
  ⟨some 49, .move (.tmp 6), none, true⟩,
  ⟨some 50, .move (.tmp 10), none, true⟩,
  ⟨some 51, .indexAddr 70 (.tmp 49) (.tmp 50), none, true⟩,
  ⟨some 52, .load 3 (.tmp 51), none, true⟩,
  ⟨some 53, .binOp .lss 3 (.tmp 52) (.const (.int .i64 0)) 3, none, true⟩,
  ⟨some 54, .move (.tmp 53), none, true⟩,
  ⟨some 55, .move (.tmp 8), some (54, false), true⟩,
  ⟨some 56, .move (.tmp 10), some (54, false), true⟩,
  ⟨some 57, .indexAddr 73 (.tmp 55) (.tmp 56), some (54, false), true⟩,
  ⟨some 58, .load 4 (.tmp 57), some (54, false), true⟩,
  ⟨some 59, .pick (.tmp 54) (.const (.bool true)) (.tmp 58), none, true⟩]
theorem k26_r16_e : type_of% (@Eo_of P pr N e σ Q _ _ k26_r16.eq_1) := Eo_of k26_r16.eq_1
def k26_r17 : List COp := [
  ⟨some 60, .move (.tmp 8), none, true⟩,
  ⟨some 61, .move (.tmp 10), none, true⟩,
  ⟨some 62, .indexAddr 73 (.tmp 60) (.tmp 61), none, true⟩,
  ⟨none, .store 4 (.tmp 62) (.const (.bool true)), none, true⟩]
theorem k26_r17_e : type_of% (@Eo_of P pr N e σ Q _ _ k26_r17.eq_1) := Eo_of k26_r17.eq_1
def k26_r18 : List COp := [
  ⟨some 9, .assign (.const (.bool true)), none, true⟩]
theorem k26_r18_e : type_of% (@Eo_of P pr N e σ Q _ _ k26_r18.eq_1) := Eo_of k26_r18.eq_1
def k26_r19 : CC := (.wregion [
  (true, ⟨some 63, .move (.tmp 6), none, false⟩),
  (false, ⟨some 64, .move (.tmp 10), none, false⟩),
  (false, ⟨some 65, .indexAddr 70 (.tmp 63) (.tmp 64), none, false⟩),
  (true, ⟨some 66, .load 3 (.tmp 65), none, false⟩),
  (false, ⟨some 67, .load 25 (.tmp 2), none, false⟩),
  (false, ⟨some 68, .load 39 (.tmp 11), none, true⟩),
  (false, ⟨some 69, .call { callee := .value (.func 46), args := #[.tmp 67, .tmp 68], argTypes := #[25, 39] }, none, true⟩),
  (true, ⟨some 70, .binOp .sub 3 (.tmp 66) (.tmp 69) 3, none, true⟩),
  (false, ⟨some 12, .assign (.tmp 70), none, true⟩)] false [(3, ⟨some 66, .load 3 (.tmp 65), none, false⟩, [0, 7])])
theorem k26_r19_e : type_of% (@Ev_of P pr N e σ Q _ _ k26_r19.eq_1) := Ev_of k26_r19.eq_1
def k26_r20 : List COp := [
  ⟨some 71, .move (.tmp 12), none, true⟩,
  ⟨some 72, .binOp .lss 3 (.tmp 71) (.const (.int .i64 0)) 3, none, true⟩]
theorem k26_r20_e : type_of% (@Eo_of P pr N e σ Q _ _ k26_r20.eq_1) := Eo_of k26_r20.eq_1
def k26_r21 : List COp := [
  ⟨some 4, .assign (.const (.bool false)), none, true⟩]
theorem k26_r21_e : type_of% (@Eo_of P pr N e σ Q _ _ k26_r21.eq_1) := Eo_of k26_r21.eq_1
def k26_r22 : List COp := [
  ⟨some 73, .move (.tmp 12), none, true⟩,
  ⟨some 74, .load 39 (.tmp 11), none, true⟩,
  ⟨some 75, .call { callee := .value (.func 47), args := #[.tmp 74], argTypes := #[39] }, none, true⟩,
  ⟨some 76, .binOp .add 3 (.tmp 73) (.tmp 75) 3, none, true⟩,
  ⟨some 12, .assign (.tmp 76), none, true⟩]
theorem k26_r22_e : type_of% (@Eo_of P pr N e σ Q _ _ k26_r22.eq_1) := Eo_of k26_r22.eq_1
def k26_r23 : List COp := [
  ⟨some 77, .move (.tmp 12), none, true⟩,
  ⟨some 78, .fieldAddr 37 (.tmp 5) 3, none, true⟩,
  ⟨some 79, .load 3 (.tmp 78), none, true⟩,
  ⟨some 80, .binOp .gtr 3 (.tmp 77) (.tmp 79) 3, none, true⟩]
theorem k26_r23_e : type_of% (@Eo_of P pr N e σ Q _ _ k26_r23.eq_1) := Eo_of k26_r23.eq_1
def k26_r24 : List COp := [
  ⟨some 4, .assign (.const (.bool false)), none, true⟩]
theorem k26_r24_e : type_of% (@Eo_of P pr N e σ Q _ _ k26_r24.eq_1) := Eo_of k26_r24.eq_1
def k26_r25 : List COp := [
  ⟨some 13, .assign (.const (.slice .none 0 0)), none, true⟩]
theorem k26_r25_e : type_of% (@Eo_of P pr N e σ Q _ _ k26_r25.eq_1) := Eo_of k26_r25.eq_1
def k26_r26 : List COp := [
  ⟨some 81, .fieldAddr 39 (.tmp 11) 0, none, true⟩,
  ⟨some 82, .load 3 (.tmp 81), none, true⟩,
  ⟨some 83, .binOp .eql 3 (.tmp 82) (.const (.int .i64 7)) 3, none, true⟩,
  ⟨some 84, .move (.tmp 83), none, true⟩,
  ⟨some 85, .fieldAddr 39 (.tmp 11) 0, some (84, false), true⟩,
  ⟨some 86, .load 3 (.tmp 85), some (84, false), true⟩,
  ⟨some 87, .binOp .eql 3 (.tmp 86) (.const (.int .i64 8)) 3, some (84, false), true⟩,
  ⟨some 88, .pick (.tmp 84) (.const (.bool true)) (.tmp 87), none, true⟩]
theorem k26_r26_e : type_of% (@Eo_of P pr N e σ Q _ _ k26_r26.eq_1) := Eo_of k26_r26.eq_1
def k26_r27 : List COp := [
  ⟨some 89, .move (.tmp 13), none, true⟩,
  ⟨some 90, .fieldAddr 39 (.tmp 11) 1, none, true⟩,
  ⟨some 91, .load 3 (.tmp 90), none, true⟩,
  ⟨some 92, .buildSlice 70 1 #[(0, .tmp 91)], none, true⟩,
  ⟨some 93, .call { callee := .builtin .append, args := #[.tmp 89, .tmp 92], argTypes := #[70, 70] }, none, true⟩,
  ⟨some 13, .assign (.tmp 93), none, true⟩]
theorem k26_r27_e : type_of% (@Eo_of P pr N e σ Q _ _ k26_r27.eq_1) := Eo_of k26_r27.eq_1
def k26_r28 : List COp := [
  ⟨some 94, .fieldAddr 39 (.tmp 11) 0, none, true⟩,
  ⟨some 95, .load 3 (.tmp 94), none, true⟩,
  ⟨some 96, .binOp .neq 3 (.tmp 95) (.const (.int .i64 7)) 3, none, true⟩,
  ⟨some 97, .move (.tmp 96), none, true⟩,
  ⟨some 98, .fieldAddr 39 (.tmp 11) 0, some (97, true), true⟩,
  ⟨some 99, .load 3 (.tmp 98), some (97, true), true⟩,
  ⟨some 100, .binOp .neq 3 (.tmp 99) (.const (.int .i64 10)) 3, some (97, true), true⟩,
  ⟨some 101, .pick (.tmp 97) (.tmp 100) (.const (.bool false)), none, true⟩]
theorem k26_r28_e : type_of% (@Eo_of P pr N e σ Q _ _ k26_r28.eq_1) := Eo_of k26_r28.eq_1
def k26_r29 : List COp := [
  ⟨some 102, .move (.tmp 13), none, true⟩,
  ⟨some 103, .move (.tmp 10), none, true⟩,
  ⟨some 104, .binOp .add 3 (.tmp 103) (.const (.int .i64 1)) 3, none, true⟩,
  ⟨some 105, .buildSlice 70 1 #[(0, .tmp 104)], none, true⟩,
  ⟨some 106, .call { callee := .builtin .append, args := #[.tmp 102, .tmp 105], argTypes := #[70, 70] }, none, true⟩,
  ⟨some 13, .assign (.tmp 106), none, true⟩]
theorem k26_r29_e : type_of% (@Eo_of P pr N e σ Q _ _ k26_r29.eq_1) := Eo_of k26_r29.eq_1
def k26_r30 : List COp := [
  ⟨some 107, .move (.tmp 13), none, true⟩,
  ⟨some 108, .call { callee := .builtin .len, args := #[.tmp 107], argTypes := #[70] }, none, true⟩,
  ⟨some 109, .move (.const (.int .i64 0)), none, true⟩]
theorem k26_r30_e : type_of% (@Eo_of P pr N e σ Q _ _ k26_r30.eq_1) := Eo_of k26_r30.eq_1
def k26_r31 : List COp := [
  ⟨some 110, .binOp .lss 3 (.tmp 109) (.tmp 108) 3, none, true⟩]
theorem k26_r31_e : type_of% (@Eo_of P pr N e σ Q _ _ k26_r31.eq_1) := Eo_of k26_r31.eq_1
def k26_r32 : List COp := [
  ⟨some 111, .indexAddr 70 (.tmp 107) (.tmp 109), none, true⟩,
  ⟨some 112, .load 3 (.tmp 111), none, true⟩,
  ⟨some 15, .assign (.tmp 112), none, true⟩]
theorem k26_r32_e : type_of% (@Eo_of P pr N e σ Q _ _ k26_r32.eq_1) := Eo_of k26_r32.eq_1
def k26_r33 : List COp := [
  ⟨some 113, .move (.tmp 15), none, true⟩,
  ⟨some 114, .fieldAddr 37 (.tmp 5) 4, none, true⟩,
  ⟨some 115, .load 35 (.tmp 114), none, true⟩,
  ⟨some 116, .call { callee := .builtin .len, args := #[.tmp 115], argTypes := #[35] }, none, true⟩,
  ⟨some 117, .binOp .geq 3 (.tmp 113) (.tmp 116) 3, none, true⟩,
  ⟨some 118, .move (.tmp 117), none, true⟩,
  ⟨some 119, .move (.tmp 6), some (118, false), true⟩,
  ⟨some 120, .move (.tmp 15), some (118, false), true⟩,
  ⟨some 121, .indexAddr 70 (.tmp 119) (.tmp 120), some (118, false), true⟩,
  ⟨some 122, .load 3 (.tmp 121), some (118, false), true⟩,
  ⟨some 123, .binOp .geq 3 (.tmp 122) (.const (.int .i64 0)) 3, some (118, false), true⟩,
  ⟨some 124, .move (.tmp 123), some (118, false), true⟩,
  ⟨some 125, .move (.tmp 6), some (124, true), true⟩,
  ⟨some 126, .move (.tmp 15), some (124, true), true⟩,
  ⟨some 127, .indexAddr 70 (.tmp 125) (.tmp 126), some (124, true), true⟩,
  ⟨some 128, .load 3 (.tmp 127), some (124, true), true⟩,
  ⟨some 129, .move (.tmp 12), some (124, true), true⟩,
  ⟨some 130, .binOp .neq 3 (.tmp 128) (.tmp 129) 3, some (124, true), true⟩,
  ⟨some 131, .pick (.tmp 124) (.tmp 130) (.const (.bool false)), some (118, false), true⟩,
  ⟨some 132, .pick (.tmp 118) (.const (.bool true)) (.tmp 131), none, true⟩]
theorem k26_r33_e : type_of% (@Eo_of P pr N e σ Q _ _ k26_r33.eq_1) := Eo_of k26_r33.eq_1
def k26_r34 : List COp := [
  ⟨some 4, .assign (.const (.bool false)), none, true⟩]
theorem k26_r34_e : type_of% (@Eo_of P pr N e σ Q _ _ k26_r34.eq_1) := Eo_of k26_r34.eq_1
def k26_r35 : List COp := [
  ⟨some 133, .move (.tmp 6), none, true⟩,
  ⟨some 134, .move (.tmp 15), none, true⟩,
  ⟨some 135, .move (.tmp 12), none, true⟩,
  ⟨some 136, .indexAddr 70 (.tmp 133) (.tmp 134), none, true⟩,
  ⟨none, .store 3 (.tmp 136) (.tmp 135), none, true⟩]
theorem k26_r35_e : type_of% (@Eo_of P pr N e σ Q _ _ k26_r35.eq_1) := Eo_of k26_r35.eq_1
def k26_r36 : List COp := [
  ⟨some 137, .binOp .add 3 (.tmp 109) (.const (.int .i64 1)) 3, none, true⟩,
  ⟨some 109, .move (.tmp 137), none, true⟩]
theorem k26_r36_e : type_of% (@Eo_of P pr N e σ Q _ _ k26_r36.eq_1) := Eo_of k26_r36.eq_1
def k26_l3 : CC := (.seq (.region k26_r31) (.seq (.cond (.tmp 110) .skip (.exit 6)) (.seq (.block 7 (.seq (.region k26_r32) (.seq (.seq (.region k26_r33) (.cond (.tmp 132) (.seq (.region k26_r34) .ret) .skip)) (.region k26_r35)))) (.region k26_r36))))
theorem k26_l3_e : type_of% (@Ev_of P pr N e σ Q _ _ k26_l3.eq_1) := Ev_of k26_l3.eq_1
def k26_r37 : List COp := [
  ⟨some 138, .binOp .add 3 (.tmp 44) (.const (.int .i64 1)) 3, none, true⟩,
  ⟨some 44, .move (.tmp 138), none, true⟩]
theorem k26_r37_e : type_of% (@Eo_of P pr N e σ Q _ _ k26_r37.eq_1) := Eo_of k26_r37.eq_1
def k26_l2 : CC := (.seq (.region k26_r14) (.seq (.cond (.tmp 45) .skip (.exit 4)) (.seq (.block 5 (.seq (.region k26_r15) (.seq (.seq (.region k26_r16) (.cond (.tmp 59) (.exit 5) .skip)) (.seq (.region k26_r17) (.seq (.region k26_r18) (.seq k26_r19 (.seq (.seq (.region k26_r20) (.cond (.tmp 72) (.seq (.region k26_r21) .ret) .skip)) (.seq (.region k26_r22) (.seq (.seq (.region k26_r23) (.cond (.tmp 80) (.seq (.region k26_r24) .ret) .skip)) (.seq (.region k26_r25) (.seq (.seq (.region k26_r26) (.cond (.tmp 88) (.region k26_r27) .skip)) (.seq (.seq (.region k26_r28) (.cond (.tmp 101) (.region k26_r29) .skip)) (.seq (.region k26_r30) (.block 6 (.loop k26_l3))))))))))))))) (.region k26_r37))))
theorem k26_l2_e : type_of% (@Ev_of P pr N e σ Q _ _ k26_l2.eq_1) := Ev_of k26_l2.eq_1
def k26_l1 : CC := (.seq (.seq (.region k26_r11) (.cond (.tmp 40) .skip (.exit 2))) (.block 3 (.seq (.region k26_r12) (.seq (.region k26_r13) (.block 4 (.loop k26_l2))))))
theorem k26_l1_e : type_of% (@Ev_of P pr N e σ Q _ _ k26_l1.eq_1) := Ev_of k26_l1.eq_1
def k26_r38 : List COp := [
  ⟨some 4, .assign (.const (.bool true)), none, true⟩]
theorem k26_r38_e : type_of% (@Eo_of P pr N e σ Q _ _ k26_r38.eq_1) := Eo_of k26_r38.eq_1
def k26 : CC := (.seq (.region k26_r0) (.seq (.region k26_r1) (.seq k26_r2 (.seq (.seq (.region k26_r3) (.block 0 (.loop k26_l0))) (.seq (.region k26_r8) (.seq k26_r9 (.seq (.seq (.region k26_r10) (.block 2 (.loop k26_l1))) (.seq (.region k26_r38) .ret))))))))
theorem k26_e : type_of% (@Ev_of P pr N e σ Q _ _ k26.eq_1) := Ev_of k26.eq_1
theorem k26_a : type_of% @k26_e ∧ type_of% @k26_r0_e ∧ type_of% @k26_r1_e ∧ type_of% @k26_r2_e ∧ type_of% @k26_r3_e ∧ type_of% @k26_r4_e ∧ type_of% @k26_r5_e ∧ type_of% @k26_r6_e ∧ type_of% @k26_r7_e ∧ type_of% @k26_l0_e ∧ type_of% @k26_r8_e ∧ type_of% @k26_r9_e ∧ type_of% @k26_r10_e ∧ type_of% @k26_r11_e ∧ type_of% @k26_r12_e ∧ type_of% @k26_r13_e ∧ type_of% @k26_r14_e ∧ type_of% @k26_r15_e ∧ type_of% @k26_r16_e ∧ type_of% @k26_r17_e ∧ type_of% @k26_r18_e ∧ type_of% @k26_r19_e ∧ type_of% @k26_r20_e ∧ type_of% @k26_r21_e ∧ type_of% @k26_r22_e ∧ type_of% @k26_r23_e ∧ type_of% @k26_r24_e ∧ type_of% @k26_r25_e ∧ type_of% @k26_r26_e ∧ type_of% @k26_r27_e ∧ type_of% @k26_r28_e ∧ type_of% @k26_r29_e ∧ type_of% @k26_r30_e ∧ type_of% @k26_r31_e ∧ type_of% @k26_r32_e ∧ type_of% @k26_r33_e ∧ type_of% @k26_r34_e ∧ type_of% @k26_r35_e ∧ type_of% @k26_r36_e ∧ type_of% @k26_l3_e ∧ type_of% @k26_r37_e ∧ type_of% @k26_l2_e ∧ type_of% @k26_l1_e ∧ type_of% @k26_r38_e := ⟨@k26_e, @k26_r0_e, @k26_r1_e, @k26_r2_e, @k26_r3_e, @k26_r4_e, @k26_r5_e, @k26_r6_e, @k26_r7_e, @k26_l0_e, @k26_r8_e, @k26_r9_e, @k26_r10_e, @k26_r11_e, @k26_r12_e, @k26_r13_e, @k26_r14_e, @k26_r15_e, @k26_r16_e, @k26_r17_e, @k26_r18_e, @k26_r19_e, @k26_r20_e, @k26_r21_e, @k26_r22_e, @k26_r23_e, @k26_r24_e, @k26_r25_e, @k26_r26_e, @k26_r27_e, @k26_r28_e, @k26_r29_e, @k26_r30_e, @k26_r31_e, @k26_r32_e, @k26_r33_e, @k26_r34_e, @k26_r35_e, @k26_r36_e, @k26_l3_e, @k26_r37_e, @k26_l2_e, @k26_l1_e, @k26_r38_e⟩
/-- quern/quernref13.walk -/
theorem k26_is : FnIs Try.prog prims 26 139 [ResultVar.tmp 4] k26 := FnIs.of_fn Try.func26 (by kernel_rfl) rfl
def k28_r0 : List COp := [
  ⟨some 4, .assign (.const (.slice .none 0 0)), none, true⟩]
theorem k28_r0_e : type_of% (@Eo_of P pr N e σ Q _ _ k28_r0.eq_1) := Eo_of k28_r0.eq_1
def k28_r1 : List COp := [
  ⟨some 5, .move (.tmp 0), none, true⟩,
  ⟨some 6, .move (.tmp 1), none, true⟩,
  ⟨some 7, .call { callee := .value (.func 49), args := #[.tmp 5, .tmp 6], argTypes := #[41, 70] }, none, true⟩,
  ⟨some 4, .assign (.tmp 7), none, true⟩]
theorem k28_r1_e : type_of% (@Eo_of P pr N e σ Q _ _ k28_r1.eq_1) := Eo_of k28_r1.eq_1
def k28 : CC := (.seq (.region k28_r0) (.seq (.region k28_r1) .ret))
theorem k28_e : type_of% (@Ev_of P pr N e σ Q _ _ k28.eq_1) := Ev_of k28.eq_1
theorem k28_a : type_of% @k28_e ∧ type_of% @k28_r0_e ∧ type_of% @k28_r1_e := ⟨@k28_e, @k28_r0_e, @k28_r1_e⟩
/-- quern/code.numbers -/
theorem k28_is : FnIs Try.prog prims 28 8 [ResultVar.tmp 4] k28 := FnIs.of_fn Try.func28 (by kernel_rfl) rfl
def k45_r0 : List COp := [
  ⟨some 2, .box 25 (.tmp 0), none, true⟩,
  ⟨some 3, .box 39 (.tmp 1), none, true⟩,
  ⟨some 4, .assign (.const (.int .i64 0)), none, true⟩,
  ⟨some 5, .assign (.const (.int .i64 0)), none, true⟩]
theorem k45_r0_e : type_of% (@Eo_of P pr N e σ Q _ _ k45_r0.eq_1) := Eo_of k45_r0.eq_1
def k45_r1 : List COp := [
  ⟨some 6, .fieldAddr 39 (.tmp 3) 0, none, true⟩,
  ⟨some 7, .load 3 (.tmp 6), none, true⟩]
theorem k45_r1_e : type_of% (@Eo_of P pr N e σ Q _ _ k45_r1.eq_1) := Eo_of k45_r1.eq_1
def k45_r2 : List COp := [
  ⟨some 9, .binOp .eql 3 (.tmp 7) (.const (.int .i64 1)) 3, none, true⟩,
  ⟨some 8, .assign (.tmp 9), none, true⟩]
theorem k45_r2_e : type_of% (@Eo_of P pr N e σ Q _ _ k45_r2.eq_1) := Eo_of k45_r2.eq_1
def k45_r3 : List COp := [
  ⟨some 10, .binOp .eql 3 (.tmp 7) (.const (.int .i64 2)) 3, none, true⟩,
  ⟨some 8, .assign (.tmp 10), none, true⟩]
theorem k45_r3_e : type_of% (@Eo_of P pr N e σ Q _ _ k45_r3.eq_1) := Eo_of k45_r3.eq_1
def k45_r4 : List COp := [
  ⟨some 11, .binOp .eql 3 (.tmp 7) (.const (.int .i64 4)) 3, none, true⟩,
  ⟨some 8, .assign (.tmp 11), none, true⟩]
theorem k45_r4_e : type_of% (@Eo_of P pr N e σ Q _ _ k45_r4.eq_1) := Eo_of k45_r4.eq_1
def k45_r5 : List COp := [
  ⟨some 4, .assign (.const (.int .i64 0)), none, true⟩,
  ⟨some 5, .assign (.const (.int .i64 1)), none, true⟩]
theorem k45_r5_e : type_of% (@Eo_of P pr N e σ Q _ _ k45_r5.eq_1) := Eo_of k45_r5.eq_1
def k45_r6 : List COp := [
  ⟨some 13, .binOp .eql 3 (.tmp 7) (.const (.int .i64 3)) 3, none, true⟩,
  ⟨some 12, .assign (.tmp 13), none, true⟩]
theorem k45_r6_e : type_of% (@Eo_of P pr N e σ Q _ _ k45_r6.eq_1) := Eo_of k45_r6.eq_1
def k45_r7 : List COp := [
  ⟨some 14, .binOp .eql 3 (.tmp 7) (.const (.int .i64 5)) 3, none, true⟩,
  ⟨some 12, .assign (.tmp 14), none, true⟩]
theorem k45_r7_e : type_of% (@Eo_of P pr N e σ Q _ _ k45_r7.eq_1) := Eo_of k45_r7.eq_1
def k45_r8 : List COp := [
  ⟨some 15, .binOp .eql 3 (.tmp 7) (.const (.int .i64 6)) 3, none, true⟩,
  ⟨some 12, .assign (.tmp 15), none, true⟩]
theorem k45_r8_e : type_of% (@Eo_of P pr N e σ Q _ _ k45_r8.eq_1) := Eo_of k45_r8.eq_1
def k45_r9 : List COp := [
  ⟨some 16, .binOp .eql 3 (.tmp 7) (.const (.int .i64 8)) 3, none, true⟩,
  ⟨some 12, .assign (.tmp 16), none, true⟩]
theorem k45_r9_e : type_of% (@Eo_of P pr N e σ Q _ _ k45_r9.eq_1) := Eo_of k45_r9.eq_1
def k45_r10 : List COp := [
  ⟨some 17, .binOp .eql 3 (.tmp 7) (.const (.int .i64 10)) 3, none, true⟩,
  ⟨some 12, .assign (.tmp 17), none, true⟩]
theorem k45_r10_e : type_of% (@Eo_of P pr N e σ Q _ _ k45_r10.eq_1) := Eo_of k45_r10.eq_1
def k45_r11 : List COp := [
  ⟨some 4, .assign (.const (.int .i64 1)), none, true⟩,
  ⟨some 5, .assign (.const (.int .i64 0)), none, true⟩]
theorem k45_r11_e : type_of% (@Eo_of P pr N e σ Q _ _ k45_r11.eq_1) := Eo_of k45_r11.eq_1
def k45_r12 : List COp := [
  ⟨some 19, .binOp .eql 3 (.tmp 7) (.const (.int .i64 9)) 3, none, true⟩,
  ⟨some 18, .assign (.tmp 19), none, true⟩]
theorem k45_r12_e : type_of% (@Eo_of P pr N e σ Q _ _ k45_r12.eq_1) := Eo_of k45_r12.eq_1
def k45_r13 : List COp := [
  ⟨some 20, .fieldAddr 25 (.tmp 2) 1, none, true⟩,
  ⟨some 21, .load 23 (.tmp 20), none, true⟩,
  ⟨some 22, .fieldAddr 39 (.tmp 3) 1, none, true⟩,
  ⟨some 23, .load 3 (.tmp 22), none, true⟩,
  ⟨some 24, .indexAddr 23 (.tmp 21) (.tmp 23), none, true⟩,
  ⟨some 25, .fieldAddr 37 (.tmp 24) 0, none, true⟩,
  ⟨some 26, .load 3 (.tmp 25), none, true⟩,
  ⟨some 4, .assign (.tmp 26), none, true⟩,
  ⟨some 5, .assign (.const (.int .i64 1)), none, true⟩]
theorem k45_r13_e : type_of% (@Eo_of P pr N e σ Q _ _ k45_r13.eq_1) := Eo_of k45_r13.eq_1
def k45_r14 : List COp := [
  ⟨some 28, .binOp .eql 3 (.tmp 7) (.const (.int .i64 13)) 3, none, true⟩,
  ⟨some 27, .assign (.tmp 28), none, true⟩]
theorem k45_r14_e : type_of% (@Eo_of P pr N e σ Q _ _ k45_r14.eq_1) := Eo_of k45_r14.eq_1
def k45_r15 : List COp := [
  ⟨some 29, .binOp .eql 3 (.tmp 7) (.const (.int .i64 14)) 3, none, true⟩,
  ⟨some 27, .assign (.tmp 29), none, true⟩]
theorem k45_r15_e : type_of% (@Eo_of P pr N e σ Q _ _ k45_r15.eq_1) := Eo_of k45_r15.eq_1
def k45_r16 : List COp := [
  ⟨some 30, .binOp .eql 3 (.tmp 7) (.const (.int .i64 15)) 3, none, true⟩,
  ⟨some 27, .assign (.tmp 30), none, true⟩]
theorem k45_r16_e : type_of% (@Eo_of P pr N e σ Q _ _ k45_r16.eq_1) := Eo_of k45_r16.eq_1
def k45_r17 : List COp := [
  ⟨some 31, .binOp .eql 3 (.tmp 7) (.const (.int .i64 16)) 3, none, true⟩,
  ⟨some 27, .assign (.tmp 31), none, true⟩]
theorem k45_r17_e : type_of% (@Eo_of P pr N e σ Q _ _ k45_r17.eq_1) := Eo_of k45_r17.eq_1
def k45_r18 : List COp := [
  ⟨some 4, .assign (.const (.int .i64 1)), none, true⟩,
  ⟨some 5, .assign (.const (.int .i64 1)), none, true⟩]
theorem k45_r18_e : type_of% (@Eo_of P pr N e σ Q _ _ k45_r18.eq_1) := Eo_of k45_r18.eq_1
def k45_r19 : List COp := [
  ⟨some 33, .binOp .eql 3 (.tmp 7) (.const (.int .i64 12)) 3, none, true⟩,
  ⟨some 32, .assign (.tmp 33), none, true⟩]
theorem k45_r19_e : type_of% (@Eo_of P pr N e σ Q _ _ k45_r19.eq_1) := Eo_of k45_r19.eq_1
def k45_r20 : List COp := [
  ⟨some 34, .binOp .eql 3 (.tmp 7) (.const (.int .i64 17)) 3, none, true⟩,
  ⟨some 32, .assign (.tmp 34), none, true⟩]
theorem k45_r20_e : type_of% (@Eo_of P pr N e σ Q _ _ k45_r20.eq_1) := Eo_of k45_r20.eq_1
def k45_r21 : List COp := [
  ⟨some 35, .binOp .eql 3 (.tmp 7) (.const (.int .i64 18)) 3, none, true⟩,
  ⟨some 32, .assign (.tmp 35), none, true⟩]
theorem k45_r21_e : type_of% (@Eo_of P pr N e σ Q _ _ k45_r21.eq_1) := Eo_of k45_r21.eq_1
def k45_r22 : List COp := [
  ⟨some 36, .binOp .eql 3 (.tmp 7) (.const (.int .i64 19)) 3, none, true⟩,
  ⟨some 32, .assign (.tmp 36), none, true⟩]
theorem k45_r22_e : type_of% (@Eo_of P pr N e σ Q _ _ k45_r22.eq_1) := Eo_of k45_r22.eq_1
def k45_r23 : List COp := [
  ⟨some 37, .binOp .eql 3 (.tmp 7) (.const (.int .i64 21)) 3, none, true⟩,
  ⟨some 32, .assign (.tmp 37), none, true⟩]
theorem k45_r23_e : type_of% (@Eo_of P pr N e σ Q _ _ k45_r23.eq_1) := Eo_of k45_r23.eq_1
def k45_r24 : List COp := [
  ⟨some 4, .assign (.const (.int .i64 2)), none, true⟩,
  ⟨some 5, .assign (.const (.int .i64 1)), none, true⟩]
theorem k45_r24_e : type_of% (@Eo_of P pr N e σ Q _ _ k45_r24.eq_1) := Eo_of k45_r24.eq_1
def k45_r25 : List COp := [
  ⟨some 39, .binOp .eql 3 (.tmp 7) (.const (.int .i64 20)) 3, none, true⟩,
  ⟨some 38, .assign (.tmp 39), none, true⟩]
theorem k45_r25_e : type_of% (@Eo_of P pr N e σ Q _ _ k45_r25.eq_1) := Eo_of k45_r25.eq_1
def k45_r26 : List COp := [
  ⟨some 4, .assign (.const (.int .i64 3)), none, true⟩,
  ⟨some 5, .assign (.const (.int .i64 1)), none, true⟩]
theorem k45_r26_e : type_of% (@Eo_of P pr N e σ Q _ _ k45_r26.eq_1) := Eo_of k45_r26.eq_1
def k45_r27 : List COp := [
  ⟨some 4, .assign (.const (.int .i64 0)), none, true⟩,
  ⟨some 5, .assign (.const (.int .i64 0)), none, true⟩]
theorem k45_r27_e : type_of% (@Eo_of P pr N e σ Q _ _ k45_r27.eq_1) := Eo_of k45_r27.eq_1
def k45 : CC := (.seq (.region k45_r0) (.seq (.seq (.region k45_r1) (.block 0 (.seq (.seq (.region k45_r2) (.cond (.tmp 8) .skip (.seq (.region k45_r3) (.cond (.tmp 8) .skip (.region k45_r4))))) (.cond (.tmp 8) (.seq (.region k45_r5) .ret) (.seq (.seq (.region k45_r6) (.cond (.tmp 12) .skip (.seq (.region k45_r7) (.cond (.tmp 12) .skip (.seq (.region k45_r8) (.cond (.tmp 12) .skip (.seq (.region k45_r9) (.cond (.tmp 12) .skip (.region k45_r10))))))))) (.cond (.tmp 12) (.seq (.region k45_r11) .ret) (.seq (.region k45_r12) (.cond (.tmp 18) (.seq (.region k45_r13) .ret) (.seq (.seq (.region k45_r14) (.cond (.tmp 27) .skip (.seq (.region k45_r15) (.cond (.tmp 27) .skip (.seq (.region k45_r16) (.cond (.tmp 27) .skip (.region k45_r17))))))) (.cond (.tmp 27) (.seq (.region k45_r18) .ret) (.seq (.seq (.region k45_r19) (.cond (.tmp 32) .skip (.seq (.region k45_r20) (.cond (.tmp 32) .skip (.seq (.region k45_r21) (.cond (.tmp 32) .skip (.seq (.region k45_r22) (.cond (.tmp 32) .skip (.region k45_r23))))))))) (.cond (.tmp 32) (.seq (.region k45_r24) .ret) (.seq (.region k45_r25) (.cond (.tmp 38) (.seq (.region k45_r26) .ret) .skip)))))))))))))) (.seq (.region k45_r27) .ret)))
theorem k45_e : type_of% (@Ev_of P pr N e σ Q _ _ k45.eq_1) := Ev_of k45.eq_1
theorem k45_a : type_of% @k45_e ∧ type_of% @k45_r0_e ∧ type_of% @k45_r1_e ∧ type_of% @k45_r2_e ∧ type_of% @k45_r3_e ∧ type_of% @k45_r4_e ∧ type_of% @k45_r5_e ∧ type_of% @k45_r6_e ∧ type_of% @k45_r7_e ∧ type_of% @k45_r8_e ∧ type_of% @k45_r9_e ∧ type_of% @k45_r10_e ∧ type_of% @k45_r11_e ∧ type_of% @k45_r12_e ∧ type_of% @k45_r13_e ∧ type_of% @k45_r14_e ∧ type_of% @k45_r15_e ∧ type_of% @k45_r16_e ∧ type_of% @k45_r17_e ∧ type_of% @k45_r18_e ∧ type_of% @k45_r19_e ∧ type_of% @k45_r20_e ∧ type_of% @k45_r21_e ∧ type_of% @k45_r22_e ∧ type_of% @k45_r23_e ∧ type_of% @k45_r24_e ∧ type_of% @k45_r25_e ∧ type_of% @k45_r26_e ∧ type_of% @k45_r27_e := ⟨@k45_e, @k45_r0_e, @k45_r1_e, @k45_r2_e, @k45_r3_e, @k45_r4_e, @k45_r5_e, @k45_r6_e, @k45_r7_e, @k45_r8_e, @k45_r9_e, @k45_r10_e, @k45_r11_e, @k45_r12_e, @k45_r13_e, @k45_r14_e, @k45_r15_e, @k45_r16_e, @k45_r17_e, @k45_r18_e, @k45_r19_e, @k45_r20_e, @k45_r21_e, @k45_r22_e, @k45_r23_e, @k45_r24_e, @k45_r25_e, @k45_r26_e, @k45_r27_e⟩
/-- quern/code.effect -/
theorem k45_is : FnIs Try.prog prims 45 40 [ResultVar.tmp 4, ResultVar.tmp 5] k45 := FnIs.of_fn Try.func45 (by kernel_rfl) rfl
def k46_r0 : List COp := [
  ⟨some 2, .box 25 (.tmp 0), none, true⟩,
  ⟨some 3, .box 39 (.tmp 1), none, true⟩,
  ⟨some 4, .assign (.const (.int .i64 0)), none, true⟩]
theorem k46_r0_e : type_of% (@Eo_of P pr N e σ Q _ _ k46_r0.eq_1) := Eo_of k46_r0.eq_1
def k46_r1 : List COp := [
  ⟨some 5, .fieldAddr 39 (.tmp 3) 0, none, true⟩,
  ⟨some 6, .load 3 (.tmp 5), none, true⟩]
theorem k46_r1_e : type_of% (@Eo_of P pr N e σ Q _ _ k46_r1.eq_1) := Eo_of k46_r1.eq_1
def k46_r2 : List COp := [
  ⟨some 8, .binOp .eql 3 (.tmp 6) (.const (.int .i64 3)) 3, none, true⟩,
  ⟨some 7, .assign (.tmp 8), none, true⟩]
theorem k46_r2_e : type_of% (@Eo_of P pr N e σ Q _ _ k46_r2.eq_1) := Eo_of k46_r2.eq_1
def k46_r3 : List COp := [
  ⟨some 9, .binOp .eql 3 (.tmp 6) (.const (.int .i64 5)) 3, none, true⟩,
  ⟨some 7, .assign (.tmp 9), none, true⟩]
theorem k46_r3_e : type_of% (@Eo_of P pr N e σ Q _ _ k46_r3.eq_1) := Eo_of k46_r3.eq_1
def k46_r4 : List COp := [
  ⟨some 10, .binOp .eql 3 (.tmp 6) (.const (.int .i64 6)) 3, none, true⟩,
  ⟨some 7, .assign (.tmp 10), none, true⟩]
theorem k46_r4_e : type_of% (@Eo_of P pr N e σ Q _ _ k46_r4.eq_1) := Eo_of k46_r4.eq_1
def k46_r5 : List COp := [
  ⟨some 11, .binOp .eql 3 (.tmp 6) (.const (.int .i64 8)) 3, none, true⟩,
  ⟨some 7, .assign (.tmp 11), none, true⟩]
theorem k46_r5_e : type_of% (@Eo_of P pr N e σ Q _ _ k46_r5.eq_1) := Eo_of k46_r5.eq_1
def k46_r6 : List COp := [
  ⟨some 12, .binOp .eql 3 (.tmp 6) (.const (.int .i64 10)) 3, none, true⟩,
  ⟨some 7, .assign (.tmp 12), none, true⟩]
theorem k46_r6_e : type_of% (@Eo_of P pr N e σ Q _ _ k46_r6.eq_1) := Eo_of k46_r6.eq_1
def k46_r7 : List COp := [
  ⟨some 13, .binOp .eql 3 (.tmp 6) (.const (.int .i64 13)) 3, none, true⟩,
  ⟨some 7, .assign (.tmp 13), none, true⟩]
theorem k46_r7_e : type_of% (@Eo_of P pr N e σ Q _ _ k46_r7.eq_1) := Eo_of k46_r7.eq_1
def k46_r8 : List COp := [
  ⟨some 14, .binOp .eql 3 (.tmp 6) (.const (.int .i64 14)) 3, none, true⟩,
  ⟨some 7, .assign (.tmp 14), none, true⟩]
theorem k46_r8_e : type_of% (@Eo_of P pr N e σ Q _ _ k46_r8.eq_1) := Eo_of k46_r8.eq_1
def k46_r9 : List COp := [
  ⟨some 15, .binOp .eql 3 (.tmp 6) (.const (.int .i64 15)) 3, none, true⟩,
  ⟨some 7, .assign (.tmp 15), none, true⟩]
theorem k46_r9_e : type_of% (@Eo_of P pr N e σ Q _ _ k46_r9.eq_1) := Eo_of k46_r9.eq_1
def k46_r10 : List COp := [
  ⟨some 16, .binOp .eql 3 (.tmp 6) (.const (.int .i64 16)) 3, none, true⟩,
  ⟨some 7, .assign (.tmp 16), none, true⟩]
theorem k46_r10_e : type_of% (@Eo_of P pr N e σ Q _ _ k46_r10.eq_1) := Eo_of k46_r10.eq_1
def k46_r11 : List COp := [
  ⟨some 4, .assign (.const (.int .i64 1)), none, true⟩]
theorem k46_r11_e : type_of% (@Eo_of P pr N e σ Q _ _ k46_r11.eq_1) := Eo_of k46_r11.eq_1
def k46_r12 : List COp := [
  ⟨some 18, .binOp .eql 3 (.tmp 6) (.const (.int .i64 12)) 3, none, true⟩,
  ⟨some 17, .assign (.tmp 18), none, true⟩]
theorem k46_r12_e : type_of% (@Eo_of P pr N e σ Q _ _ k46_r12.eq_1) := Eo_of k46_r12.eq_1
def k46_r13 : List COp := [
  ⟨some 19, .binOp .eql 3 (.tmp 6) (.const (.int .i64 17)) 3, none, true⟩,
  ⟨some 17, .assign (.tmp 19), none, true⟩]
theorem k46_r13_e : type_of% (@Eo_of P pr N e σ Q _ _ k46_r13.eq_1) := Eo_of k46_r13.eq_1
def k46_r14 : List COp := [
  ⟨some 20, .binOp .eql 3 (.tmp 6) (.const (.int .i64 18)) 3, none, true⟩,
  ⟨some 17, .assign (.tmp 20), none, true⟩]
theorem k46_r14_e : type_of% (@Eo_of P pr N e σ Q _ _ k46_r14.eq_1) := Eo_of k46_r14.eq_1
def k46_r15 : List COp := [
  ⟨some 21, .binOp .eql 3 (.tmp 6) (.const (.int .i64 19)) 3, none, true⟩,
  ⟨some 17, .assign (.tmp 21), none, true⟩]
theorem k46_r15_e : type_of% (@Eo_of P pr N e σ Q _ _ k46_r15.eq_1) := Eo_of k46_r15.eq_1
def k46_r16 : List COp := [
  ⟨some 22, .binOp .eql 3 (.tmp 6) (.const (.int .i64 21)) 3, none, true⟩,
  ⟨some 17, .assign (.tmp 22), none, true⟩]
theorem k46_r16_e : type_of% (@Eo_of P pr N e σ Q _ _ k46_r16.eq_1) := Eo_of k46_r16.eq_1
def k46_r17 : List COp := [
  ⟨some 4, .assign (.const (.int .i64 2)), none, true⟩]
theorem k46_r17_e : type_of% (@Eo_of P pr N e σ Q _ _ k46_r17.eq_1) := Eo_of k46_r17.eq_1
def k46_r18 : List COp := [
  ⟨some 24, .binOp .eql 3 (.tmp 6) (.const (.int .i64 20)) 3, none, true⟩,
  ⟨some 23, .assign (.tmp 24), none, true⟩]
theorem k46_r18_e : type_of% (@Eo_of P pr N e σ Q _ _ k46_r18.eq_1) := Eo_of k46_r18.eq_1
def k46_r19 : List COp := [
  ⟨some 4, .assign (.const (.int .i64 3)), none, true⟩]
theorem k46_r19_e : type_of% (@Eo_of P pr N e σ Q _ _ k46_r19.eq_1) := Eo_of k46_r19.eq_1
def k46_r20 : List COp := [
  ⟨some 26, .binOp .eql 3 (.tmp 6) (.const (.int .i64 9)) 3, none, true⟩,
  ⟨some 25, .assign (.tmp 26), none, true⟩]
theorem k46_r20_e : type_of% (@Eo_of P pr N e σ Q _ _ k46_r20.eq_1) := Eo_of k46_r20.eq_1
def k46_r21 : List COp := [
  ⟨some 27, .fieldAddr 25 (.tmp 2) 1, none, true⟩,
  ⟨some 28, .load 23 (.tmp 27), none, true⟩,
  ⟨some 29, .fieldAddr 39 (.tmp 3) 1, none, true⟩,
  ⟨some 30, .load 3 (.tmp 29), none, true⟩,
  ⟨some 31, .indexAddr 23 (.tmp 28) (.tmp 30), none, true⟩,
  ⟨some 32, .fieldAddr 37 (.tmp 31) 0, none, true⟩,
  ⟨some 33, .load 3 (.tmp 32), none, true⟩,
  ⟨some 4, .assign (.tmp 33), none, true⟩]
theorem k46_r21_e : type_of% (@Eo_of P pr N e σ Q _ _ k46_r21.eq_1) := Eo_of k46_r21.eq_1
def k46_r22 : List COp := [
  ⟨some 4, .assign (.const (.int .i64 0)), none, true⟩]
theorem k46_r22_e : type_of% (@Eo_of P pr N e σ Q _ _ k46_r22.eq_1) := Eo_of k46_r22.eq_1
def k46 : CC := (.seq (.region k46_r0) (.seq (.seq (.region k46_r1) (.block 0 (.seq (.seq (.region k46_r2) (.cond (.tmp 7) .skip (.seq (.region k46_r3) (.cond (.tmp 7) .skip (.seq (.region k46_r4) (.cond (.tmp 7) .skip (.seq (.region k46_r5) (.cond (.tmp 7) .skip (.seq (.region k46_r6) (.cond (.tmp 7) .skip (.seq (.region k46_r7) (.cond (.tmp 7) .skip (.seq (.region k46_r8) (.cond (.tmp 7) .skip (.seq (.region k46_r9) (.cond (.tmp 7) .skip (.region k46_r10))))))))))))))))) (.cond (.tmp 7) (.seq (.region k46_r11) .ret) (.seq (.seq (.region k46_r12) (.cond (.tmp 17) .skip (.seq (.region k46_r13) (.cond (.tmp 17) .skip (.seq (.region k46_r14) (.cond (.tmp 17) .skip (.seq (.region k46_r15) (.cond (.tmp 17) .skip (.region k46_r16))))))))) (.cond (.tmp 17) (.seq (.region k46_r17) .ret) (.seq (.region k46_r18) (.cond (.tmp 23) (.seq (.region k46_r19) .ret) (.seq (.region k46_r20) (.cond (.tmp 25) (.seq (.region k46_r21) .ret) .skip)))))))))) (.seq (.region k46_r22) .ret)))
theorem k46_e : type_of% (@Ev_of P pr N e σ Q _ _ k46.eq_1) := Ev_of k46.eq_1
theorem k46_a : type_of% @k46_e ∧ type_of% @k46_r0_e ∧ type_of% @k46_r1_e ∧ type_of% @k46_r2_e ∧ type_of% @k46_r3_e ∧ type_of% @k46_r4_e ∧ type_of% @k46_r5_e ∧ type_of% @k46_r6_e ∧ type_of% @k46_r7_e ∧ type_of% @k46_r8_e ∧ type_of% @k46_r9_e ∧ type_of% @k46_r10_e ∧ type_of% @k46_r11_e ∧ type_of% @k46_r12_e ∧ type_of% @k46_r13_e ∧ type_of% @k46_r14_e ∧ type_of% @k46_r15_e ∧ type_of% @k46_r16_e ∧ type_of% @k46_r17_e ∧ type_of% @k46_r18_e ∧ type_of% @k46_r19_e ∧ type_of% @k46_r20_e ∧ type_of% @k46_r21_e ∧ type_of% @k46_r22_e := ⟨@k46_e, @k46_r0_e, @k46_r1_e, @k46_r2_e, @k46_r3_e, @k46_r4_e, @k46_r5_e, @k46_r6_e, @k46_r7_e, @k46_r8_e, @k46_r9_e, @k46_r10_e, @k46_r11_e, @k46_r12_e, @k46_r13_e, @k46_r14_e, @k46_r15_e, @k46_r16_e, @k46_r17_e, @k46_r18_e, @k46_r19_e, @k46_r20_e, @k46_r21_e, @k46_r22_e⟩
/-- quern/quernref13.Pops -/
theorem k46_is : FnIs Try.prog prims 46 34 [ResultVar.tmp 4] k46 := FnIs.of_fn Try.func46 (by kernel_rfl) rfl
def k47_r0 : List COp := [
  ⟨some 1, .box 39 (.tmp 0), none, true⟩,
  ⟨some 2, .assign (.const (.int .i64 0)), none, true⟩]
theorem k47_r0_e : type_of% (@Eo_of P pr N e σ Q _ _ k47_r0.eq_1) := Eo_of k47_r0.eq_1
def k47_r1 : List COp := [
  ⟨some 3, .fieldAddr 39 (.tmp 1) 0, none, true⟩,
  ⟨some 4, .load 3 (.tmp 3), none, true⟩]
theorem k47_r1_e : type_of% (@Eo_of P pr N e σ Q _ _ k47_r1.eq_1) := Eo_of k47_r1.eq_1
def k47_r2 : List COp := [
  ⟨some 6, .binOp .eql 3 (.tmp 4) (.const (.int .i64 1)) 3, none, true⟩,
  ⟨some 5, .assign (.tmp 6), none, true⟩]
theorem k47_r2_e : type_of% (@Eo_of P pr N e σ Q _ _ k47_r2.eq_1) := Eo_of k47_r2.eq_1
def k47_r3 : List COp := [
  ⟨some 7, .binOp .eql 3 (.tmp 4) (.const (.int .i64 2)) 3, none, true⟩,
  ⟨some 5, .assign (.tmp 7), none, true⟩]
theorem k47_r3_e : type_of% (@Eo_of P pr N e σ Q _ _ k47_r3.eq_1) := Eo_of k47_r3.eq_1
def k47_r4 : List COp := [
  ⟨some 8, .binOp .eql 3 (.tmp 4) (.const (.int .i64 4)) 3, none, true⟩,
  ⟨some 5, .assign (.tmp 8), none, true⟩]
theorem k47_r4_e : type_of% (@Eo_of P pr N e σ Q _ _ k47_r4.eq_1) := Eo_of k47_r4.eq_1
def k47_r5 : List COp := [
  ⟨some 9, .binOp .eql 3 (.tmp 4) (.const (.int .i64 9)) 3, none, true⟩,
  ⟨some 5, .assign (.tmp 9), none, true⟩]
theorem k47_r5_e : type_of% (@Eo_of P pr N e σ Q _ _ k47_r5.eq_1) := Eo_of k47_r5.eq_1
def k47_r6 : List COp := [
  ⟨some 10, .binOp .eql 3 (.tmp 4) (.const (.int .i64 12)) 3, none, true⟩,
  ⟨some 5, .assign (.tmp 10), none, true⟩]
theorem k47_r6_e : type_of% (@Eo_of P pr N e σ Q _ _ k47_r6.eq_1) := Eo_of k47_r6.eq_1
def k47_r7 : List COp := [
  ⟨some 11, .binOp .eql 3 (.tmp 4) (.const (.int .i64 13)) 3, none, true⟩,
  ⟨some 5, .assign (.tmp 11), none, true⟩]
theorem k47_r7_e : type_of% (@Eo_of P pr N e σ Q _ _ k47_r7.eq_1) := Eo_of k47_r7.eq_1
def k47_r8 : List COp := [
  ⟨some 12, .binOp .eql 3 (.tmp 4) (.const (.int .i64 14)) 3, none, true⟩,
  ⟨some 5, .assign (.tmp 12), none, true⟩]
theorem k47_r8_e : type_of% (@Eo_of P pr N e σ Q _ _ k47_r8.eq_1) := Eo_of k47_r8.eq_1
def k47_r9 : List COp := [
  ⟨some 13, .binOp .eql 3 (.tmp 4) (.const (.int .i64 15)) 3, none, true⟩,
  ⟨some 5, .assign (.tmp 13), none, true⟩]
theorem k47_r9_e : type_of% (@Eo_of P pr N e σ Q _ _ k47_r9.eq_1) := Eo_of k47_r9.eq_1
def k47_r10 : List COp := [
  ⟨some 14, .binOp .eql 3 (.tmp 4) (.const (.int .i64 16)) 3, none, true⟩,
  ⟨some 5, .assign (.tmp 14), none, true⟩]
theorem k47_r10_e : type_of% (@Eo_of P pr N e σ Q _ _ k47_r10.eq_1) := Eo_of k47_r10.eq_1
def k47_r11 : List COp := [
  ⟨some 15, .binOp .eql 3 (.tmp 4) (.const (.int .i64 17)) 3, none, true⟩,
  ⟨some 5, .assign (.tmp 15), none, true⟩]
theorem k47_r11_e : type_of% (@Eo_of P pr N e σ Q _ _ k47_r11.eq_1) := Eo_of k47_r11.eq_1
def k47_r12 : List COp := [
  ⟨some 16, .binOp .eql 3 (.tmp 4) (.const (.int .i64 18)) 3, none, true⟩,
  ⟨some 5, .assign (.tmp 16), none, true⟩]
theorem k47_r12_e : type_of% (@Eo_of P pr N e σ Q _ _ k47_r12.eq_1) := Eo_of k47_r12.eq_1
def k47_r13 : List COp := [
  ⟨some 17, .binOp .eql 3 (.tmp 4) (.const (.int .i64 19)) 3, none, true⟩,
  ⟨some 5, .assign (.tmp 17), none, true⟩]
theorem k47_r13_e : type_of% (@Eo_of P pr N e σ Q _ _ k47_r13.eq_1) := Eo_of k47_r13.eq_1
def k47_r14 : List COp := [
  ⟨some 18, .binOp .eql 3 (.tmp 4) (.const (.int .i64 20)) 3, none, true⟩,
  ⟨some 5, .assign (.tmp 18), none, true⟩]
theorem k47_r14_e : type_of% (@Eo_of P pr N e σ Q _ _ k47_r14.eq_1) := Eo_of k47_r14.eq_1
def k47_r15 : List COp := [
  ⟨some 19, .binOp .eql 3 (.tmp 4) (.const (.int .i64 21)) 3, none, true⟩,
  ⟨some 5, .assign (.tmp 19), none, true⟩]
theorem k47_r15_e : type_of% (@Eo_of P pr N e σ Q _ _ k47_r15.eq_1) := Eo_of k47_r15.eq_1
def k47_r16 : List COp := [
  ⟨some 2, .assign (.const (.int .i64 1)), none, true⟩]
theorem k47_r16_e : type_of% (@Eo_of P pr N e σ Q _ _ k47_r16.eq_1) := Eo_of k47_r16.eq_1
def k47_r17 : List COp := [
  ⟨some 2, .assign (.const (.int .i64 0)), none, true⟩]
theorem k47_r17_e : type_of% (@Eo_of P pr N e σ Q _ _ k47_r17.eq_1) := Eo_of k47_r17.eq_1
def k47 : CC := (.seq (.region k47_r0) (.seq (.seq (.region k47_r1) (.block 0 (.seq (.seq (.region k47_r2) (.cond (.tmp 5) .skip (.seq (.region k47_r3) (.cond (.tmp 5) .skip (.seq (.region k47_r4) (.cond (.tmp 5) .skip (.seq (.region k47_r5) (.cond (.tmp 5) .skip (.seq (.region k47_r6) (.cond (.tmp 5) .skip (.seq (.region k47_r7) (.cond (.tmp 5) .skip (.seq (.region k47_r8) (.cond (.tmp 5) .skip (.seq (.region k47_r9) (.cond (.tmp 5) .skip (.seq (.region k47_r10) (.cond (.tmp 5) .skip (.seq (.region k47_r11) (.cond (.tmp 5) .skip (.seq (.region k47_r12) (.cond (.tmp 5) .skip (.seq (.region k47_r13) (.cond (.tmp 5) .skip (.seq (.region k47_r14) (.cond (.tmp 5) .skip (.region k47_r15))))))))))))))))))))))))))) (.cond (.tmp 5) (.seq (.region k47_r16) .ret) .skip)))) (.seq (.region k47_r17) .ret)))
theorem k47_e : type_of% (@Ev_of P pr N e σ Q _ _ k47.eq_1) := Ev_of k47.eq_1
theorem k47_a : type_of% @k47_e ∧ type_of% @k47_r0_e ∧ type_of% @k47_r1_e ∧ type_of% @k47_r2_e ∧ type_of% @k47_r3_e ∧ type_of% @k47_r4_e ∧ type_of% @k47_r5_e ∧ type_of% @k47_r6_e ∧ type_of% @k47_r7_e ∧ type_of% @k47_r8_e ∧ type_of% @k47_r9_e ∧ type_of% @k47_r10_e ∧ type_of% @k47_r11_e ∧ type_of% @k47_r12_e ∧ type_of% @k47_r13_e ∧ type_of% @k47_r14_e ∧ type_of% @k47_r15_e ∧ type_of% @k47_r16_e ∧ type_of% @k47_r17_e := ⟨@k47_e, @k47_r0_e, @k47_r1_e, @k47_r2_e, @k47_r3_e, @k47_r4_e, @k47_r5_e, @k47_r6_e, @k47_r7_e, @k47_r8_e, @k47_r9_e, @k47_r10_e, @k47_r11_e, @k47_r12_e, @k47_r13_e, @k47_r14_e, @k47_r15_e, @k47_r16_e, @k47_r17_e⟩
/-- quern/quernref13.Pushes -/
theorem k47_is : FnIs Try.prog prims 47 20 [ResultVar.tmp 2] k47 := FnIs.of_fn Try.func47 (by kernel_rfl) rfl
def k56_r0 : List COp := [
  ⟨some 2, .box 29 (.tmp 0), none, true⟩,
  ⟨some 3, .box 29 (.tmp 1), none, true⟩,
  ⟨some 4, .assign (.const (.bool false)), none, true⟩]
theorem k56_r0_e : type_of% (@Eo_of P pr N e σ Q _ _ k56_r0.eq_1) := Eo_of k56_r0.eq_1
def k56_r1 : List COp := [
  ⟨some 5, .load 29 (.tmp 2), none, true⟩,
  ⟨some 6, .load 29 (.tmp 3), none, true⟩,
  ⟨some 7, .call { callee := .value (.func 67), args := #[.tmp 5, .tmp 6], argTypes := #[29, 29] }, none, true⟩,
  ⟨some 8, .binOp .eql 3 (.tmp 7) (.const (.int .i64 0)) 3, none, true⟩,
  ⟨some 4, .assign (.tmp 8), none, true⟩]
theorem k56_r1_e : type_of% (@Eo_of P pr N e σ Q _ _ k56_r1.eq_1) := Eo_of k56_r1.eq_1
def k56 : CC := (.seq (.region k56_r0) (.seq (.region k56_r1) .ret))
theorem k56_e : type_of% (@Ev_of P pr N e σ Q _ _ k56.eq_1) := Ev_of k56.eq_1
theorem k56_a : type_of% @k56_e ∧ type_of% @k56_r0_e ∧ type_of% @k56_r1_e := ⟨@k56_e, @k56_r0_e, @k56_r1_e⟩
/-- quern/quernref09.Same -/
theorem k56_is : FnIs Try.prog prims 56 9 [ResultVar.tmp 4] k56 := FnIs.of_fn Try.func56 (by kernel_rfl) rfl
def k58_r0 : List COp := [
  ⟨some 2, .assign (.const (.string { data := #[] })), none, true⟩,
  ⟨some 3, .assign (.const (.bool false)), none, true⟩]
theorem k58_r0_e : type_of% (@Eo_of P pr N e σ Q _ _ k58_r0.eq_1) := Eo_of k58_r0.eq_1
def k58_r1 : List COp := [
  ⟨some 4, .move (.tmp 0), none, true⟩,
  ⟨some 5, .call { callee := .value (.func 39), args := #[.tmp 4], argTypes := #[9] }, none, true⟩,
  ⟨some 6, .unOp .not 4 (.tmp 5), none, true⟩,
  ⟨some 7, .move (.tmp 6), none, true⟩,
  ⟨some 8, .move (.tmp 0), some (7, false), true⟩,
  ⟨some 9, .index 9 (.tmp 8) (.const (.int .i64 0)), some (7, false), true⟩,
  ⟨some 10, .binOp .neq 5 (.tmp 9) (.const (.int .u8 91)) 5, some (7, false), true⟩,
  ⟨some 11, .pick (.tmp 7) (.const (.bool true)) (.tmp 10), none, true⟩]
theorem k58_r1_e : type_of% (@Eo_of P pr N e σ Q _ _ k58_r1.eq_1) := Eo_of k58_r1.eq_1
def k58_r2 : List COp := [
  ⟨some 2, .assign (.const (.string { data := #[] })), none, true⟩,
  ⟨some 3, .assign (.const (.bool false)), none, true⟩]
theorem k58_r2_e : type_of% (@Eo_of P pr N e σ Q _ _ k58_r2.eq_1) := Eo_of k58_r2.eq_1
def k58_r3 : List COp := [
  ⟨some 12, .move (.tmp 0), none, true⟩,
  ⟨some 13, .move (.tmp 0), none, true⟩,
  ⟨some 14, .call { callee := .builtin .len, args := #[.tmp 13], argTypes := #[9] }, none, true⟩,
  ⟨some 15, .binOp .sub 3 (.tmp 14) (.const (.int .i64 1)) 3, none, true⟩,
  ⟨some 16, .slice 9 (.tmp 12) (some (.const (.int .i64 1))) (some (.tmp 15)) .none, none, true⟩,
  ⟨some 2, .assign (.tmp 16), none, true⟩,
  ⟨some 3, .assign (.const (.bool true)), none, true⟩]
theorem k58_r3_e : type_of% (@Eo_of P pr N e σ Q _ _ k58_r3.eq_1) := Eo_of k58_r3.eq_1
def k58 : CC := (.seq (.region k58_r0) (.seq (.seq (.region k58_r1) (.cond (.tmp 11) (.seq (.region k58_r2) .ret) .skip)) (.seq (.region k58_r3) .ret)))
theorem k58_e : type_of% (@Ev_of P pr N e σ Q _ _ k58.eq_1) := Ev_of k58.eq_1
theorem k58_a : type_of% @k58_e ∧ type_of% @k58_r0_e ∧ type_of% @k58_r1_e ∧ type_of% @k58_r2_e ∧ type_of% @k58_r3_e := ⟨@k58_e, @k58_r0_e, @k58_r1_e, @k58_r2_e, @k58_r3_e⟩
/-- quern/value.List -/
theorem k58_is : FnIs Try.prog prims 58 17 [ResultVar.tmp 2, ResultVar.tmp 3] k58 := FnIs.of_fn Try.func58 (by kernel_rfl) rfl
def k61_r0 : List COp := [
  ⟨some 2, .assign (.const (.string { data := #[] })), none, true⟩,
  ⟨some 3, .assign (.const (.string { data := #[] })), none, true⟩,
  ⟨some 4, .assign (.const (.bool false)), none, true⟩]
theorem k61_r0_e : type_of% (@Eo_of P pr N e σ Q _ _ k61_r0.eq_1) := Eo_of k61_r0.eq_1
def k61_r1 : List COp := [
  ⟨some 8, .move (.tmp 0), none, true⟩,
  ⟨some 9, .call { callee := .value (.func 39), args := #[.tmp 8], argTypes := #[9] }, none, true⟩,
  ⟨some 10, .unOp .not 4 (.tmp 9), none, true⟩,
  ⟨some 11, .move (.tmp 10), none, true⟩,
  ⟨some 12, .move (.tmp 0), some (11, false), true⟩,
  ⟨some 13, .index 9 (.tmp 12) (.const (.int .i64 0)), some (11, false), true⟩,
  ⟨some 14, .binOp .neq 5 (.tmp 13) (.const (.int .u8 123)) 5, some (11, false), true⟩,
  ⟨some 15, .pick (.tmp 11) (.const (.bool true)) (.tmp 14), none, true⟩]
theorem k61_r1_e : type_of% (@Eo_of P pr N e σ Q _ _ k61_r1.eq_1) := Eo_of k61_r1.eq_1
def k61_r2 : List COp := [
  ⟨some 2, .assign (.const (.string { data := #[] })), none, true⟩,
  ⟨some 3, .assign (.const (.string { data := #[] })), none, true⟩,
  ⟨some 4, .assign (.const (.bool false)), none, true⟩]
theorem k61_r2_e : type_of% (@Eo_of P pr N e σ Q _ _ k61_r2.eq_1) := Eo_of k61_r2.eq_1
def k61_r3 : List COp := [
  ⟨some 17, .move (.tmp 0), none, true⟩,
  ⟨some 18, .move (.tmp 0), none, true⟩,
  ⟨some 19, .call { callee := .builtin .len, args := #[.tmp 18], argTypes := #[9] }, none, true⟩,
  ⟨some 20, .binOp .sub 3 (.tmp 19) (.const (.int .i64 1)) 3, none, true⟩,
  ⟨some 21, .slice 9 (.tmp 17) (some (.const (.int .i64 1))) (some (.tmp 20)) .none, none, true⟩,
  ⟨some 22, .call { callee := .value (.func 71), args := #[.tmp 21, .const (.string { data := #[58] })], argTypes := #[9, 9] }, none, true⟩,
  ⟨some 16, .move (.tmp 22), none, true⟩,
  ⟨some 23, .extract (.tmp 16) 0, none, true⟩,
  ⟨some 24, .extract (.tmp 16) 1, none, true⟩,
  ⟨some 25, .extract (.tmp 16) 2, none, true⟩,
  ⟨some 5, .assign (.tmp 23), none, true⟩,
  ⟨some 6, .assign (.tmp 24), none, true⟩,
  ⟨some 7, .assign (.tmp 25), none, true⟩]
theorem k61_r3_e : type_of% (@Eo_of P pr N e σ Q _ _ k61_r3.eq_1) := Eo_of k61_r3.eq_1
def k61_r4 : List COp := [
  ⟨some 26, .move (.tmp 5), none, true⟩,
  ⟨some 27, .move (.tmp 6), none, true⟩,
  ⟨some 2, .assign (.tmp 26), none, true⟩,
  ⟨some 3, .assign (.tmp 27), none, true⟩,
  ⟨some 4, .assign (.const (.bool true)), none, true⟩]
theorem k61_r4_e : type_of% (@Eo_of P pr N e σ Q _ _ k61_r4.eq_1) := Eo_of k61_r4.eq_1
def k61 : CC := (.seq (.region k61_r0) (.seq (.seq (.region k61_r1) (.cond (.tmp 15) (.seq (.region k61_r2) .ret) .skip)) (.seq (.region k61_r3) (.seq (.region k61_r4) .ret))))
theorem k61_e : type_of% (@Ev_of P pr N e σ Q _ _ k61.eq_1) := Ev_of k61.eq_1
theorem k61_a : type_of% @k61_e ∧ type_of% @k61_r0_e ∧ type_of% @k61_r1_e ∧ type_of% @k61_r2_e ∧ type_of% @k61_r3_e ∧ type_of% @k61_r4_e := ⟨@k61_e, @k61_r0_e, @k61_r1_e, @k61_r2_e, @k61_r3_e, @k61_r4_e⟩
/-- quern/value.Map -/
theorem k61_is : FnIs Try.prog prims 61 28 [ResultVar.tmp 2, ResultVar.tmp 3, ResultVar.tmp 4] k61 := FnIs.of_fn Try.func61 (by kernel_rfl) rfl
def k66_r0 : List COp := [
  ⟨some 2, .assign (.const (.string { data := #[] })), none, true⟩,
  ⟨some 3, .assign (.const (.string { data := #[] })), none, true⟩]
theorem k66_r0_e : type_of% (@Eo_of P pr N e σ Q _ _ k66_r0.eq_1) := Eo_of k66_r0.eq_1
def k66_r1 : List COp := [
  ⟨some 4, .move (.tmp 0), none, true⟩,
  ⟨some 5, .call { callee := .value (.func 42), args := #[.tmp 4], argTypes := #[9] }, none, true⟩,
  ⟨some 6, .unOp .not 4 (.tmp 5), none, true⟩,
  ⟨some 7, .move (.tmp 6), none, true⟩,
  ⟨some 8, .move (.tmp 0), some (7, false), true⟩,
  ⟨some 9, .index 9 (.tmp 8) (.const (.int .i64 0)), some (7, false), true⟩,
  ⟨some 10, .binOp .neq 5 (.tmp 9) (.const (.int .u8 123)) 5, some (7, false), true⟩,
  ⟨some 11, .pick (.tmp 7) (.const (.bool true)) (.tmp 10), none, true⟩]
theorem k66_r1_e : type_of% (@Eo_of P pr N e σ Q _ _ k66_r1.eq_1) := Eo_of k66_r1.eq_1
def k66_r2 : List COp := [
  ⟨some 2, .assign (.const (.string { data := #[] })), none, true⟩,
  ⟨some 3, .assign (.const (.string { data := #[] })), none, true⟩]
theorem k66_r2_e : type_of% (@Eo_of P pr N e σ Q _ _ k66_r2.eq_1) := Eo_of k66_r2.eq_1
def k66_r3 : List COp := [
  ⟨some 12, .move (.tmp 0), none, true⟩,
  ⟨some 13, .index 9 (.tmp 12) (.const (.int .i64 1)), none, true⟩,
  ⟨some 14, .binOp .eql 5 (.tmp 13) (.const (.int .u8 105)) 5, none, true⟩]
theorem k66_r3_e : type_of% (@Eo_of P pr N e σ Q _ _ k66_r3.eq_1) := Eo_of k66_r3.eq_1
def k66_r4 : List COp := [
  ⟨some 15, .move (.tmp 0), none, false⟩,
  ⟨some 16, .move (.tmp 0), none, false⟩,
  ⟨some 17, .call { callee := .builtin .len, args := #[.tmp 16], argTypes := #[9] }, none, false⟩,
  ⟨some 18, .binOp .sub 3 (.tmp 17) (.const (.int .i64 1)) 3, none, false⟩,
  ⟨some 19, .slice 9 (.tmp 15) (some (.const (.int .i64 5))) (some (.tmp 18)) .none, none, false⟩,
  ⟨some 2, .assign (.const (.string { data := #[105, 110, 116] })), none, true⟩,
  ⟨some 3, .assign (.tmp 19), none, true⟩]
theorem k66_r4_e : type_of% (@Eo_of P pr N e σ Q _ _ k66_r4.eq_1) := Eo_of k66_r4.eq_1
def k66_r5 : List COp := [
  ⟨some 20, .move (.tmp 0), none, false⟩,
  ⟨some 21, .move (.tmp 0), none, false⟩,
  ⟨some 22, .call { callee := .builtin .len, args := #[.tmp 21], argTypes := #[9] }, none, false⟩,
  ⟨some 23, .binOp .sub 3 (.tmp 22) (.const (.int .i64 1)) 3, none, false⟩,
  ⟨some 24, .slice 9 (.tmp 20) (some (.const (.int .i64 6))) (some (.tmp 23)) .none, none, false⟩,
  ⟨some 2, .assign (.const (.string { data := #[116, 101, 120, 116] })), none, true⟩,
  ⟨some 3, .assign (.tmp 24), none, true⟩]
theorem k66_r5_e : type_of% (@Eo_of P pr N e σ Q _ _ k66_r5.eq_1) := Eo_of k66_r5.eq_1
def k66 : CC := (.seq (.region k66_r0) (.seq (.seq (.region k66_r1) (.cond (.tmp 11) (.seq (.region k66_r2) .ret) .skip)) (.seq (.seq (.region k66_r3) (.cond (.tmp 14) (.seq (.region k66_r4) .ret) .skip)) (.seq (.region k66_r5) .ret))))
theorem k66_e : type_of% (@Ev_of P pr N e σ Q _ _ k66.eq_1) := Ev_of k66.eq_1
theorem k66_a : type_of% @k66_e ∧ type_of% @k66_r0_e ∧ type_of% @k66_r1_e ∧ type_of% @k66_r2_e ∧ type_of% @k66_r3_e ∧ type_of% @k66_r4_e ∧ type_of% @k66_r5_e := ⟨@k66_e, @k66_r0_e, @k66_r1_e, @k66_r2_e, @k66_r3_e, @k66_r4_e, @k66_r5_e⟩
/-- quern/quernref09.Map -/
theorem k66_is : FnIs Try.prog prims 66 25 [ResultVar.tmp 2, ResultVar.tmp 3] k66 := FnIs.of_fn Try.func66 (by kernel_rfl) rfl
def k65_r0 : List COp := [
  ⟨some 2, .assign (.const (.string { data := #[] })), none, true⟩]
theorem k65_r0_e : type_of% (@Eo_of P pr N e σ Q _ _ k65_r0.eq_1) := Eo_of k65_r0.eq_1
def k65_r1 : List COp := [
  ⟨some 3, .move (.tmp 0), none, true⟩,
  ⟨some 4, .call { callee := .value (.func 42), args := #[.tmp 3], argTypes := #[9] }, none, true⟩,
  ⟨some 5, .unOp .not 4 (.tmp 4), none, true⟩,
  ⟨some 6, .move (.tmp 5), none, true⟩,
  ⟨some 7, .move (.tmp 0), some (6, false), true⟩,
  ⟨some 8, .index 9 (.tmp 7) (.const (.int .i64 0)), some (6, false), true⟩,
  ⟨some 9, .binOp .neq 5 (.tmp 8) (.const (.int .u8 91)) 5, some (6, false), true⟩,
  ⟨some 10, .pick (.tmp 6) (.const (.bool true)) (.tmp 9), none, true⟩]
theorem k65_r1_e : type_of% (@Eo_of P pr N e σ Q _ _ k65_r1.eq_1) := Eo_of k65_r1.eq_1
def k65_r2 : List COp := [
  ⟨some 2, .assign (.const (.string { data := #[] })), none, true⟩]
theorem k65_r2_e : type_of% (@Eo_of P pr N e σ Q _ _ k65_r2.eq_1) := Eo_of k65_r2.eq_1
def k65_r3 : List COp := [
  ⟨some 11, .move (.tmp 0), none, true⟩,
  ⟨some 12, .move (.tmp 0), none, true⟩,
  ⟨some 13, .call { callee := .builtin .len, args := #[.tmp 12], argTypes := #[9] }, none, true⟩,
  ⟨some 14, .binOp .sub 3 (.tmp 13) (.const (.int .i64 1)) 3, none, true⟩,
  ⟨some 15, .slice 9 (.tmp 11) (some (.const (.int .i64 1))) (some (.tmp 14)) .none, none, true⟩,
  ⟨some 2, .assign (.tmp 15), none, true⟩]
theorem k65_r3_e : type_of% (@Eo_of P pr N e σ Q _ _ k65_r3.eq_1) := Eo_of k65_r3.eq_1
def k65 : CC := (.seq (.region k65_r0) (.seq (.seq (.region k65_r1) (.cond (.tmp 10) (.seq (.region k65_r2) .ret) .skip)) (.seq (.region k65_r3) .ret)))
theorem k65_e : type_of% (@Ev_of P pr N e σ Q _ _ k65.eq_1) := Ev_of k65.eq_1
theorem k65_a : type_of% @k65_e ∧ type_of% @k65_r0_e ∧ type_of% @k65_r1_e ∧ type_of% @k65_r2_e ∧ type_of% @k65_r3_e := ⟨@k65_e, @k65_r0_e, @k65_r1_e, @k65_r2_e, @k65_r3_e⟩
/-- quern/quernref09.List -/
theorem k65_is : FnIs Try.prog prims 65 16 [ResultVar.tmp 2] k65 := FnIs.of_fn Try.func65 (by kernel_rfl) rfl
def k64_r0 : List COp := [
  ⟨some 2, .alloc 29, none, true⟩]
theorem k64_r0_e : type_of% (@Eo_of P pr N e σ Q _ _ k64_r0.eq_1) := Eo_of k64_r0.eq_1
def k64_r1 : List COp := [
  ⟨some 3, .assign (.const (.int .i64 0)), none, true⟩]
theorem k64_r1_e : type_of% (@Eo_of P pr N e σ Q _ _ k64_r1.eq_1) := Eo_of k64_r1.eq_1
def k64_r2 : List COp := [
  ⟨some 4, .move (.tmp 0), none, true⟩,
  ⟨some 5, .binOp .eql 9 (.tmp 4) (.const (.string { data := #[105, 110, 116] })) 9, none, true⟩]
theorem k64_r2_e : type_of% (@Eo_of P pr N e σ Q _ _ k64_r2.eq_1) := Eo_of k64_r2.eq_1
def k64_r3 : List COp := [
  ⟨some 3, .assign (.const (.int .i64 1)), none, true⟩]
theorem k64_r3_e : type_of% (@Eo_of P pr N e σ Q _ _ k64_r3.eq_1) := Eo_of k64_r3.eq_1
def k64_r4 : List COp := [
  ⟨some 6, .move (.tmp 0), none, true⟩,
  ⟨some 7, .binOp .eql 9 (.tmp 6) (.const (.string { data := #[98, 111, 111, 108] })) 9, none, true⟩]
theorem k64_r4_e : type_of% (@Eo_of P pr N e σ Q _ _ k64_r4.eq_1) := Eo_of k64_r4.eq_1
def k64_r5 : List COp := [
  ⟨some 3, .assign (.const (.int .i64 2)), none, true⟩]
theorem k64_r5_e : type_of% (@Eo_of P pr N e σ Q _ _ k64_r5.eq_1) := Eo_of k64_r5.eq_1
def k64_r6 : List COp := [
  ⟨some 8, .move (.tmp 0), none, true⟩,
  ⟨some 9, .binOp .eql 9 (.tmp 8) (.const (.string { data := #[116, 101, 120, 116] })) 9, none, true⟩]
theorem k64_r6_e : type_of% (@Eo_of P pr N e σ Q _ _ k64_r6.eq_1) := Eo_of k64_r6.eq_1
def k64_r7 : List COp := [
  ⟨some 3, .assign (.const (.int .i64 3)), none, true⟩]
theorem k64_r7_e : type_of% (@Eo_of P pr N e σ Q _ _ k64_r7.eq_1) := Eo_of k64_r7.eq_1
def k64_r8 : List COp := [
  ⟨some 10, .move (.tmp 0), none, true⟩,
  ⟨some 11, .call { callee := .value (.func 65), args := #[.tmp 10], argTypes := #[9] }, none, true⟩,
  ⟨some 12, .binOp .neq 9 (.tmp 11) (.const (.string { data := #[] })) 9, none, true⟩]
theorem k64_r8_e : type_of% (@Eo_of P pr N e σ Q _ _ k64_r8.eq_1) := Eo_of k64_r8.eq_1
def k64_r9 : List COp := [
  ⟨some 3, .assign (.const (.int .i64 4)), none, true⟩]
theorem k64_r9_e : type_of% (@Eo_of P pr N e σ Q _ _ k64_r9.eq_1) := Eo_of k64_r9.eq_1
def k64_r10 : List COp := [
  ⟨some 13, .move (.tmp 0), none, true⟩,
  ⟨some 14, .call { callee := .value (.func 42), args := #[.tmp 13], argTypes := #[9] }, none, true⟩]
theorem k64_r10_e : type_of% (@Eo_of P pr N e σ Q _ _ k64_r10.eq_1) := Eo_of k64_r10.eq_1
def k64_r11 : List COp := [
  ⟨some 3, .assign (.const (.int .i64 5)), none, true⟩]
theorem k64_r11_e : type_of% (@Eo_of P pr N e σ Q _ _ k64_r11.eq_1) := Eo_of k64_r11.eq_1
def k64_r12 : List COp := [
  ⟨some 15, .move (.tmp 3), none, true⟩,
  ⟨some 16, .build 29 #[(0, .tmp 15)], none, true⟩,
  ⟨none, .store 29 (.tmp 2) (.tmp 16), none, true⟩]
theorem k64_r12_e : type_of% (@Eo_of P pr N e σ Q _ _ k64_r12.eq_1) := Eo_of k64_r12.eq_1
def k64 : CC := (.seq (.region k64_r0) (.seq (.region k64_r1) (.seq (.seq (.region k64_r2) (.cond (.tmp 5) (.region k64_r3) (.seq (.region k64_r4) (.cond (.tmp 7) (.region k64_r5) (.seq (.region k64_r6) (.cond (.tmp 9) (.region k64_r7) (.seq (.region k64_r8) (.cond (.tmp 12) (.region k64_r9) (.seq (.region k64_r10) (.cond (.tmp 14) (.region k64_r11) .skip)))))))))) (.seq (.region k64_r12) .ret))))
theorem k64_e : type_of% (@Ev_of P pr N e σ Q _ _ k64.eq_1) := Ev_of k64.eq_1
theorem k64_a : type_of% @k64_e ∧ type_of% @k64_r0_e ∧ type_of% @k64_r1_e ∧ type_of% @k64_r2_e ∧ type_of% @k64_r3_e ∧ type_of% @k64_r4_e ∧ type_of% @k64_r5_e ∧ type_of% @k64_r6_e ∧ type_of% @k64_r7_e ∧ type_of% @k64_r8_e ∧ type_of% @k64_r9_e ∧ type_of% @k64_r10_e ∧ type_of% @k64_r11_e ∧ type_of% @k64_r12_e := ⟨@k64_e, @k64_r0_e, @k64_r1_e, @k64_r2_e, @k64_r3_e, @k64_r4_e, @k64_r5_e, @k64_r6_e, @k64_r7_e, @k64_r8_e, @k64_r9_e, @k64_r10_e, @k64_r11_e, @k64_r12_e⟩
/-- quern/quernref09.Zero -/
theorem k64_is : FnIs Try.prog prims 64 17 [ResultVar.cell 2 29] k64 := FnIs.of_fn Try.func64 (by kernel_rfl) rfl
def k21_r0 : List COp := [
  ⟨some 2, .box 29 (.tmp 0), none, true⟩,
  ⟨some 4, .assign (.const (.bool false)), none, true⟩]
theorem k21_r0_e : type_of% (@Eo_of P pr N e σ Q _ _ k21_r0.eq_1) := Eo_of k21_r0.eq_1
def k21_r1 : List COp := [
  ⟨some 5, .move (.tmp 1), none, true⟩,
  ⟨some 6, .call { callee := .value (.func 39), args := #[.tmp 5], argTypes := #[9] }, none, true⟩,
  ⟨some 7, .move (.tmp 6), none, true⟩,
  ⟨some 8, .load 29 (.tmp 2), some (7, true), true⟩,
  ⟨some 9, .call { callee := .value (.func 40), args := #[.tmp 8], argTypes := #[29] }, some (7, true), true⟩,
  ⟨some 10, .binOp .leq 3 (.tmp 9) (.const (.int .i64 16384)) 3, some (7, true), true⟩,
  ⟨some 11, .pick (.tmp 7) (.tmp 10) (.const (.bool false)), none, true⟩,
  ⟨some 12, .move (.tmp 11), none, true⟩,
  ⟨some 13, .load 29 (.tmp 2), some (12, true), true⟩,
  ⟨some 14, .move (.tmp 1), some (12, true), true⟩,
  ⟨some 15, .call { callee := .value (.func 41), args := #[.tmp 13, .tmp 14], argTypes := #[29, 9] }, some (12, true), true⟩,
  ⟨some 16, .pick (.tmp 12) (.tmp 15) (.const (.bool false)), none, true⟩,
  ⟨some 4, .assign (.tmp 16), none, true⟩]
theorem k21_r1_e : type_of% (@Eo_of P pr N e σ Q _ _ k21_r1.eq_1) := Eo_of k21_r1.eq_1
def k21 : CC := (.seq (.region k21_r0) (.seq (.region k21_r1) .ret))
theorem k21_e : type_of% (@Ev_of P pr N e σ Q _ _ k21.eq_1) := Ev_of k21.eq_1
theorem k21_a : type_of% @k21_e ∧ type_of% @k21_r0_e ∧ type_of% @k21_r1_e := ⟨@k21_e, @k21_r0_e, @k21_r1_e⟩
/-- quern/value.Fits -/
theorem k21_is : FnIs Try.prog prims 21 17 [ResultVar.tmp 4] k21 := FnIs.of_fn Try.func21 (by kernel_rfl) rfl
def k22_r0 : List COp := [
  ⟨some 2, .box 29 (.tmp 0), none, true⟩,
  ⟨some 4, .assign (.const (.bool false)), none, true⟩]
theorem k22_r0_e : type_of% (@Eo_of P pr N e σ Q _ _ k22_r0.eq_1) := Eo_of k22_r0.eq_1
def k22_r1 : List COp := [
  ⟨some 5, .move (.tmp 1), none, true⟩,
  ⟨some 6, .call { callee := .value (.func 42), args := #[.tmp 5], argTypes := #[9] }, none, true⟩,
  ⟨some 7, .move (.tmp 6), none, true⟩,
  ⟨some 8, .load 29 (.tmp 2), some (7, true), true⟩,
  ⟨some 9, .call { callee := .value (.func 43), args := #[.tmp 8], argTypes := #[29] }, some (7, true), true⟩,
  ⟨some 10, .binOp .leq 3 (.tmp 9) (.const (.int .i64 16384)) 3, some (7, true), true⟩,
  ⟨some 11, .pick (.tmp 7) (.tmp 10) (.const (.bool false)), none, true⟩,
  ⟨some 12, .move (.tmp 11), none, true⟩,
  ⟨some 13, .load 29 (.tmp 2), some (12, true), true⟩,
  ⟨some 14, .move (.tmp 1), some (12, true), true⟩,
  ⟨some 15, .call { callee := .value (.func 44), args := #[.tmp 13, .tmp 14], argTypes := #[29, 9] }, some (12, true), true⟩,
  ⟨some 16, .pick (.tmp 12) (.tmp 15) (.const (.bool false)), none, true⟩,
  ⟨some 4, .assign (.tmp 16), none, true⟩]
theorem k22_r1_e : type_of% (@Eo_of P pr N e σ Q _ _ k22_r1.eq_1) := Eo_of k22_r1.eq_1
def k22 : CC := (.seq (.region k22_r0) (.seq (.region k22_r1) .ret))
theorem k22_e : type_of% (@Ev_of P pr N e σ Q _ _ k22.eq_1) := Ev_of k22.eq_1
theorem k22_a : type_of% @k22_e ∧ type_of% @k22_r0_e ∧ type_of% @k22_r1_e := ⟨@k22_e, @k22_r0_e, @k22_r1_e⟩
/-- quern/quernref09.Fits -/
theorem k22_is : FnIs Try.prog prims 22 17 [ResultVar.tmp 4] k22 := FnIs.of_fn Try.func22 (by kernel_rfl) rfl
def k62_r0 : List COp := [
  ⟨some 2, .box 29 (.tmp 0), none, true⟩,
  ⟨some 3, .box 29 (.tmp 1), none, true⟩,
  ⟨some 4, .assign (.const (.int .i64 0)), none, true⟩]
theorem k62_r0_e : type_of% (@Eo_of P pr N e σ Q _ _ k62_r0.eq_1) := Eo_of k62_r0.eq_1
def k62_r1 : CC := (.wregion [
  (true, ⟨some 5, .fieldAddr 29 (.tmp 2) 0, none, false⟩),
  (false, ⟨some 6, .load 3 (.tmp 5), none, false⟩),
  (false, ⟨some 7, .fieldAddr 29 (.tmp 3) 0, none, false⟩),
  (false, ⟨some 8, .load 3 (.tmp 7), none, false⟩),
  (false, ⟨some 9, .call { callee := .value (.func 73), args := #[.tmp 6, .tmp 8], argTypes := #[3, 3] }, none, false⟩),
  (true, ⟨some 10, .fieldAddr 29 (.tmp 2) 1, none, false⟩),
  (true, ⟨some 11, .load 3 (.tmp 10), none, false⟩),
  (false, ⟨some 12, .fieldAddr 29 (.tmp 3) 1, none, false⟩),
  (true, ⟨some 13, .load 3 (.tmp 12), none, false⟩),
  (false, ⟨some 14, .call { callee := .value (.func 73), args := #[.tmp 11, .tmp 13], argTypes := #[3, 3] }, none, false⟩),
  (true, ⟨some 15, .fieldAddr 29 (.tmp 2) 2, none, false⟩),
  (true, ⟨some 16, .load 9 (.tmp 15), none, false⟩),
  (false, ⟨some 17, .fieldAddr 29 (.tmp 3) 2, none, false⟩),
  (true, ⟨some 18, .load 9 (.tmp 17), none, false⟩),
  (false, ⟨some 19, .call { callee := .value (.func 74), args := #[.tmp 16, .tmp 18], argTypes := #[9, 9] }, none, false⟩),
  (true, ⟨some 20, .fieldAddr 29 (.tmp 2) 3, none, false⟩),
  (true, ⟨some 21, .load 22 (.tmp 20), none, false⟩),
  (false, ⟨some 22, .fieldAddr 29 (.tmp 3) 3, none, true⟩),
  (true, ⟨some 23, .load 22 (.tmp 22), none, true⟩),
  (false, ⟨some 24, .call { callee := .value (.func 75), args := #[.tmp 21, .tmp 23, .func 62], argTypes := #[22, 22, 91] }, none, true⟩),
  (false, ⟨some 25, .buildSlice 70 4 #[(0, .tmp 9), (1, .tmp 14), (2, .tmp 19), (3, .tmp 24)], none, true⟩),
  (false, ⟨some 26, .call { callee := .value (.func 72), args := #[.tmp 25], argTypes := #[70] }, none, true⟩),
  (false, ⟨some 4, .assign (.tmp 26), none, true⟩)] false [(6, ⟨some 11, .load 3 (.tmp 10), none, false⟩, [0, 5]), (8, ⟨some 13, .load 3 (.tmp 12), none, false⟩, [0, 5]), (11, ⟨some 16, .load 9 (.tmp 15), none, false⟩, [0, 5, 10]), (13, ⟨some 18, .load 9 (.tmp 17), none, false⟩, [0, 5, 10]), (16, ⟨some 21, .load 22 (.tmp 20), none, false⟩, [0, 5, 10, 15]), (18, ⟨some 23, .load 22 (.tmp 22), none, true⟩, [0, 5, 10, 15])])
theorem k62_r1_e : type_of% (@Ev_of P pr N e σ Q _ _ k62_r1.eq_1) := Ev_of k62_r1.eq_1
def k62 : CC := (.seq (.region k62_r0) (.seq k62_r1 .ret))
theorem k62_e : type_of% (@Ev_of P pr N e σ Q _ _ k62.eq_1) := Ev_of k62.eq_1
theorem k62_a : type_of% @k62_e ∧ type_of% @k62_r0_e ∧ type_of% @k62_r1_e := ⟨@k62_e, @k62_r0_e, @k62_r1_e⟩
/-- quern/value.Compare -/
theorem k62_is : FnIs Try.prog prims 62 27 [ResultVar.tmp 4] k62 := FnIs.of_fn Try.func62 (by kernel_rfl) rfl
def k67_r0 : List COp := [
  ⟨some 2, .box 29 (.tmp 0), none, true⟩,
  ⟨some 3, .box 29 (.tmp 1), none, true⟩,
  ⟨some 4, .assign (.const (.int .i64 0)), none, true⟩]
theorem k67_r0_e : type_of% (@Eo_of P pr N e σ Q _ _ k67_r0.eq_1) := Eo_of k67_r0.eq_1
def k67_r1 : List COp := [
  ⟨some 7, .fieldAddr 29 (.tmp 2) 0, none, true⟩,
  ⟨some 8, .load 3 (.tmp 7), none, true⟩,
  ⟨some 9, .fieldAddr 29 (.tmp 3) 0, none, true⟩,
  ⟨some 10, .load 3 (.tmp 9), none, true⟩,
  ⟨some 11, .binOp .neq 3 (.tmp 8) (.tmp 10) 3, none, true⟩]
theorem k67_r1_e : type_of% (@Eo_of P pr N e σ Q _ _ k67_r1.eq_1) := Eo_of k67_r1.eq_1
def k67_r2 : List COp := [
  ⟨some 12, .fieldAddr 29 (.tmp 2) 0, none, true⟩,
  ⟨some 13, .load 3 (.tmp 12), none, true⟩,
  ⟨some 14, .fieldAddr 29 (.tmp 3) 0, none, true⟩,
  ⟨some 15, .load 3 (.tmp 14), none, true⟩,
  ⟨some 16, .binOp .lss 3 (.tmp 13) (.tmp 15) 3, none, true⟩]
theorem k67_r2_e : type_of% (@Eo_of P pr N e σ Q _ _ k67_r2.eq_1) := Eo_of k67_r2.eq_1
def k67_r3 : List COp := [
  ⟨some 4, .assign (.const (.int .i64 (-1))), none, true⟩]
theorem k67_r3_e : type_of% (@Eo_of P pr N e σ Q _ _ k67_r3.eq_1) := Eo_of k67_r3.eq_1
def k67_r4 : List COp := [
  ⟨some 4, .assign (.const (.int .i64 1)), none, true⟩]
theorem k67_r4_e : type_of% (@Eo_of P pr N e σ Q _ _ k67_r4.eq_1) := Eo_of k67_r4.eq_1
def k67_r5 : List COp := [
  ⟨some 17, .fieldAddr 29 (.tmp 2) 1, none, true⟩,
  ⟨some 18, .load 3 (.tmp 17), none, true⟩,
  ⟨some 19, .fieldAddr 29 (.tmp 3) 1, none, true⟩,
  ⟨some 20, .load 3 (.tmp 19), none, true⟩,
  ⟨some 21, .binOp .neq 3 (.tmp 18) (.tmp 20) 3, none, true⟩]
theorem k67_r5_e : type_of% (@Eo_of P pr N e σ Q _ _ k67_r5.eq_1) := Eo_of k67_r5.eq_1
def k67_r6 : List COp := [
  ⟨some 22, .fieldAddr 29 (.tmp 2) 1, none, true⟩,
  ⟨some 23, .load 3 (.tmp 22), none, true⟩,
  ⟨some 24, .fieldAddr 29 (.tmp 3) 1, none, true⟩,
  ⟨some 25, .load 3 (.tmp 24), none, true⟩,
  ⟨some 26, .binOp .lss 3 (.tmp 23) (.tmp 25) 3, none, true⟩]
theorem k67_r6_e : type_of% (@Eo_of P pr N e σ Q _ _ k67_r6.eq_1) := Eo_of k67_r6.eq_1
def k67_r7 : List COp := [
  ⟨some 4, .assign (.const (.int .i64 (-1))), none, true⟩]
theorem k67_r7_e : type_of% (@Eo_of P pr N e σ Q _ _ k67_r7.eq_1) := Eo_of k67_r7.eq_1
def k67_r8 : List COp := [
  ⟨some 4, .assign (.const (.int .i64 1)), none, true⟩]
theorem k67_r8_e : type_of% (@Eo_of P pr N e σ Q _ _ k67_r8.eq_1) := Eo_of k67_r8.eq_1
def k67_r9 : List COp := [
  ⟨some 27, .fieldAddr 29 (.tmp 2) 2, none, true⟩,
  ⟨some 28, .load 9 (.tmp 27), none, true⟩,
  ⟨some 29, .fieldAddr 29 (.tmp 3) 2, none, true⟩,
  ⟨some 30, .load 9 (.tmp 29), none, true⟩,
  ⟨some 31, .binOp .neq 9 (.tmp 28) (.tmp 30) 9, none, true⟩]
theorem k67_r9_e : type_of% (@Eo_of P pr N e σ Q _ _ k67_r9.eq_1) := Eo_of k67_r9.eq_1
def k67_r10 : List COp := [
  ⟨some 32, .fieldAddr 29 (.tmp 2) 2, none, true⟩,
  ⟨some 33, .load 9 (.tmp 32), none, true⟩,
  ⟨some 34, .fieldAddr 29 (.tmp 3) 2, none, true⟩,
  ⟨some 35, .load 9 (.tmp 34), none, true⟩,
  ⟨some 36, .binOp .lss 9 (.tmp 33) (.tmp 35) 9, none, true⟩]
theorem k67_r10_e : type_of% (@Eo_of P pr N e σ Q _ _ k67_r10.eq_1) := Eo_of k67_r10.eq_1
def k67_r11 : List COp := [
  ⟨some 4, .assign (.const (.int .i64 (-1))), none, true⟩]
theorem k67_r11_e : type_of% (@Eo_of P pr N e σ Q _ _ k67_r11.eq_1) := Eo_of k67_r11.eq_1
def k67_r12 : List COp := [
  ⟨some 4, .assign (.const (.int .i64 1)), none, true⟩]
theorem k67_r12_e : type_of% (@Eo_of P pr N e σ Q _ _ k67_r12.eq_1) := Eo_of k67_r12.eq_1
def k67_r13 : List COp := [
  ⟨some 5, .assign (.const (.int .i64 0)), none, true⟩]
theorem k67_r13_e : type_of% (@Eo_of P pr N e σ Q _ _ k67_r13.eq_1) := Eo_of k67_r13.eq_1
def k67_r14 : List COp := [
  ⟨some 37, .move (.tmp 5), none, true⟩,
  ⟨some 38, .fieldAddr 29 (.tmp 2) 3, none, true⟩,
  ⟨some 39, .load 22 (.tmp 38), none, true⟩,
  ⟨some 40, .call { callee := .builtin .len, args := #[.tmp 39], argTypes := #[22] }, none, true⟩,
  ⟨some 41, .binOp .lss 3 (.tmp 37) (.tmp 40) 3, none, true⟩,
  ⟨some 42, .move (.tmp 41), none, true⟩,
  ⟨some 43, .move (.tmp 5), some (42, true), true⟩,
  ⟨some 44, .fieldAddr 29 (.tmp 3) 3, some (42, true), true⟩,
  ⟨some 45, .load 22 (.tmp 44), some (42, true), true⟩,
  ⟨some 46, .call { callee := .builtin .len, args := #[.tmp 45], argTypes := #[22] }, some (42, true), true⟩,
  ⟨some 47, .binOp .lss 3 (.tmp 43) (.tmp 46) 3, some (42, true), true⟩,
  ⟨some 48, .pick (.tmp 42) (.tmp 47) (.const (.bool false)), none, true⟩]
theorem k67_r14_e : type_of% (@Eo_of P pr N e σ Q _ _ k67_r14.eq_1) := Eo_of k67_r14.eq_1
def k67_r16 : List COp := [
  ⟨some 51, .fieldAddr 29 (.tmp 2) 3, none, false⟩,
  ⟨some 52, .load 22 (.tmp 51), none, false⟩,
  ⟨some 53, .move (.tmp 5), none, false⟩,
  ⟨some 54, .indexAddr 22 (.tmp 52) (.tmp 53), none, false⟩,
  ⟨some 55, .load 29 (.tmp 54), none, false⟩,
  ⟨some 56, .fieldAddr 29 (.tmp 3) 3, none, false⟩,
  ⟨some 57, .load 22 (.tmp 56), none, false⟩,
  ⟨some 58, .move (.tmp 5), none, true⟩,
  ⟨some 59, .indexAddr 22 (.tmp 57) (.tmp 58), none, true⟩,
  ⟨some 60, .load 29 (.tmp 59), none, true⟩,
  ⟨some 61, .call { callee := .value (.func 67), args := #[.tmp 55, .tmp 60], argTypes := #[29, 29] }, none, true⟩,
  ⟨some 6, .assign (.tmp 61), none, true⟩]
theorem k67_r16_e : type_of% (@Eo_of P pr N e σ Q _ _ k67_r16.eq_1) := Eo_of k67_r16.eq_1
def k67_r17 : List COp := [
  ⟨some 62, .move (.tmp 6), none, true⟩,
  ⟨some 63, .binOp .neq 3 (.tmp 62) (.const (.int .i64 0)) 3, none, true⟩]
theorem k67_r17_e : type_of% (@Eo_of P pr N e σ Q _ _ k67_r17.eq_1) := Eo_of k67_r17.eq_1
def k67_r18 : List COp := [
  ⟨some 64, .move (.tmp 6), none, true⟩,
  ⟨some 4, .assign (.tmp 64), none, true⟩]
theorem k67_r18_e : type_of% (@Eo_of P pr N e σ Q _ _ k67_r18.eq_1) := Eo_of k67_r18.eq_1
def k67_r15 : List COp := [
  ⟨some 49, .move (.tmp 5), none, true⟩,
  ⟨some 50, .binOp .add 3 (.tmp 49) (.const (.int .i64 1)) 3, none, true⟩,
  ⟨some 5, .assign (.tmp 50), none, true⟩]
theorem k67_r15_e : type_of% (@Eo_of P pr N e σ Q _ _ k67_r15.eq_1) := Eo_of k67_r15.eq_1
def k67_l0 : CC := (.seq (.seq (.region k67_r14) (.cond (.tmp 48) .skip (.exit 0))) (.seq (.block 1 (.seq (.region k67_r16) (.seq (.region k67_r17) (.cond (.tmp 63) (.seq (.region k67_r18) .ret) .skip)))) (.region k67_r15)))
theorem k67_l0_e : type_of% (@Ev_of P pr N e σ Q _ _ k67_l0.eq_1) := Ev_of k67_l0.eq_1
def k67_r19 : List COp := [
  ⟨some 65, .fieldAddr 29 (.tmp 2) 3, none, true⟩,
  ⟨some 66, .load 22 (.tmp 65), none, true⟩,
  ⟨some 67, .call { callee := .builtin .len, args := #[.tmp 66], argTypes := #[22] }, none, true⟩,
  ⟨some 68, .fieldAddr 29 (.tmp 3) 3, none, true⟩,
  ⟨some 69, .load 22 (.tmp 68), none, true⟩,
  ⟨some 70, .call { callee := .builtin .len, args := #[.tmp 69], argTypes := #[22] }, none, true⟩,
  ⟨some 71, .binOp .lss 3 (.tmp 67) (.tmp 70) 3, none, true⟩]
theorem k67_r19_e : type_of% (@Eo_of P pr N e σ Q _ _ k67_r19.eq_1) := Eo_of k67_r19.eq_1
def k67_r20 : List COp := [
  ⟨some 4, .assign (.const (.int .i64 (-1))), none, true⟩]
theorem k67_r20_e : type_of% (@Eo_of P pr N e σ Q _ _ k67_r20.eq_1) := Eo_of k67_r20.eq_1
def k67_r21 : List COp := [
  ⟨some 72, .fieldAddr 29 (.tmp 2) 3, none, true⟩,
  ⟨some 73, .load 22 (.tmp 72), none, true⟩,
  ⟨some 74, .call { callee := .builtin .len, args := #[.tmp 73], argTypes := #[22] }, none, true⟩,
  ⟨some 75, .fieldAddr 29 (.tmp 3) 3, none, true⟩,
  ⟨some 76, .load 22 (.tmp 75), none, true⟩,
  ⟨some 77, .call { callee := .builtin .len, args := #[.tmp 76], argTypes := #[22] }, none, true⟩,
  ⟨some 78, .binOp .gtr 3 (.tmp 74) (.tmp 77) 3, none, true⟩]
theorem k67_r21_e : type_of% (@Eo_of P pr N e σ Q _ _ k67_r21.eq_1) := Eo_of k67_r21.eq_1
def k67_r22 : List COp := [
  ⟨some 4, .assign (.const (.int .i64 1)), none, true⟩]
theorem k67_r22_e : type_of% (@Eo_of P pr N e σ Q _ _ k67_r22.eq_1) := Eo_of k67_r22.eq_1
def k67_r23 : List COp := [
  ⟨some 4, .assign (.const (.int .i64 0)), none, true⟩]
theorem k67_r23_e : type_of% (@Eo_of P pr N e σ Q _ _ k67_r23.eq_1) := Eo_of k67_r23.eq_1
def k67 : CC := (.seq (.region k67_r0) (.seq (.seq (.region k67_r1) (.cond (.tmp 11) (.seq (.seq (.region k67_r2) (.cond (.tmp 16) (.seq (.region k67_r3) .ret) .skip)) (.seq (.region k67_r4) .ret)) .skip)) (.seq (.seq (.region k67_r5) (.cond (.tmp 21) (.seq (.seq (.region k67_r6) (.cond (.tmp 26) (.seq (.region k67_r7) .ret) .skip)) (.seq (.region k67_r8) .ret)) .skip)) (.seq (.seq (.region k67_r9) (.cond (.tmp 31) (.seq (.seq (.region k67_r10) (.cond (.tmp 36) (.seq (.region k67_r11) .ret) .skip)) (.seq (.region k67_r12) .ret)) .skip)) (.seq (.seq (.region k67_r13) (.block 0 (.loop k67_l0))) (.seq (.seq (.region k67_r19) (.cond (.tmp 71) (.seq (.region k67_r20) .ret) .skip)) (.seq (.seq (.region k67_r21) (.cond (.tmp 78) (.seq (.region k67_r22) .ret) .skip)) (.seq (.region k67_r23) .ret))))))))
theorem k67_e : type_of% (@Ev_of P pr N e σ Q _ _ k67.eq_1) := Ev_of k67.eq_1
theorem k67_a : type_of% @k67_e ∧ type_of% @k67_r0_e ∧ type_of% @k67_r1_e ∧ type_of% @k67_r2_e ∧ type_of% @k67_r3_e ∧ type_of% @k67_r4_e ∧ type_of% @k67_r5_e ∧ type_of% @k67_r6_e ∧ type_of% @k67_r7_e ∧ type_of% @k67_r8_e ∧ type_of% @k67_r9_e ∧ type_of% @k67_r10_e ∧ type_of% @k67_r11_e ∧ type_of% @k67_r12_e ∧ type_of% @k67_r13_e ∧ type_of% @k67_r14_e ∧ type_of% @k67_r16_e ∧ type_of% @k67_r17_e ∧ type_of% @k67_r18_e ∧ type_of% @k67_r15_e ∧ type_of% @k67_l0_e ∧ type_of% @k67_r19_e ∧ type_of% @k67_r20_e ∧ type_of% @k67_r21_e ∧ type_of% @k67_r22_e ∧ type_of% @k67_r23_e := ⟨@k67_e, @k67_r0_e, @k67_r1_e, @k67_r2_e, @k67_r3_e, @k67_r4_e, @k67_r5_e, @k67_r6_e, @k67_r7_e, @k67_r8_e, @k67_r9_e, @k67_r10_e, @k67_r11_e, @k67_r12_e, @k67_r13_e, @k67_r14_e, @k67_r16_e, @k67_r17_e, @k67_r18_e, @k67_r15_e, @k67_l0_e, @k67_r19_e, @k67_r20_e, @k67_r21_e, @k67_r22_e, @k67_r23_e⟩
/-- quern/quernref09.Compare -/
theorem k67_is : FnIs Try.prog prims 67 79 [ResultVar.tmp 4] k67 := FnIs.of_fn Try.func67 (by kernel_rfl) rfl
def k40_r0 : List COp := [
  ⟨some 1, .box 29 (.tmp 0), none, true⟩,
  ⟨some 2, .assign (.const (.int .i64 0)), none, true⟩]
theorem k40_r0_e : type_of% (@Eo_of P pr N e σ Q _ _ k40_r0.eq_1) := Eo_of k40_r0.eq_1
def k40_r1 : List COp := [
  ⟨some 6, .fieldAddr 29 (.tmp 1) 2, none, true⟩,
  ⟨some 7, .load 9 (.tmp 6), none, true⟩,
  ⟨some 8, .call { callee := .builtin .len, args := #[.tmp 7], argTypes := #[9] }, none, true⟩,
  ⟨some 9, .binOp .add 3 (.const (.int .i64 1)) (.tmp 8) 3, none, true⟩,
  ⟨some 3, .assign (.tmp 9), none, true⟩]
theorem k40_r1_e : type_of% (@Eo_of P pr N e σ Q _ _ k40_r1.eq_1) := Eo_of k40_r1.eq_1
def k40_r2 : List COp := [
  ⟨some 10, .fieldAddr 29 (.tmp 1) 3, none, true⟩,
  ⟨some 11, .load 22 (.tmp 10), none, true⟩,
  ⟨some 12, .call { callee := .builtin .len, args := #[.tmp 11], argTypes := #[22] }, none, true⟩,
  ⟨some 13, .move (.const (.int .i64 0)), none, true⟩]
theorem k40_r2_e : type_of% (@Eo_of P pr N e σ Q _ _ k40_r2.eq_1) := Eo_of k40_r2.eq_1
def k40_r3 : List COp := [
  ⟨some 14, .binOp .lss 3 (.tmp 13) (.tmp 12) 3, none, true⟩]
theorem k40_r3_e : type_of% (@Eo_of P pr N e σ Q _ _ k40_r3.eq_1) := Eo_of k40_r3.eq_1
def k40_r4 : List COp := [
  ⟨some 15, .indexAddr 22 (.tmp 11) (.tmp 13), none, true⟩,
  ⟨some 16, .load 29 (.tmp 15), none, true⟩,
  ⟨some 5, .alloc 29, none, true⟩,
  ⟨none, .store 29 (.tmp 5) (.tmp 16), none, true⟩]
theorem k40_r4_e : type_of% (@Eo_of P pr N e σ Q _ _ k40_r4.eq_1) := Eo_of k40_r4.eq_1
def k40_r5 : List COp := [
  ⟨some 17, .move (.tmp 3), none, true⟩,
  ⟨some 18, .load 29 (.tmp 5), none, true⟩,
  ⟨some 19, .call { callee := .value (.func 40), args := #[.tmp 18], argTypes := #[29] }, none, true⟩,
  ⟨some 20, .binOp .add 3 (.tmp 17) (.tmp 19) 3, none, true⟩,
  ⟨some 3, .assign (.tmp 20), none, true⟩]
theorem k40_r5_e : type_of% (@Eo_of P pr N e σ Q _ _ k40_r5.eq_1) := Eo_of k40_r5.eq_1
def k40_r6 : List COp := [
  ⟨some 21, .binOp .add 3 (.tmp 13) (.const (.int .i64 1)) 3, none, true⟩,
  ⟨some 13, .move (.tmp 21), none, true⟩]
theorem k40_r6_e : type_of% (@Eo_of P pr N e σ Q _ _ k40_r6.eq_1) := Eo_of k40_r6.eq_1
def k40_l0 : CC := (.seq (.region k40_r3) (.seq (.cond (.tmp 14) .skip (.exit 0)) (.seq (.block 1 (.seq (.region k40_r4) (.region k40_r5))) (.region k40_r6))))
theorem k40_l0_e : type_of% (@Ev_of P pr N e σ Q _ _ k40_l0.eq_1) := Ev_of k40_l0.eq_1
def k40_r7 : List COp := [
  ⟨some 22, .move (.tmp 3), none, true⟩,
  ⟨some 2, .assign (.tmp 22), none, true⟩]
theorem k40_r7_e : type_of% (@Eo_of P pr N e σ Q _ _ k40_r7.eq_1) := Eo_of k40_r7.eq_1
def k40 : CC := (.seq (.region k40_r0) (.seq (.region k40_r1) (.seq (.seq (.region k40_r2) (.block 0 (.loop k40_l0))) (.seq (.region k40_r7) .ret))))
theorem k40_e : type_of% (@Ev_of P pr N e σ Q _ _ k40.eq_1) := Ev_of k40.eq_1
theorem k40_a : type_of% @k40_e ∧ type_of% @k40_r0_e ∧ type_of% @k40_r1_e ∧ type_of% @k40_r2_e ∧ type_of% @k40_r3_e ∧ type_of% @k40_r4_e ∧ type_of% @k40_r5_e ∧ type_of% @k40_r6_e ∧ type_of% @k40_l0_e ∧ type_of% @k40_r7_e := ⟨@k40_e, @k40_r0_e, @k40_r1_e, @k40_r2_e, @k40_r3_e, @k40_r4_e, @k40_r5_e, @k40_r6_e, @k40_l0_e, @k40_r7_e⟩
/-- quern/value.Weight -/
theorem k40_is : FnIs Try.prog prims 40 23 [ResultVar.tmp 2] k40 := FnIs.of_fn Try.func40 (by kernel_rfl) rfl
def k43_r0 : List COp := [
  ⟨some 1, .box 29 (.tmp 0), none, true⟩,
  ⟨some 2, .assign (.const (.int .i64 0)), none, true⟩]
theorem k43_r0_e : type_of% (@Eo_of P pr N e σ Q _ _ k43_r0.eq_1) := Eo_of k43_r0.eq_1
def k43_r1 : List COp := [
  ⟨some 6, .fieldAddr 29 (.tmp 1) 2, none, true⟩,
  ⟨some 7, .load 9 (.tmp 6), none, true⟩,
  ⟨some 8, .call { callee := .builtin .len, args := #[.tmp 7], argTypes := #[9] }, none, true⟩,
  ⟨some 9, .binOp .add 3 (.const (.int .i64 1)) (.tmp 8) 3, none, true⟩,
  ⟨some 3, .assign (.tmp 9), none, true⟩]
theorem k43_r1_e : type_of% (@Eo_of P pr N e σ Q _ _ k43_r1.eq_1) := Eo_of k43_r1.eq_1
def k43_r2 : List COp := [
  ⟨some 10, .fieldAddr 29 (.tmp 1) 3, none, true⟩,
  ⟨some 11, .load 22 (.tmp 10), none, true⟩,
  ⟨some 12, .call { callee := .builtin .len, args := #[.tmp 11], argTypes := #[22] }, none, true⟩,
  ⟨some 13, .move (.const (.int .i64 0)), none, true⟩]
theorem k43_r2_e : type_of% (@Eo_of P pr N e σ Q _ _ k43_r2.eq_1) := Eo_of k43_r2.eq_1
def k43_r3 : List COp := [
  ⟨some 14, .binOp .lss 3 (.tmp 13) (.tmp 12) 3, none, true⟩]
theorem k43_r3_e : type_of% (@Eo_of P pr N e σ Q _ _ k43_r3.eq_1) := Eo_of k43_r3.eq_1
def k43_r4 : List COp := [
  ⟨some 15, .indexAddr 22 (.tmp 11) (.tmp 13), none, true⟩,
  ⟨some 16, .load 29 (.tmp 15), none, true⟩,
  ⟨some 5, .alloc 29, none, true⟩,
  ⟨none, .store 29 (.tmp 5) (.tmp 16), none, true⟩]
theorem k43_r4_e : type_of% (@Eo_of P pr N e σ Q _ _ k43_r4.eq_1) := Eo_of k43_r4.eq_1
def k43_r5 : List COp := [
  ⟨some 17, .move (.tmp 3), none, true⟩,
  ⟨some 18, .load 29 (.tmp 5), none, true⟩,
  ⟨some 19, .call { callee := .value (.func 43), args := #[.tmp 18], argTypes := #[29] }, none, true⟩,
  ⟨some 20, .binOp .add 3 (.tmp 17) (.tmp 19) 3, none, true⟩,
  ⟨some 3, .assign (.tmp 20), none, true⟩]
theorem k43_r5_e : type_of% (@Eo_of P pr N e σ Q _ _ k43_r5.eq_1) := Eo_of k43_r5.eq_1
def k43_r6 : List COp := [
  ⟨some 21, .binOp .add 3 (.tmp 13) (.const (.int .i64 1)) 3, none, true⟩,
  ⟨some 13, .move (.tmp 21), none, true⟩]
theorem k43_r6_e : type_of% (@Eo_of P pr N e σ Q _ _ k43_r6.eq_1) := Eo_of k43_r6.eq_1
def k43_l0 : CC := (.seq (.region k43_r3) (.seq (.cond (.tmp 14) .skip (.exit 0)) (.seq (.block 1 (.seq (.region k43_r4) (.region k43_r5))) (.region k43_r6))))
theorem k43_l0_e : type_of% (@Ev_of P pr N e σ Q _ _ k43_l0.eq_1) := Ev_of k43_l0.eq_1
def k43_r7 : List COp := [
  ⟨some 22, .move (.tmp 3), none, true⟩,
  ⟨some 2, .assign (.tmp 22), none, true⟩]
theorem k43_r7_e : type_of% (@Eo_of P pr N e σ Q _ _ k43_r7.eq_1) := Eo_of k43_r7.eq_1
def k43 : CC := (.seq (.region k43_r0) (.seq (.region k43_r1) (.seq (.seq (.region k43_r2) (.block 0 (.loop k43_l0))) (.seq (.region k43_r7) .ret))))
theorem k43_e : type_of% (@Ev_of P pr N e σ Q _ _ k43.eq_1) := Ev_of k43.eq_1
theorem k43_a : type_of% @k43_e ∧ type_of% @k43_r0_e ∧ type_of% @k43_r1_e ∧ type_of% @k43_r2_e ∧ type_of% @k43_r3_e ∧ type_of% @k43_r4_e ∧ type_of% @k43_r5_e ∧ type_of% @k43_r6_e ∧ type_of% @k43_l0_e ∧ type_of% @k43_r7_e := ⟨@k43_e, @k43_r0_e, @k43_r1_e, @k43_r2_e, @k43_r3_e, @k43_r4_e, @k43_r5_e, @k43_r6_e, @k43_l0_e, @k43_r7_e⟩
/-- quern/quernref09.Weight -/
theorem k43_is : FnIs Try.prog prims 43 23 [ResultVar.tmp 2] k43 := FnIs.of_fn Try.func43 (by kernel_rfl) rfl
def k29_r0 : List COp := [
  ⟨some 2, .box 29 (.tmp 0), none, true⟩,
  ⟨some 4, .assign (.const (.slice .none 0 0)), none, true⟩,
  ⟨some 5, .assign (.const (.int .i64 0)), none, true⟩]
theorem k29_r0_e : type_of% (@Eo_of P pr N e σ Q _ _ k29_r0.eq_1) := Eo_of k29_r0.eq_1
def k29_r1 : List COp := [
  ⟨some 6, .load 29 (.tmp 2), none, true⟩,
  ⟨some 7, .move (.tmp 1), none, true⟩,
  ⟨some 8, .call { callee := .value (.func 21), args := #[.tmp 6, .tmp 7], argTypes := #[29, 9] }, none, true⟩,
  ⟨some 9, .unOp .not 4 (.tmp 8), none, true⟩]
theorem k29_r1_e : type_of% (@Eo_of P pr N e σ Q _ _ k29_r1.eq_1) := Eo_of k29_r1.eq_1
def k29_r2 : List COp := [
  ⟨some 4, .assign (.const (.slice .none 0 0)), none, true⟩,
  ⟨some 5, .assign (.const (.int .i64 1)), none, true⟩]
theorem k29_r2_e : type_of% (@Eo_of P pr N e σ Q _ _ k29_r2.eq_1) := Eo_of k29_r2.eq_1
def k29_r3 : List COp := [
  ⟨some 10, .load 29 (.tmp 2), none, true⟩,
  ⟨some 11, .call { callee := .value (.func 50), args := #[.const (.slice .none 0 0), .tmp 10], argTypes := #[41, 29] }, none, true⟩,
  ⟨some 4, .assign (.tmp 11), none, true⟩,
  ⟨some 5, .assign (.const (.int .i64 0)), none, true⟩]
theorem k29_r3_e : type_of% (@Eo_of P pr N e σ Q _ _ k29_r3.eq_1) := Eo_of k29_r3.eq_1
def k29 : CC := (.seq (.region k29_r0) (.seq (.seq (.region k29_r1) (.cond (.tmp 9) (.seq (.region k29_r2) .ret) .skip)) (.seq (.region k29_r3) .ret)))
theorem k29_e : type_of% (@Ev_of P pr N e σ Q _ _ k29.eq_1) := Ev_of k29.eq_1
theorem k29_a : type_of% @k29_e ∧ type_of% @k29_r0_e ∧ type_of% @k29_r1_e ∧ type_of% @k29_r2_e ∧ type_of% @k29_r3_e := ⟨@k29_e, @k29_r0_e, @k29_r1_e, @k29_r2_e, @k29_r3_e⟩
/-- quern/value.Encode -/
theorem k29_is : FnIs Try.prog prims 29 12 [ResultVar.tmp 4, ResultVar.tmp 5] k29 := FnIs.of_fn Try.func29 (by kernel_rfl) rfl
def k42_r0 : List COp := [
  ⟨some 2, .assign (.const (.bool false)), none, true⟩]
theorem k42_r0_e : type_of% (@Eo_of P pr N e σ Q _ _ k42_r0.eq_1) := Eo_of k42_r0.eq_1
def k42_r1 : List COp := [
  ⟨some 4, .move (.tmp 0), none, true⟩,
  ⟨some 5, .call { callee := .value (.func 63), args := #[.tmp 4], argTypes := #[9] }, none, true⟩,
  ⟨some 3, .assign (.tmp 5), none, true⟩]
theorem k42_r1_e : type_of% (@Eo_of P pr N e σ Q _ _ k42_r1.eq_1) := Eo_of k42_r1.eq_1
def k42_r2 : List COp := [
  ⟨some 6, .move (.tmp 3), none, true⟩,
  ⟨some 7, .binOp .geq 3 (.tmp 6) (.const (.int .i64 1)) 3, none, true⟩,
  ⟨some 8, .move (.tmp 7), none, true⟩,
  ⟨some 9, .move (.tmp 3), some (8, true), true⟩,
  ⟨some 10, .binOp .leq 3 (.tmp 9) (.const (.int .i64 4)) 3, some (8, true), true⟩,
  ⟨some 11, .pick (.tmp 8) (.tmp 10) (.const (.bool false)), none, true⟩,
  ⟨some 2, .assign (.tmp 11), none, true⟩]
theorem k42_r2_e : type_of% (@Eo_of P pr N e σ Q _ _ k42_r2.eq_1) := Eo_of k42_r2.eq_1
def k42 : CC := (.seq (.region k42_r0) (.seq (.region k42_r1) (.seq (.region k42_r2) .ret)))
theorem k42_e : type_of% (@Ev_of P pr N e σ Q _ _ k42.eq_1) := Ev_of k42.eq_1
theorem k42_a : type_of% @k42_e ∧ type_of% @k42_r0_e ∧ type_of% @k42_r1_e ∧ type_of% @k42_r2_e := ⟨@k42_e, @k42_r0_e, @k42_r1_e, @k42_r2_e⟩
/-- quern/quernref08.Type -/
theorem k42_is : FnIs Try.prog prims 42 12 [ResultVar.tmp 2] k42 := FnIs.of_fn Try.func42 (by kernel_rfl) rfl
def k39_r0 : List COp := [
  ⟨some 2, .assign (.const (.bool false)), none, true⟩]
theorem k39_r0_e : type_of% (@Eo_of P pr N e σ Q _ _ k39_r0.eq_1) := Eo_of k39_r0.eq_1
def k39_r1 : List COp := [
  ⟨some 3, .move (.tmp 0), none, true⟩,
  ⟨some 4, .call { callee := .value (.func 57), args := #[.tmp 3, .const (.int .i64 1)], argTypes := #[9, 3] }, none, true⟩,
  ⟨some 2, .assign (.tmp 4), none, true⟩]
theorem k39_r1_e : type_of% (@Eo_of P pr N e σ Q _ _ k39_r1.eq_1) := Eo_of k39_r1.eq_1
def k39 : CC := (.seq (.region k39_r0) (.seq (.region k39_r1) .ret))
theorem k39_e : type_of% (@Ev_of P pr N e σ Q _ _ k39.eq_1) := Ev_of k39.eq_1
theorem k39_a : type_of% @k39_e ∧ type_of% @k39_r0_e ∧ type_of% @k39_r1_e := ⟨@k39_e, @k39_r0_e, @k39_r1_e⟩
/-- quern/show.Type -/
theorem k39_is : FnIs Try.prog prims 39 5 [ResultVar.tmp 2] k39 := FnIs.of_fn Try.func39 (by kernel_rfl) rfl
def k71_r0 : List COp := [
  ⟨some 4, .assign (.const (.string { data := #[] })), none, true⟩,
  ⟨some 5, .assign (.const (.string { data := #[] })), none, true⟩,
  ⟨some 6, .assign (.const (.bool false)), none, true⟩]
theorem k71_r0_e : type_of% (@Eo_of P pr N e σ Q _ _ k71_r0.eq_1) := Eo_of k71_r0.eq_1
def k71_r1 : List COp := [
  ⟨some 7, .move (.tmp 0), none, true⟩,
  ⟨some 8, .move (.tmp 1), none, true⟩,
  ⟨some 9, .call { callee := .value (.func 77), args := #[.tmp 7, .tmp 8], argTypes := #[9, 9] }, none, true⟩,
  ⟨some 10, .extract (.tmp 9) 0, none, true⟩,
  ⟨some 11, .extract (.tmp 9) 1, none, true⟩,
  ⟨some 12, .extract (.tmp 9) 2, none, true⟩,
  ⟨some 4, .assign (.tmp 10), none, true⟩,
  ⟨some 5, .assign (.tmp 11), none, true⟩,
  ⟨some 6, .assign (.tmp 12), none, true⟩]
theorem k71_r1_e : type_of% (@Eo_of P pr N e σ Q _ _ k71_r1.eq_1) := Eo_of k71_r1.eq_1
def k71 : CC := (.seq (.region k71_r0) (.seq (.region k71_r1) .ret))
theorem k71_e : type_of% (@Ev_of P pr N e σ Q _ _ k71.eq_1) := Ev_of k71.eq_1
theorem k71_a : type_of% @k71_e ∧ type_of% @k71_r0_e ∧ type_of% @k71_r1_e := ⟨@k71_e, @k71_r0_e, @k71_r1_e⟩
/-- strings.Cut -/
theorem k71_is : FnIs Try.prog prims 71 13 [ResultVar.tmp 4, ResultVar.tmp 5, ResultVar.tmp 6] k71 := FnIs.of_fn Try.func71 (by kernel_rfl) rfl
def k41_r0 : List COp := [
  ⟨some 2, .box 29 (.tmp 0), none, true⟩,
  ⟨some 4, .assign (.const (.bool false)), none, true⟩]
theorem k41_r0_e : type_of% (@Eo_of P pr N e σ Q _ _ k41_r0.eq_1) := Eo_of k41_r0.eq_1
def k41_r1 : List COp := [
  ⟨some 12, .move (.tmp 1), none, true⟩,
  ⟨some 13, .binOp .eql 9 (.tmp 12) (.const (.string { data := #[105, 110, 116] })) 9, none, true⟩,
  ⟨some 11, .assign (.tmp 13), none, true⟩]
theorem k41_r1_e : type_of% (@Eo_of P pr N e σ Q _ _ k41_r1.eq_1) := Eo_of k41_r1.eq_1
def k41_r2 : List COp := [
  ⟨some 14, .fieldAddr 29 (.tmp 2) 0, none, true⟩,
  ⟨some 15, .load 3 (.tmp 14), none, true⟩,
  ⟨some 16, .binOp .eql 3 (.tmp 15) (.const (.int .i64 1)) 3, none, true⟩,
  ⟨some 17, .move (.tmp 16), none, true⟩,
  ⟨some 18, .fieldAddr 29 (.tmp 2) 2, some (17, true), true⟩,
  ⟨some 19, .load 9 (.tmp 18), some (17, true), true⟩,
  ⟨some 20, .binOp .eql 9 (.tmp 19) (.const (.string { data := #[] })) 9, some (17, true), true⟩,
  ⟨some 21, .pick (.tmp 17) (.tmp 20) (.const (.bool false)), none, true⟩,
  ⟨some 22, .move (.tmp 21), none, true⟩,
  ⟨some 23, .fieldAddr 29 (.tmp 2) 3, some (22, true), true⟩,
  ⟨some 24, .load 22 (.tmp 23), some (22, true), true⟩,
  ⟨some 25, .call { callee := .builtin .len, args := #[.tmp 24], argTypes := #[22] }, some (22, true), true⟩,
  ⟨some 26, .binOp .eql 3 (.tmp 25) (.const (.int .i64 0)) 3, some (22, true), true⟩,
  ⟨some 27, .pick (.tmp 22) (.tmp 26) (.const (.bool false)), none, true⟩,
  ⟨some 4, .assign (.tmp 27), none, true⟩]
theorem k41_r2_e : type_of% (@Eo_of P pr N e σ Q _ _ k41_r2.eq_1) := Eo_of k41_r2.eq_1
def k41_r3 : List COp := [
  ⟨some 29, .move (.tmp 1), none, true⟩,
  ⟨some 30, .binOp .eql 9 (.tmp 29) (.const (.string { data := #[98, 111, 111, 108] })) 9, none, true⟩,
  ⟨some 28, .assign (.tmp 30), none, true⟩]
theorem k41_r3_e : type_of% (@Eo_of P pr N e σ Q _ _ k41_r3.eq_1) := Eo_of k41_r3.eq_1
def k41_r4 : List COp := [
  ⟨some 31, .fieldAddr 29 (.tmp 2) 0, none, true⟩,
  ⟨some 32, .load 3 (.tmp 31), none, true⟩,
  ⟨some 33, .binOp .eql 3 (.tmp 32) (.const (.int .i64 2)) 3, none, true⟩,
  ⟨some 34, .move (.tmp 33), none, true⟩,
  ⟨some 35, .fieldAddr 29 (.tmp 2) 1, some (34, true), true⟩,
  ⟨some 36, .load 3 (.tmp 35), some (34, true), true⟩,
  ⟨some 37, .binOp .eql 3 (.tmp 36) (.const (.int .i64 0)) 3, some (34, true), true⟩,
  ⟨some 38, .move (.tmp 37), some (34, true), true⟩,
  ⟨some 39, .fieldAddr 29 (.tmp 2) 1, some (38, false), true⟩,
  ⟨some 40, .load 3 (.tmp 39), some (38, false), true⟩,
  ⟨some 41, .binOp .eql 3 (.tmp 40) (.const (.int .i64 1)) 3, some (38, false), true⟩,
  ⟨some 42, .pick (.tmp 38) (.const (.bool true)) (.tmp 41), some (34, true), true⟩,
  ⟨some 43, .pick (.tmp 34) (.tmp 42) (.const (.bool false)), none, true⟩,
  ⟨some 44, .move (.tmp 43), none, true⟩,
  ⟨some 45, .fieldAddr 29 (.tmp 2) 2, some (44, true), true⟩,
  ⟨some 46, .load 9 (.tmp 45), some (44, true), true⟩,
  ⟨some 47, .binOp .eql 9 (.tmp 46) (.const (.string { data := #[] })) 9, some (44, true), true⟩,
  ⟨some 48, .pick (.tmp 44) (.tmp 47) (.const (.bool false)), none, true⟩,
  ⟨some 49, .move (.tmp 48), none, true⟩,
  ⟨some 50, .fieldAddr 29 (.tmp 2) 3, some (49, true), true⟩,
  ⟨some 51, .load 22 (.tmp 50), some (49, true), true⟩,
  ⟨some 52, .call { callee := .builtin .len, args := #[.tmp 51], argTypes := #[22] }, some (49, true), true⟩,
  ⟨some 53, .binOp .eql 3 (.tmp 52) (.const (.int .i64 0)) 3, some (49, true), true⟩,
  ⟨some 54, .pick (.tmp 49) (.tmp 53) (.const (.bool false)), none, true⟩,
  ⟨some 4, .assign (.tmp 54), none, true⟩]
theorem k41_r4_e : type_of% (@Eo_of P pr N e σ Q _ _ k41_r4.eq_1) := Eo_of k41_r4.eq_1
def k41_r5 : List COp := [
  ⟨some 56, .fieldAddr 29 (.tmp 2) 1, none, true⟩,
  ⟨some 57, .load 3 (.tmp 56), none, true⟩,
  ⟨some 58, .binOp .neq 3 (.tmp 57) (.const (.int .i64 0)) 3, none, true⟩,
  ⟨some 59, .move (.tmp 58), none, true⟩,
  ⟨some 60, .move (.tmp 1), some (59, false), true⟩,
  ⟨some 61, .binOp .neq 9 (.tmp 60) (.const (.string { data := #[116, 101, 120, 116] })) 9, some (59, false), true⟩,
  ⟨some 62, .move (.tmp 61), some (59, false), true⟩,
  ⟨some 63, .fieldAddr 29 (.tmp 2) 2, some (62, true), true⟩,
  ⟨some 64, .load 9 (.tmp 63), some (62, true), true⟩,
  ⟨some 65, .binOp .neq 9 (.tmp 64) (.const (.string { data := #[] })) 9, some (62, true), true⟩,
  ⟨some 66, .pick (.tmp 62) (.tmp 65) (.const (.bool false)), some (59, false), true⟩,
  ⟨some 67, .pick (.tmp 59) (.const (.bool true)) (.tmp 66), none, true⟩,
  ⟨some 55, .assign (.tmp 67), none, true⟩]
theorem k41_r5_e : type_of% (@Eo_of P pr N e σ Q _ _ k41_r5.eq_1) := Eo_of k41_r5.eq_1
def k41_r6 : List COp := [
  ⟨some 4, .assign (.const (.bool false)), none, true⟩]
theorem k41_r6_e : type_of% (@Eo_of P pr N e σ Q _ _ k41_r6.eq_1) := Eo_of k41_r6.eq_1
def k41_r7 : List COp := [
  ⟨some 69, .move (.tmp 1), none, true⟩,
  ⟨some 70, .binOp .eql 9 (.tmp 69) (.const (.string { data := #[116, 101, 120, 116] })) 9, none, true⟩,
  ⟨some 68, .assign (.tmp 70), none, true⟩]
theorem k41_r7_e : type_of% (@Eo_of P pr N e σ Q _ _ k41_r7.eq_1) := Eo_of k41_r7.eq_1
def k41_r8 : List COp := [
  ⟨some 71, .fieldAddr 29 (.tmp 2) 0, none, true⟩,
  ⟨some 72, .load 3 (.tmp 71), none, true⟩,
  ⟨some 73, .binOp .eql 3 (.tmp 72) (.const (.int .i64 3)) 3, none, true⟩,
  ⟨some 74, .move (.tmp 73), none, true⟩,
  ⟨some 75, .fieldAddr 29 (.tmp 2) 2, some (74, true), true⟩,
  ⟨some 76, .load 9 (.tmp 75), some (74, true), true⟩,
  ⟨some 77, .call { callee := .builtin .len, args := #[.tmp 76], argTypes := #[9] }, some (74, true), true⟩,
  ⟨some 78, .binOp .leq 3 (.tmp 77) (.const (.int .i64 256)) 3, some (74, true), true⟩,
  ⟨some 79, .pick (.tmp 74) (.tmp 78) (.const (.bool false)), none, true⟩,
  ⟨some 80, .move (.tmp 79), none, true⟩,
  ⟨some 81, .fieldAddr 29 (.tmp 2) 3, some (80, true), true⟩,
  ⟨some 82, .load 22 (.tmp 81), some (80, true), true⟩,
  ⟨some 83, .call { callee := .builtin .len, args := #[.tmp 82], argTypes := #[22] }, some (80, true), true⟩,
  ⟨some 84, .binOp .eql 3 (.tmp 83) (.const (.int .i64 0)) 3, some (80, true), true⟩,
  ⟨some 85, .pick (.tmp 80) (.tmp 84) (.const (.bool false)), none, true⟩,
  ⟨some 4, .assign (.tmp 85), none, true⟩]
theorem k41_r8_e : type_of% (@Eo_of P pr N e σ Q _ _ k41_r8.eq_1) := Eo_of k41_r8.eq_1
def k41_r9 : List COp := [
  ⟨some 87, .move (.tmp 1), none, true⟩,
  ⟨some 88, .call { callee := .value (.func 58), args := #[.tmp 87], argTypes := #[9] }, none, true⟩,
  ⟨some 86, .move (.tmp 88), none, true⟩,
  ⟨some 89, .extract (.tmp 86) 0, none, true⟩,
  ⟨some 90, .extract (.tmp 86) 1, none, true⟩,
  ⟨some 5, .alloc 9, none, true⟩,
  ⟨none, .store 9 (.tmp 5) (.tmp 89), none, true⟩,
  ⟨some 6, .assign (.tmp 90), none, true⟩]
theorem k41_r9_e : type_of% (@Eo_of P pr N e σ Q _ _ k41_r9.eq_1) := Eo_of k41_r9.eq_1
def k41_r10 : List COp := [
  ⟨some 91, .move (.tmp 6), none, true⟩]
theorem k41_r10_e : type_of% (@Eo_of P pr N e σ Q _ _ k41_r10.eq_1) := Eo_of k41_r10.eq_1
def k41_r11 : List COp := [
  ⟨some 92, .fieldAddr 29 (.tmp 2) 0, none, true⟩,
  ⟨some 93, .load 3 (.tmp 92), none, true⟩,
  ⟨some 94, .binOp .eql 3 (.tmp 93) (.const (.int .i64 4)) 3, none, true⟩,
  ⟨some 95, .move (.tmp 94), none, true⟩,
  ⟨some 96, .fieldAddr 29 (.tmp 2) 3, some (95, true), true⟩,
  ⟨some 97, .load 22 (.tmp 96), some (95, true), true⟩,
  ⟨some 98, .call { callee := .builtin .len, args := #[.tmp 97], argTypes := #[22] }, some (95, true), true⟩,
  ⟨some 99, .binOp .leq 3 (.tmp 98) (.const (.int .i64 64)) 3, some (95, true), true⟩,
  ⟨some 100, .pick (.tmp 95) (.tmp 99) (.const (.bool false)), none, true⟩,
  ⟨some 101, .move (.tmp 100), none, true⟩,
  ⟨some 102, .fieldAddr 29 (.tmp 2) 3, some (101, true), true⟩,
  ⟨some 103, .load 22 (.tmp 102), some (101, true), true⟩,
  ⟨some 104, .makeFunc (.func 60) #[] #[.tmp 5], some (101, true), true⟩,
  ⟨some 105, .call { callee := .value (.func 59), args := #[.tmp 103, .tmp 104], argTypes := #[22, 88] }, some (101, true), true⟩,
  ⟨some 106, .unOp .not 4 (.tmp 105), some (101, true), true⟩,
  ⟨some 107, .pick (.tmp 101) (.tmp 106) (.const (.bool false)), none, true⟩,
  ⟨some 4, .assign (.tmp 107), none, true⟩]
theorem k41_r11_e : type_of% (@Eo_of P pr N e σ Q _ _ k41_r11.eq_1) := Eo_of k41_r11.eq_1
def k41_r12 : List COp := [
  ⟨some 109, .move (.tmp 1), none, true⟩,
  ⟨some 110, .call { callee := .value (.func 61), args := #[.tmp 109], argTypes := #[9] }, none, true⟩,
  ⟨some 108, .move (.tmp 110), none, true⟩,
  ⟨some 111, .extract (.tmp 108) 0, none, true⟩,
  ⟨some 112, .extract (.tmp 108) 1, none, true⟩,
  ⟨some 113, .extract (.tmp 108) 2, none, true⟩,
  ⟨some 7, .assign (.tmp 111), none, true⟩,
  ⟨some 8, .assign (.tmp 112), none, true⟩,
  ⟨some 9, .assign (.tmp 113), none, true⟩]
theorem k41_r12_e : type_of% (@Eo_of P pr N e σ Q _ _ k41_r12.eq_1) := Eo_of k41_r12.eq_1
def k41_r13 : List COp := [
  ⟨some 114, .fieldAddr 29 (.tmp 2) 0, none, true⟩,
  ⟨some 115, .load 3 (.tmp 114), none, true⟩,
  ⟨some 116, .binOp .neq 3 (.tmp 115) (.const (.int .i64 5)) 3, none, true⟩,
  ⟨some 117, .move (.tmp 116), none, true⟩,
  ⟨some 118, .fieldAddr 29 (.tmp 2) 3, some (117, false), true⟩,
  ⟨some 119, .load 22 (.tmp 118), some (117, false), true⟩,
  ⟨some 120, .call { callee := .builtin .len, args := #[.tmp 119], argTypes := #[22] }, some (117, false), true⟩,
  ⟨some 121, .binOp .rem 3 (.tmp 120) (.const (.int .i64 2)) 3, some (117, false), true⟩,
  ⟨some 122, .binOp .neq 3 (.tmp 121) (.const (.int .i64 0)) 3, some (117, false), true⟩,
  ⟨some 123, .pick (.tmp 117) (.const (.bool true)) (.tmp 122), none, true⟩,
  ⟨some 124, .move (.tmp 123), none, true⟩,
  ⟨some 125, .fieldAddr 29 (.tmp 2) 3, some (124, false), true⟩,
  ⟨some 126, .load 22 (.tmp 125), some (124, false), true⟩,
  ⟨some 127, .call { callee := .builtin .len, args := #[.tmp 126], argTypes := #[22] }, some (124, false), true⟩,
  ⟨some 128, .binOp .gtr 3 (.tmp 127) (.const (.int .i64 128)) 3, some (124, false), true⟩,
  ⟨some 129, .pick (.tmp 124) (.const (.bool true)) (.tmp 128), none, true⟩]
theorem k41_r13_e : type_of% (@Eo_of P pr N e σ Q _ _ k41_r13.eq_1) := Eo_of k41_r13.eq_1
def k41_r14 : List COp := [
  ⟨some 4, .assign (.const (.bool false)), none, true⟩]
theorem k41_r14_e : type_of% (@Eo_of P pr N e σ Q _ _ k41_r14.eq_1) := Eo_of k41_r14.eq_1
def k41_r15 : List COp := [
  ⟨some 10, .assign (.const (.int .i64 0)), none, true⟩]
theorem k41_r15_e : type_of% (@Eo_of P pr N e σ Q _ _ k41_r15.eq_1) := Eo_of k41_r15.eq_1
def k41_r16 : List COp := [
  ⟨some 130, .move (.tmp 10), none, true⟩,
  ⟨some 131, .fieldAddr 29 (.tmp 2) 3, none, true⟩,
  ⟨some 132, .load 22 (.tmp 131), none, true⟩,
  ⟨some 133, .call { callee := .builtin .len, args := #[.tmp 132], argTypes := #[22] }, none, true⟩,
  ⟨some 134, .binOp .lss 3 (.tmp 130) (.tmp 133) 3, none, true⟩]
theorem k41_r16_e : type_of% (@Eo_of P pr N e σ Q _ _ k41_r16.eq_1) := Eo_of k41_r16.eq_1
def k41_r18 : List COp := [
  ⟨some 137, .fieldAddr 29 (.tmp 2) 3, none, false⟩,
  ⟨some 138, .load 22 (.tmp 137), none, false⟩,
  ⟨some 139, .move (.tmp 10), none, false⟩,
  ⟨some 140, .indexAddr 22 (.tmp 138) (.tmp 139), none, false⟩,
  ⟨some 141, .load 29 (.tmp 140), none, false⟩,
  ⟨some 142, .move (.tmp 7), none, true⟩,
  ⟨some 143, .call { callee := .value (.func 41), args := #[.tmp 141, .tmp 142], argTypes := #[29, 9] }, none, true⟩,
  ⟨some 144, .unOp .not 4 (.tmp 143), none, true⟩,
  ⟨some 145, .move (.tmp 144), none, true⟩,
  ⟨some 146, .fieldAddr 29 (.tmp 2) 3, some (145, false), false⟩,
  ⟨some 147, .load 22 (.tmp 146), some (145, false), false⟩,
  ⟨some 148, .move (.tmp 10), some (145, false), false⟩,
  ⟨some 149, .binOp .add 3 (.tmp 148) (.const (.int .i64 1)) 3, some (145, false), false⟩,
  ⟨some 150, .indexAddr 22 (.tmp 147) (.tmp 149), some (145, false), false⟩,
  ⟨some 151, .load 29 (.tmp 150), some (145, false), false⟩,
  ⟨some 152, .move (.tmp 8), some (145, false), true⟩,
  ⟨some 153, .call { callee := .value (.func 41), args := #[.tmp 151, .tmp 152], argTypes := #[29, 9] }, some (145, false), true⟩,
  ⟨some 154, .unOp .not 4 (.tmp 153), some (145, false), true⟩,
  ⟨some 155, .pick (.tmp 145) (.const (.bool true)) (.tmp 154), none, true⟩,
  ⟨some 156, .move (.tmp 155), none, true⟩,
  ⟨some 157, .move (.tmp 10), some (156, false), true⟩,
  ⟨some 158, .binOp .gtr 3 (.tmp 157) (.const (.int .i64 0)) 3, some (156, false), true⟩,
  ⟨some 159, .move (.tmp 158), some (156, false), true⟩,
  ⟨some 160, .fieldAddr 29 (.tmp 2) 3, some (159, true), false⟩,
  ⟨some 161, .load 22 (.tmp 160), some (159, true), false⟩,
  ⟨some 162, .move (.tmp 10), some (159, true), false⟩,
  ⟨some 163, .binOp .sub 3 (.tmp 162) (.const (.int .i64 2)) 3, some (159, true), false⟩,
  ⟨some 164, .indexAddr 22 (.tmp 161) (.tmp 163), some (159, true), false⟩,
  ⟨some 165, .load 29 (.tmp 164), some (159, true), false⟩,
  ⟨some 166, .fieldAddr 29 (.tmp 2) 3, some (159, true), false⟩,
  ⟨some 167, .load 22 (.tmp 166), some (159, true), false⟩,
  ⟨some 168, .move (.tmp 10), some (159, true), true⟩,
  ⟨some 169, .indexAddr 22 (.tmp 167) (.tmp 168), some (159, true), true⟩,
  ⟨some 170, .load 29 (.tmp 169), some (159, true), true⟩,
  ⟨some 171, .call { callee := .value (.func 62), args := #[.tmp 165, .tmp 170], argTypes := #[29, 29] }, some (159, true), true⟩,
  ⟨some 172, .binOp .geq 3 (.tmp 171) (.const (.int .i64 0)) 3, some (159, true), true⟩,
  ⟨some 173, .pick (.tmp 159) (.tmp 172) (.const (.bool false)), some (156, false), true⟩,
  ⟨some 174, .pick (.tmp 156) (.const (.bool true)) (.tmp 173), none, true⟩]
theorem k41_r18_e : type_of% (@Eo_of P pr N e σ Q _ _ k41_r18.eq_1) := Eo_of k41_r18.eq_1
def k41_r19 : List COp := [
  ⟨some 4, .assign (.const (.bool false)), none, true⟩]
theorem k41_r19_e : type_of% (@Eo_of P pr N e σ Q _ _ k41_r19.eq_1) := Eo_of k41_r19.eq_1
def k41_r17 : List COp := [
  ⟨some 135, .move (.tmp 10), none, true⟩,
  ⟨some 136, .binOp .add 3 (.tmp 135) (.const (.int .i64 2)) 3, none, true⟩,
  ⟨some 10, .assign (.tmp 136), none, true⟩]
theorem k41_r17_e : type_of% (@Eo_of P pr N e σ Q _ _ k41_r17.eq_1) := Eo_of k41_r17.eq_1
def k41_l0 : CC := (.seq (.seq (.region k41_r16) (.cond (.tmp 134) .skip (.exit 1))) (.seq (.block 2 (.seq (.region k41_r18) (.cond (.tmp 174) (.seq (.region k41_r19) .ret) .skip))) (.region k41_r17)))
theorem k41_l0_e : type_of% (@Ev_of P pr N e σ Q _ _ k41_l0.eq_1) := Ev_of k41_l0.eq_1
def k41_r20 : List COp := [
  ⟨some 4, .assign (.const (.bool true)), none, true⟩]
theorem k41_r20_e : type_of% (@Eo_of P pr N e σ Q _ _ k41_r20.eq_1) := Eo_of k41_r20.eq_1
def k41 : CC := (.seq (.region k41_r0) (.seq (.block 0 (.seq (.region k41_r1) (.cond (.tmp 11) (.seq (.region k41_r2) .ret) (.seq (.region k41_r3) (.cond (.tmp 28) (.seq (.region k41_r4) .ret) (.seq (.region k41_r5) (.cond (.tmp 55) (.seq (.region k41_r6) .ret) (.seq (.region k41_r7) (.cond (.tmp 68) (.seq (.region k41_r8) .ret) .skip))))))))) (.seq (.seq (.region k41_r9) (.seq (.region k41_r10) (.cond (.tmp 91) (.seq (.region k41_r11) .ret) .skip))) (.seq (.region k41_r12) (.seq (.seq (.region k41_r13) (.cond (.tmp 129) (.seq (.region k41_r14) .ret) .skip)) (.seq (.seq (.region k41_r15) (.block 1 (.loop k41_l0))) (.seq (.region k41_r20) .ret)))))))
theorem k41_e : type_of% (@Ev_of P pr N e σ Q _ _ k41.eq_1) := Ev_of k41.eq_1
theorem k41_a : type_of% @k41_e ∧ type_of% @k41_r0_e ∧ type_of% @k41_r1_e ∧ type_of% @k41_r2_e ∧ type_of% @k41_r3_e ∧ type_of% @k41_r4_e ∧ type_of% @k41_r5_e ∧ type_of% @k41_r6_e ∧ type_of% @k41_r7_e ∧ type_of% @k41_r8_e ∧ type_of% @k41_r9_e ∧ type_of% @k41_r10_e ∧ type_of% @k41_r11_e ∧ type_of% @k41_r12_e ∧ type_of% @k41_r13_e ∧ type_of% @k41_r14_e ∧ type_of% @k41_r15_e ∧ type_of% @k41_r16_e ∧ type_of% @k41_r18_e ∧ type_of% @k41_r19_e ∧ type_of% @k41_r17_e ∧ type_of% @k41_l0_e ∧ type_of% @k41_r20_e := ⟨@k41_e, @k41_r0_e, @k41_r1_e, @k41_r2_e, @k41_r3_e, @k41_r4_e, @k41_r5_e, @k41_r6_e, @k41_r7_e, @k41_r8_e, @k41_r9_e, @k41_r10_e, @k41_r11_e, @k41_r12_e, @k41_r13_e, @k41_r14_e, @k41_r15_e, @k41_r16_e, @k41_r18_e, @k41_r19_e, @k41_r17_e, @k41_l0_e, @k41_r20_e⟩
/-- quern/value.fits -/
theorem k41_is : FnIs Try.prog prims 41 175 [ResultVar.tmp 4] k41 := FnIs.of_fn Try.func41 (by kernel_rfl) rfl
def k44_r0 : List COp := [
  ⟨some 2, .box 29 (.tmp 0), none, true⟩,
  ⟨some 4, .assign (.const (.bool false)), none, true⟩]
theorem k44_r0_e : type_of% (@Eo_of P pr N e σ Q _ _ k44_r0.eq_1) := Eo_of k44_r0.eq_1
def k44_r1 : CC := (.wregion [
  (true, ⟨some 12, .fieldAddr 29 (.tmp 2) 0, none, true⟩),
  (false, ⟨some 13, .load 3 (.tmp 12), none, true⟩),
  (false, ⟨some 14, .binOp .eql 3 (.tmp 13) (.const (.int .i64 0)) 3, none, true⟩),
  (false, ⟨some 15, .move (.tmp 14), none, true⟩),
  (false, ⟨some 16, .fieldAddr 29 (.tmp 2) 0, some (15, false), false⟩),
  (true, ⟨some 17, .load 3 (.tmp 16), some (15, false), false⟩),
  (false, ⟨some 18, .move (.tmp 1), some (15, false), true⟩),
  (false, ⟨some 19, .call { callee := .value (.func 64), args := #[.tmp 18], argTypes := #[9] }, some (15, false), true⟩),
  (true, ⟨some 20, .field 29 (.tmp 19) 0, some (15, false), true⟩),
  (false, ⟨some 21, .binOp .neq 3 (.tmp 17) (.tmp 20) 3, some (15, false), true⟩),
  (false, ⟨some 22, .pick (.tmp 15) (.const (.bool true)) (.tmp 21), none, true⟩)] false [(5, ⟨some 17, .load 3 (.tmp 16), some (15, false), false⟩, [0, 8])])
theorem k44_r1_e : type_of% (@Ev_of P pr N e σ Q _ _ k44_r1.eq_1) := Ev_of k44_r1.eq_1
def k44_r2 : List COp := [
  ⟨some 4, .assign (.const (.bool false)), none, true⟩]
theorem k44_r2_e : type_of% (@Eo_of P pr N e σ Q _ _ k44_r2.eq_1) := Eo_of k44_r2.eq_1
def k44_r3 : List COp := [
  ⟨some 23, .fieldAddr 29 (.tmp 2) 0, none, true⟩,
  ⟨some 24, .load 3 (.tmp 23), none, true⟩,
  ⟨some 25, .binOp .gtr 3 (.tmp 24) (.const (.int .i64 2)) 3, none, true⟩,
  ⟨some 26, .move (.tmp 25), none, true⟩,
  ⟨some 27, .fieldAddr 29 (.tmp 2) 1, some (26, true), true⟩,
  ⟨some 28, .load 3 (.tmp 27), some (26, true), true⟩,
  ⟨some 29, .binOp .neq 3 (.tmp 28) (.const (.int .i64 0)) 3, some (26, true), true⟩,
  ⟨some 30, .pick (.tmp 26) (.tmp 29) (.const (.bool false)), none, true⟩,
  ⟨some 31, .move (.tmp 30), none, true⟩,
  ⟨some 32, .fieldAddr 29 (.tmp 2) 0, some (31, false), true⟩,
  ⟨some 33, .load 3 (.tmp 32), some (31, false), true⟩,
  ⟨some 34, .binOp .neq 3 (.tmp 33) (.const (.int .i64 3)) 3, some (31, false), true⟩,
  ⟨some 35, .move (.tmp 34), some (31, false), true⟩,
  ⟨some 36, .fieldAddr 29 (.tmp 2) 2, some (35, true), true⟩,
  ⟨some 37, .load 9 (.tmp 36), some (35, true), true⟩,
  ⟨some 38, .binOp .neq 9 (.tmp 37) (.const (.string { data := #[] })) 9, some (35, true), true⟩,
  ⟨some 39, .pick (.tmp 35) (.tmp 38) (.const (.bool false)), some (31, false), true⟩,
  ⟨some 40, .pick (.tmp 31) (.const (.bool true)) (.tmp 39), none, true⟩,
  ⟨some 41, .move (.tmp 40), none, true⟩,
  ⟨some 42, .fieldAddr 29 (.tmp 2) 0, some (41, false), true⟩,
  ⟨some 43, .load 3 (.tmp 42), some (41, false), true⟩,
  ⟨some 44, .binOp .lss 3 (.tmp 43) (.const (.int .i64 4)) 3, some (41, false), true⟩,
  ⟨some 45, .move (.tmp 44), some (41, false), true⟩,
  ⟨some 46, .fieldAddr 29 (.tmp 2) 3, some (45, true), true⟩,
  ⟨some 47, .load 22 (.tmp 46), some (45, true), true⟩,
  ⟨some 48, .call { callee := .builtin .len, args := #[.tmp 47], argTypes := #[22] }, some (45, true), true⟩,
  ⟨some 49, .binOp .gtr 3 (.tmp 48) (.const (.int .i64 0)) 3, some (45, true), true⟩,
  ⟨some 50, .pick (.tmp 45) (.tmp 49) (.const (.bool false)), some (41, false), true⟩,
  ⟨some 51, .pick (.tmp 41) (.const (.bool true)) (.tmp 50), none, true⟩]
theorem k44_r3_e : type_of% (@Eo_of P pr N e σ Q _ _ k44_r3.eq_1) := Eo_of k44_r3.eq_1
def k44_r4 : List COp := [
  ⟨some 4, .assign (.const (.bool false)), none, true⟩]
theorem k44_r4_e : type_of% (@Eo_of P pr N e σ Q _ _ k44_r4.eq_1) := Eo_of k44_r4.eq_1
def k44_r5 : List COp := [
  ⟨some 52, .fieldAddr 29 (.tmp 2) 0, none, true⟩,
  ⟨some 53, .load 3 (.tmp 52), none, true⟩]
theorem k44_r5_e : type_of% (@Eo_of P pr N e σ Q _ _ k44_r5.eq_1) := Eo_of k44_r5.eq_1
def k44_r6 : List COp := [
  ⟨some 55, .binOp .eql 3 (.tmp 53) (.const (.int .i64 2)) 3, none, true⟩,
  ⟨some 54, .assign (.tmp 55), none, true⟩]
theorem k44_r6_e : type_of% (@Eo_of P pr N e σ Q _ _ k44_r6.eq_1) := Eo_of k44_r6.eq_1
def k44_r7 : List COp := [
  ⟨some 56, .fieldAddr 29 (.tmp 2) 1, none, true⟩,
  ⟨some 57, .load 3 (.tmp 56), none, true⟩,
  ⟨some 58, .binOp .eql 3 (.tmp 57) (.const (.int .i64 0)) 3, none, true⟩,
  ⟨some 59, .move (.tmp 58), none, true⟩,
  ⟨some 60, .fieldAddr 29 (.tmp 2) 1, some (59, false), true⟩,
  ⟨some 61, .load 3 (.tmp 60), some (59, false), true⟩,
  ⟨some 62, .binOp .eql 3 (.tmp 61) (.const (.int .i64 1)) 3, some (59, false), true⟩,
  ⟨some 63, .pick (.tmp 59) (.const (.bool true)) (.tmp 62), none, true⟩,
  ⟨some 4, .assign (.tmp 63), none, true⟩]
theorem k44_r7_e : type_of% (@Eo_of P pr N e σ Q _ _ k44_r7.eq_1) := Eo_of k44_r7.eq_1
def k44_r8 : List COp := [
  ⟨some 65, .binOp .eql 3 (.tmp 53) (.const (.int .i64 3)) 3, none, true⟩,
  ⟨some 64, .assign (.tmp 65), none, true⟩]
theorem k44_r8_e : type_of% (@Eo_of P pr N e σ Q _ _ k44_r8.eq_1) := Eo_of k44_r8.eq_1
def k44_r9 : List COp := [
  ⟨some 66, .fieldAddr 29 (.tmp 2) 2, none, true⟩,
  ⟨some 67, .load 9 (.tmp 66), none, true⟩,
  ⟨some 68, .call { callee := .builtin .len, args := #[.tmp 67], argTypes := #[9] }, none, true⟩,
  ⟨some 69, .binOp .leq 3 (.tmp 68) (.const (.int .i64 256)) 3, none, true⟩,
  ⟨some 4, .assign (.tmp 69), none, true⟩]
theorem k44_r9_e : type_of% (@Eo_of P pr N e σ Q _ _ k44_r9.eq_1) := Eo_of k44_r9.eq_1
def k44_r10 : List COp := [
  ⟨some 71, .binOp .eql 3 (.tmp 53) (.const (.int .i64 4)) 3, none, true⟩,
  ⟨some 70, .assign (.tmp 71), none, true⟩]
theorem k44_r10_e : type_of% (@Eo_of P pr N e σ Q _ _ k44_r10.eq_1) := Eo_of k44_r10.eq_1
def k44_r11 : List COp := [
  ⟨some 72, .fieldAddr 29 (.tmp 2) 3, none, true⟩,
  ⟨some 73, .load 22 (.tmp 72), none, true⟩,
  ⟨some 74, .call { callee := .builtin .len, args := #[.tmp 73], argTypes := #[22] }, none, true⟩,
  ⟨some 75, .move (.const (.int .i64 0)), none, true⟩]
theorem k44_r11_e : type_of% (@Eo_of P pr N e σ Q _ _ k44_r11.eq_1) := Eo_of k44_r11.eq_1
def k44_r12 : List COp := [
  ⟨some 76, .binOp .lss 3 (.tmp 75) (.tmp 74) 3, none, true⟩]
theorem k44_r12_e : type_of% (@Eo_of P pr N e σ Q _ _ k44_r12.eq_1) := Eo_of k44_r12.eq_1
def k44_r13 : List COp := [
  ⟨some 77, .indexAddr 22 (.tmp 73) (.tmp 75), none, true⟩,
  ⟨some 78, .load 29 (.tmp 77), none, true⟩,
  ⟨some 6, .alloc 29, none, true⟩,
  ⟨none, .store 29 (.tmp 6) (.tmp 78), none, true⟩]
theorem k44_r13_e : type_of% (@Eo_of P pr N e σ Q _ _ k44_r13.eq_1) := Eo_of k44_r13.eq_1
def k44_r14 : CC := (.wregion [
  (true, ⟨some 79, .load 29 (.tmp 6), none, false⟩),
  (false, ⟨some 80, .move (.tmp 1), none, true⟩),
  (false, ⟨some 81, .call { callee := .value (.func 65), args := #[.tmp 80], argTypes := #[9] }, none, true⟩),
  (true, ⟨some 82, .call { callee := .value (.func 44), args := #[.tmp 79, .tmp 81], argTypes := #[29, 9] }, none, true⟩),
  (false, ⟨some 83, .unOp .not 4 (.tmp 82), none, true⟩)] false [(0, ⟨some 79, .load 29 (.tmp 6), none, false⟩, [0, 3])])
theorem k44_r14_e : type_of% (@Ev_of P pr N e σ Q _ _ k44_r14.eq_1) := Ev_of k44_r14.eq_1
def k44_r15 : List COp := [
  ⟨some 4, .assign (.const (.bool false)), none, true⟩]
theorem k44_r15_e : type_of% (@Eo_of P pr N e σ Q _ _ k44_r15.eq_1) := Eo_of k44_r15.eq_1
def k44_r16 : List COp := [
  ⟨some 84, .binOp .add 3 (.tmp 75) (.const (.int .i64 1)) 3, none, true⟩,
  ⟨some 75, .move (.tmp 84), none, true⟩]
theorem k44_r16_e : type_of% (@Eo_of P pr N e σ Q _ _ k44_r16.eq_1) := Eo_of k44_r16.eq_1
def k44_l0 : CC := (.seq (.region k44_r12) (.seq (.cond (.tmp 76) .skip (.exit 1)) (.seq (.block 2 (.seq (.region k44_r13) (.seq k44_r14 (.cond (.tmp 83) (.seq (.region k44_r15) .ret) .skip)))) (.region k44_r16))))
theorem k44_l0_e : type_of% (@Ev_of P pr N e σ Q _ _ k44_l0.eq_1) := Ev_of k44_l0.eq_1
def k44_r17 : List COp := [
  ⟨some 85, .fieldAddr 29 (.tmp 2) 3, none, true⟩,
  ⟨some 86, .load 22 (.tmp 85), none, true⟩,
  ⟨some 87, .call { callee := .builtin .len, args := #[.tmp 86], argTypes := #[22] }, none, true⟩,
  ⟨some 88, .binOp .leq 3 (.tmp 87) (.const (.int .i64 64)) 3, none, true⟩,
  ⟨some 4, .assign (.tmp 88), none, true⟩]
theorem k44_r17_e : type_of% (@Eo_of P pr N e σ Q _ _ k44_r17.eq_1) := Eo_of k44_r17.eq_1
def k44_r18 : List COp := [
  ⟨some 90, .binOp .eql 3 (.tmp 53) (.const (.int .i64 5)) 3, none, true⟩,
  ⟨some 89, .assign (.tmp 90), none, true⟩]
theorem k44_r18_e : type_of% (@Eo_of P pr N e σ Q _ _ k44_r18.eq_1) := Eo_of k44_r18.eq_1
def k44_r19 : List COp := [
  ⟨some 92, .move (.tmp 1), none, true⟩,
  ⟨some 93, .call { callee := .value (.func 66), args := #[.tmp 92], argTypes := #[9] }, none, true⟩,
  ⟨some 91, .move (.tmp 93), none, true⟩,
  ⟨some 94, .extract (.tmp 91) 0, none, true⟩,
  ⟨some 95, .extract (.tmp 91) 1, none, true⟩,
  ⟨some 7, .assign (.tmp 94), none, true⟩,
  ⟨some 8, .assign (.tmp 95), none, true⟩]
theorem k44_r19_e : type_of% (@Eo_of P pr N e σ Q _ _ k44_r19.eq_1) := Eo_of k44_r19.eq_1
def k44_r20 : List COp := [
  ⟨some 96, .fieldAddr 29 (.tmp 2) 3, none, true⟩,
  ⟨some 97, .load 22 (.tmp 96), none, true⟩,
  ⟨some 98, .call { callee := .builtin .len, args := #[.tmp 97], argTypes := #[22] }, none, true⟩,
  ⟨some 99, .binOp .rem 3 (.tmp 98) (.const (.int .i64 2)) 3, none, true⟩,
  ⟨some 100, .binOp .eql 3 (.tmp 99) (.const (.int .i64 1)) 3, none, true⟩,
  ⟨some 101, .move (.tmp 100), none, true⟩,
  ⟨some 102, .fieldAddr 29 (.tmp 2) 3, some (101, false), true⟩,
  ⟨some 103, .load 22 (.tmp 102), some (101, false), true⟩,
  ⟨some 104, .call { callee := .builtin .len, args := #[.tmp 103], argTypes := #[22] }, some (101, false), true⟩,
  ⟨some 105, .binOp .gtr 3 (.tmp 104) (.const (.int .i64 128)) 3, some (101, false), true⟩,
  ⟨some 106, .pick (.tmp 101) (.const (.bool true)) (.tmp 105), none, true⟩]
theorem k44_r20_e : type_of% (@Eo_of P pr N e σ Q _ _ k44_r20.eq_1) := Eo_of k44_r20.eq_1
def k44_r21 : List COp := [
  ⟨some 4, .assign (.const (.bool false)), none, true⟩]
theorem k44_r21_e : type_of% (@Eo_of P pr N e σ Q _ _ k44_r21.eq_1) := Eo_of k44_r21.eq_1
def k44_r22 : List COp := [
  ⟨some 107, .fieldAddr 29 (.tmp 2) 3, none, true⟩,
  ⟨some 108, .load 22 (.tmp 107), none, true⟩,
  ⟨some 109, .call { callee := .builtin .len, args := #[.tmp 108], argTypes := #[22] }, none, true⟩,
  ⟨some 110, .move (.const (.int .i64 0)), none, true⟩]
theorem k44_r22_e : type_of% (@Eo_of P pr N e σ Q _ _ k44_r22.eq_1) := Eo_of k44_r22.eq_1
def k44_r23 : List COp := [
  ⟨some 111, .binOp .lss 3 (.tmp 110) (.tmp 109) 3, none, true⟩]
theorem k44_r23_e : type_of% (@Eo_of P pr N e σ Q _ _ k44_r23.eq_1) := Eo_of k44_r23.eq_1
def k44_r24 : List COp := [
  ⟨some 112, .move (.tmp 110), none, true⟩,
  ⟨some 113, .indexAddr 22 (.tmp 108) (.tmp 110), none, true⟩,
  ⟨some 114, .load 29 (.tmp 113), none, true⟩,
  ⟨some 10, .alloc 29, none, true⟩,
  ⟨some 9, .assign (.tmp 112), none, true⟩,
  ⟨none, .store 29 (.tmp 10) (.tmp 114), none, true⟩]
theorem k44_r24_e : type_of% (@Eo_of P pr N e σ Q _ _ k44_r24.eq_1) := Eo_of k44_r24.eq_1
def k44_r25 : List COp := [
  ⟨some 115, .move (.tmp 7), none, true⟩,
  ⟨some 11, .assign (.tmp 115), none, true⟩]
theorem k44_r25_e : type_of% (@Eo_of P pr N e σ Q _ _ k44_r25.eq_1) := Eo_of k44_r25.eq_1
def k44_r26 : List COp := [
  ⟨some 116, .move (.tmp 9), none, true⟩,
  ⟨some 117, .binOp .rem 3 (.tmp 116) (.const (.int .i64 2)) 3, none, true⟩,
  ⟨some 118, .binOp .eql 3 (.tmp 117) (.const (.int .i64 1)) 3, none, true⟩]
theorem k44_r26_e : type_of% (@Eo_of P pr N e σ Q _ _ k44_r26.eq_1) := Eo_of k44_r26.eq_1
def k44_r27 : List COp := [
  ⟨some 119, .move (.tmp 8), none, true⟩,
  ⟨some 11, .assign (.tmp 119), none, true⟩]
theorem k44_r27_e : type_of% (@Eo_of P pr N e σ Q _ _ k44_r27.eq_1) := Eo_of k44_r27.eq_1
def k44_r28 : List COp := [
  ⟨some 120, .load 29 (.tmp 10), none, false⟩,
  ⟨some 121, .move (.tmp 11), none, true⟩,
  ⟨some 122, .call { callee := .value (.func 44), args := #[.tmp 120, .tmp 121], argTypes := #[29, 9] }, none, true⟩,
  ⟨some 123, .unOp .not 4 (.tmp 122), none, true⟩,
  ⟨some 124, .move (.tmp 123), none, true⟩,
  ⟨some 125, .move (.tmp 9), some (124, false), true⟩,
  ⟨some 126, .binOp .rem 3 (.tmp 125) (.const (.int .i64 2)) 3, some (124, false), true⟩,
  ⟨some 127, .binOp .eql 3 (.tmp 126) (.const (.int .i64 0)) 3, some (124, false), true⟩,
  ⟨some 128, .move (.tmp 127), some (124, false), true⟩,
  ⟨some 129, .move (.tmp 9), some (128, true), true⟩,
  ⟨some 130, .binOp .gtr 3 (.tmp 129) (.const (.int .i64 1)) 3, some (128, true), true⟩,
  ⟨some 131, .pick (.tmp 128) (.tmp 130) (.const (.bool false)), some (124, false), true⟩,
  ⟨some 132, .move (.tmp 131), some (124, false), true⟩,
  ⟨some 133, .fieldAddr 29 (.tmp 2) 3, some (132, true), false⟩,
  ⟨some 134, .load 22 (.tmp 133), some (132, true), false⟩,
  ⟨some 135, .move (.tmp 9), some (132, true), false⟩,
  ⟨some 136, .binOp .sub 3 (.tmp 135) (.const (.int .i64 2)) 3, some (132, true), false⟩,
  ⟨some 137, .indexAddr 22 (.tmp 134) (.tmp 136), some (132, true), false⟩,
  ⟨some 138, .load 29 (.tmp 137), some (132, true), false⟩,
  ⟨some 139, .load 29 (.tmp 10), some (132, true), true⟩,
  ⟨some 140, .call { callee := .value (.func 67), args := #[.tmp 138, .tmp 139], argTypes := #[29, 29] }, some (132, true), true⟩,
  ⟨some 141, .binOp .geq 3 (.tmp 140) (.const (.int .i64 0)) 3, some (132, true), true⟩,
  ⟨some 142, .pick (.tmp 132) (.tmp 141) (.const (.bool false)), some (124, false), true⟩,
  ⟨some 143, .pick (.tmp 124) (.const (.bool true)) (.tmp 142), none, true⟩]
theorem k44_r28_e : type_of% (@Eo_of P pr N e σ Q _ _ k44_r28.eq_1) := Eo_of k44_r28.eq_1
def k44_r29 : List COp := [
  ⟨some 4, .assign (.const (.bool false)), none, true⟩]
theorem k44_r29_e : type_of% (@Eo_of P pr N e σ Q _ _ k44_r29.eq_1) := Eo_of k44_r29.eq_1
def k44_r30 : List COp := [
  ⟨some 144, .binOp .add 3 (.tmp 110) (.const (.int .i64 1)) 3, none, true⟩,
  ⟨some 110, .move (.tmp 144), none, true⟩]
theorem k44_r30_e : type_of% (@Eo_of P pr N e σ Q _ _ k44_r30.eq_1) := Eo_of k44_r30.eq_1
def k44_l1 : CC := (.seq (.region k44_r23) (.seq (.cond (.tmp 111) .skip (.exit 3)) (.seq (.block 4 (.seq (.region k44_r24) (.seq (.region k44_r25) (.seq (.seq (.region k44_r26) (.cond (.tmp 118) (.region k44_r27) .skip)) (.seq (.region k44_r28) (.cond (.tmp 143) (.seq (.region k44_r29) .ret) .skip)))))) (.region k44_r30))))
theorem k44_l1_e : type_of% (@Ev_of P pr N e σ Q _ _ k44_l1.eq_1) := Ev_of k44_l1.eq_1
def k44_r31 : List COp := [
  ⟨some 4, .assign (.const (.bool true)), none, true⟩]
theorem k44_r31_e : type_of% (@Eo_of P pr N e σ Q _ _ k44_r31.eq_1) := Eo_of k44_r31.eq_1
def k44 : CC := (.seq (.region k44_r0) (.seq (.seq k44_r1 (.cond (.tmp 22) (.seq (.region k44_r2) .ret) .skip)) (.seq (.seq (.region k44_r3) (.cond (.tmp 51) (.seq (.region k44_r4) .ret) .skip)) (.seq (.seq (.region k44_r5) (.block 0 (.seq (.region k44_r6) (.cond (.tmp 54) (.seq (.region k44_r7) .ret) (.seq (.region k44_r8) (.cond (.tmp 64) (.seq (.region k44_r9) .ret) (.seq (.region k44_r10) (.cond (.tmp 70) (.seq (.seq (.region k44_r11) (.block 1 (.loop k44_l0))) (.seq (.region k44_r17) .ret)) (.seq (.region k44_r18) (.cond (.tmp 89) (.seq (.region k44_r19) (.seq (.seq (.region k44_r20) (.cond (.tmp 106) (.seq (.region k44_r21) .ret) .skip)) (.seq (.region k44_r22) (.block 3 (.loop k44_l1))))) .skip)))))))))) (.seq (.region k44_r31) .ret)))))
theorem k44_e : type_of% (@Ev_of P pr N e σ Q _ _ k44.eq_1) := Ev_of k44.eq_1
theorem k44_a : type_of% @k44_e ∧ type_of% @k44_r0_e ∧ type_of% @k44_r1_e ∧ type_of% @k44_r2_e ∧ type_of% @k44_r3_e ∧ type_of% @k44_r4_e ∧ type_of% @k44_r5_e ∧ type_of% @k44_r6_e ∧ type_of% @k44_r7_e ∧ type_of% @k44_r8_e ∧ type_of% @k44_r9_e ∧ type_of% @k44_r10_e ∧ type_of% @k44_r11_e ∧ type_of% @k44_r12_e ∧ type_of% @k44_r13_e ∧ type_of% @k44_r14_e ∧ type_of% @k44_r15_e ∧ type_of% @k44_r16_e ∧ type_of% @k44_l0_e ∧ type_of% @k44_r17_e ∧ type_of% @k44_r18_e ∧ type_of% @k44_r19_e ∧ type_of% @k44_r20_e ∧ type_of% @k44_r21_e ∧ type_of% @k44_r22_e ∧ type_of% @k44_r23_e ∧ type_of% @k44_r24_e ∧ type_of% @k44_r25_e ∧ type_of% @k44_r26_e ∧ type_of% @k44_r27_e ∧ type_of% @k44_r28_e ∧ type_of% @k44_r29_e ∧ type_of% @k44_r30_e ∧ type_of% @k44_l1_e ∧ type_of% @k44_r31_e := ⟨@k44_e, @k44_r0_e, @k44_r1_e, @k44_r2_e, @k44_r3_e, @k44_r4_e, @k44_r5_e, @k44_r6_e, @k44_r7_e, @k44_r8_e, @k44_r9_e, @k44_r10_e, @k44_r11_e, @k44_r12_e, @k44_r13_e, @k44_r14_e, @k44_r15_e, @k44_r16_e, @k44_l0_e, @k44_r17_e, @k44_r18_e, @k44_r19_e, @k44_r20_e, @k44_r21_e, @k44_r22_e, @k44_r23_e, @k44_r24_e, @k44_r25_e, @k44_r26_e, @k44_r27_e, @k44_r28_e, @k44_r29_e, @k44_r30_e, @k44_l1_e, @k44_r31_e⟩
/-- quern/quernref09.of -/
theorem k44_is : FnIs Try.prog prims 44 145 [ResultVar.tmp 4] k44 := FnIs.of_fn Try.func44 (by kernel_rfl) rfl
def k72_r0 : List COp := [
  ⟨some 2, .assign (.const (.int .i64 0)), none, true⟩]
theorem k72_r0_e : type_of% (@Eo_of P pr N e σ Q _ _ k72_r0.eq_1) := Eo_of k72_r0.eq_1
def k72_r1 : List COp := [
  ⟨some 3, .assign (.const (.int .i64 0)), none, true⟩]
theorem k72_r1_e : type_of% (@Eo_of P pr N e σ Q _ _ k72_r1.eq_1) := Eo_of k72_r1.eq_1
def k72_r2 : List COp := [
  ⟨some 6, .move (.tmp 0), none, true⟩,
  ⟨some 7, .call { callee := .builtin .len, args := #[.tmp 6], argTypes := #[70] }, none, true⟩,
  ⟨some 8, .move (.const (.int .i64 0)), none, true⟩]
theorem k72_r2_e : type_of% (@Eo_of P pr N e σ Q _ _ k72_r2.eq_1) := Eo_of k72_r2.eq_1
def k72_r3 : List COp := [
  ⟨some 9, .binOp .lss 3 (.tmp 8) (.tmp 7) 3, none, true⟩]
theorem k72_r3_e : type_of% (@Eo_of P pr N e σ Q _ _ k72_r3.eq_1) := Eo_of k72_r3.eq_1
def k72_r4 : List COp := [
  ⟨some 10, .indexAddr 70 (.tmp 6) (.tmp 8), none, true⟩,
  ⟨some 11, .load 3 (.tmp 10), none, true⟩,
  ⟨some 5, .assign (.tmp 11), none, true⟩]
theorem k72_r4_e : type_of% (@Eo_of P pr N e σ Q _ _ k72_r4.eq_1) := Eo_of k72_r4.eq_1
def k72_r5 : List COp := [
  ⟨some 12, .move (.tmp 5), none, true⟩,
  ⟨some 13, .move (.tmp 3), none, true⟩,
  ⟨some 14, .binOp .neq 3 (.tmp 12) (.tmp 13) 3, none, true⟩]
theorem k72_r5_e : type_of% (@Eo_of P pr N e σ Q _ _ k72_r5.eq_1) := Eo_of k72_r5.eq_1
def k72_r6 : List COp := [
  ⟨some 15, .move (.tmp 5), none, true⟩,
  ⟨some 2, .assign (.tmp 15), none, true⟩]
theorem k72_r6_e : type_of% (@Eo_of P pr N e σ Q _ _ k72_r6.eq_1) := Eo_of k72_r6.eq_1
def k72_r7 : List COp := [
  ⟨some 16, .binOp .add 3 (.tmp 8) (.const (.int .i64 1)) 3, none, true⟩,
  ⟨some 8, .move (.tmp 16), none, true⟩]
theorem k72_r7_e : type_of% (@Eo_of P pr N e σ Q _ _ k72_r7.eq_1) := Eo_of k72_r7.eq_1
def k72_l0 : CC := (.seq (.region k72_r3) (.seq (.cond (.tmp 9) .skip (.exit 0)) (.seq (.block 1 (.seq (.region k72_r4) (.seq (.region k72_r5) (.cond (.tmp 14) (.seq (.region k72_r6) .ret) .skip)))) (.region k72_r7))))
theorem k72_l0_e : type_of% (@Ev_of P pr N e σ Q _ _ k72_l0.eq_1) := Ev_of k72_l0.eq_1
def k72_r8 : List COp := [
  ⟨some 17, .move (.tmp 3), none, true⟩,
  ⟨some 2, .assign (.tmp 17), none, true⟩]
theorem k72_r8_e : type_of% (@Eo_of P pr N e σ Q _ _ k72_r8.eq_1) := Eo_of k72_r8.eq_1
def k72 : CC := (.seq (.region k72_r0) (.seq (.region k72_r1) (.seq (.seq (.region k72_r2) (.block 0 (.loop k72_l0))) (.seq (.region k72_r8) .ret))))
theorem k72_e : type_of% (@Ev_of P pr N e σ Q _ _ k72.eq_1) := Ev_of k72.eq_1
theorem k72_a : type_of% @k72_e ∧ type_of% @k72_r0_e ∧ type_of% @k72_r1_e ∧ type_of% @k72_r2_e ∧ type_of% @k72_r3_e ∧ type_of% @k72_r4_e ∧ type_of% @k72_r5_e ∧ type_of% @k72_r6_e ∧ type_of% @k72_r7_e ∧ type_of% @k72_l0_e ∧ type_of% @k72_r8_e := ⟨@k72_e, @k72_r0_e, @k72_r1_e, @k72_r2_e, @k72_r3_e, @k72_r4_e, @k72_r5_e, @k72_r6_e, @k72_r7_e, @k72_l0_e, @k72_r8_e⟩
/-- cmp.Or[int] -/
theorem k72_is : FnIs Try.prog prims 72 18 [ResultVar.tmp 2] k72 := FnIs.of_fn Try.func72 (by kernel_rfl) rfl
def k73_r0 : List COp := [
  ⟨some 4, .assign (.const (.int .i64 0)), none, true⟩]
theorem k73_r0_e : type_of% (@Eo_of P pr N e σ Q _ _ k73_r0.eq_1) := Eo_of k73_r0.eq_1
def k73_r1 : List COp := [
  ⟨some 7, .move (.tmp 0), none, true⟩,
  ⟨some 8, .call { callee := .value (.func 78), args := #[.tmp 7], argTypes := #[3] }, none, true⟩,
  ⟨some 5, .assign (.tmp 8), none, true⟩]
theorem k73_r1_e : type_of% (@Eo_of P pr N e σ Q _ _ k73_r1.eq_1) := Eo_of k73_r1.eq_1
def k73_r2 : List COp := [
  ⟨some 9, .move (.tmp 1), none, true⟩,
  ⟨some 10, .call { callee := .value (.func 78), args := #[.tmp 9], argTypes := #[3] }, none, true⟩,
  ⟨some 6, .assign (.tmp 10), none, true⟩]
theorem k73_r2_e : type_of% (@Eo_of P pr N e σ Q _ _ k73_r2.eq_1) := Eo_of k73_r2.eq_1
def k73_r3 : List COp := [
  ⟨some 11, .move (.tmp 5), none, true⟩]
theorem k73_r3_e : type_of% (@Eo_of P pr N e σ Q _ _ k73_r3.eq_1) := Eo_of k73_r3.eq_1
def k73_r4 : List COp := [
  ⟨some 12, .move (.tmp 6), none, true⟩]
theorem k73_r4_e : type_of% (@Eo_of P pr N e σ Q _ _ k73_r4.eq_1) := Eo_of k73_r4.eq_1
def k73_r5 : List COp := [
  ⟨some 4, .assign (.const (.int .i64 0)), none, true⟩]
theorem k73_r5_e : type_of% (@Eo_of P pr N e σ Q _ _ k73_r5.eq_1) := Eo_of k73_r5.eq_1
def k73_r6 : List COp := [
  ⟨some 4, .assign (.const (.int .i64 (-1))), none, true⟩]
theorem k73_r6_e : type_of% (@Eo_of P pr N e σ Q _ _ k73_r6.eq_1) := Eo_of k73_r6.eq_1
def k73_r7 : List COp := [
  ⟨some 13, .move (.tmp 6), none, true⟩]
theorem k73_r7_e : type_of% (@Eo_of P pr N e σ Q _ _ k73_r7.eq_1) := Eo_of k73_r7.eq_1
def k73_r8 : List COp := [
  ⟨some 4, .assign (.const (.int .i64 1)), none, true⟩]
theorem k73_r8_e : type_of% (@Eo_of P pr N e σ Q _ _ k73_r8.eq_1) := Eo_of k73_r8.eq_1
def k73_r9 : List COp := [
  ⟨some 14, .move (.tmp 0), none, true⟩,
  ⟨some 15, .move (.tmp 1), none, true⟩,
  ⟨some 16, .binOp .lss 3 (.tmp 14) (.tmp 15) 3, none, true⟩]
theorem k73_r9_e : type_of% (@Eo_of P pr N e σ Q _ _ k73_r9.eq_1) := Eo_of k73_r9.eq_1
def k73_r10 : List COp := [
  ⟨some 4, .assign (.const (.int .i64 (-1))), none, true⟩]
theorem k73_r10_e : type_of% (@Eo_of P pr N e σ Q _ _ k73_r10.eq_1) := Eo_of k73_r10.eq_1
def k73_r11 : List COp := [
  ⟨some 17, .move (.tmp 0), none, true⟩,
  ⟨some 18, .move (.tmp 1), none, true⟩,
  ⟨some 19, .binOp .gtr 3 (.tmp 17) (.tmp 18) 3, none, true⟩]
theorem k73_r11_e : type_of% (@Eo_of P pr N e σ Q _ _ k73_r11.eq_1) := Eo_of k73_r11.eq_1
def k73_r12 : List COp := [
  ⟨some 4, .assign (.const (.int .i64 1)), none, true⟩]
theorem k73_r12_e : type_of% (@Eo_of P pr N e σ Q _ _ k73_r12.eq_1) := Eo_of k73_r12.eq_1
def k73_r13 : List COp := [
  ⟨some 4, .assign (.const (.int .i64 0)), none, true⟩]
theorem k73_r13_e : type_of% (@Eo_of P pr N e σ Q _ _ k73_r13.eq_1) := Eo_of k73_r13.eq_1
def k73 : CC := (.seq (.region k73_r0) (.seq (.region k73_r1) (.seq (.region k73_r2) (.seq (.seq (.region k73_r3) (.cond (.tmp 11) (.seq (.seq (.region k73_r4) (.cond (.tmp 12) (.seq (.region k73_r5) .ret) .skip)) (.seq (.region k73_r6) .ret)) .skip)) (.seq (.seq (.region k73_r7) (.cond (.tmp 13) (.seq (.region k73_r8) .ret) .skip)) (.seq (.seq (.region k73_r9) (.cond (.tmp 16) (.seq (.region k73_r10) .ret) .skip)) (.seq (.seq (.region k73_r11) (.cond (.tmp 19) (.seq (.region k73_r12) .ret) .skip)) (.seq (.region k73_r13) .ret))))))))
theorem k73_e : type_of% (@Ev_of P pr N e σ Q _ _ k73.eq_1) := Ev_of k73.eq_1
theorem k73_a : type_of% @k73_e ∧ type_of% @k73_r0_e ∧ type_of% @k73_r1_e ∧ type_of% @k73_r2_e ∧ type_of% @k73_r3_e ∧ type_of% @k73_r4_e ∧ type_of% @k73_r5_e ∧ type_of% @k73_r6_e ∧ type_of% @k73_r7_e ∧ type_of% @k73_r8_e ∧ type_of% @k73_r9_e ∧ type_of% @k73_r10_e ∧ type_of% @k73_r11_e ∧ type_of% @k73_r12_e ∧ type_of% @k73_r13_e := ⟨@k73_e, @k73_r0_e, @k73_r1_e, @k73_r2_e, @k73_r3_e, @k73_r4_e, @k73_r5_e, @k73_r6_e, @k73_r7_e, @k73_r8_e, @k73_r9_e, @k73_r10_e, @k73_r11_e, @k73_r12_e, @k73_r13_e⟩
/-- cmp.Compare[int] -/
theorem k73_is : FnIs Try.prog prims 73 20 [ResultVar.tmp 4] k73 := FnIs.of_fn Try.func73 (by kernel_rfl) rfl
end Go.Proofs.Ytplhelapcpcncaa.Q

