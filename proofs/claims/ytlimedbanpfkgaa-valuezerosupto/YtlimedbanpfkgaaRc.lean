/- The code of some functions without its ornaments. Written by gen.py. -/
import Derived.Test.YtlimedbanpfkgaaQp
import Derived.Test.YtlimedbanpfkgaaChecked
import Derived.Test.YtlimedbanpfkgaaPr
import Derived.Test.YtlimedbanpfkgaaR0
set_option maxRecDepth 100000
namespace Go.Proofs.Ytlimedbanpfkgaa.Q
open Go Go.RowKit Go.Proofs
variable {P : Program} {pr : Prim} {N : Nat} {e : Nat → V} {σ : St} {Q : VX → (Nat → V) → St → Prop}
def k74_r0 : List COp := [
  ⟨some 4, .assign (.const (.bool false)), none, true⟩]
theorem k74_r0_e : type_of% (@Eo_of P pr N e σ Q _ _ k74_r0.eq_1) := Eo_of k74_r0.eq_1
def k74_r1 : List COp := [
  ⟨some 11, .move (.tmp 0), none, true⟩]
theorem k74_r1_e : type_of% (@Eo_of P pr N e σ Q _ _ k74_r1.eq_1) := Eo_of k74_r1.eq_1
def k74_r2 : List COp := [
  ⟨some 13, .binOp .eql 9 (.tmp 11) (.const (.string { data := #[105, 110, 116] })) 9, none, true⟩,
  ⟨some 12, .assign (.tmp 13), none, true⟩]
theorem k74_r2_e : type_of% (@Eo_of P pr N e σ Q _ _ k74_r2.eq_1) := Eo_of k74_r2.eq_1
def k74_r3 : List COp := [
  ⟨some 14, .binOp .eql 9 (.tmp 11) (.const (.string { data := #[98, 111, 111, 108] })) 9, none, true⟩,
  ⟨some 12, .assign (.tmp 14), none, true⟩]
theorem k74_r3_e : type_of% (@Eo_of P pr N e σ Q _ _ k74_r3.eq_1) := Eo_of k74_r3.eq_1
def k74_r4 : List COp := [
  ⟨some 15, .binOp .eql 9 (.tmp 11) (.const (.string { data := #[116, 101, 120, 116] })) 9, none, true⟩,
  ⟨some 12, .assign (.tmp 15), none, true⟩]
theorem k74_r4_e : type_of% (@Eo_of P pr N e σ Q _ _ k74_r4.eq_1) := Eo_of k74_r4.eq_1
def k74_r5 : List COp := [
  ⟨some 16, .move (.tmp 1), none, true⟩,
  ⟨some 17, .binOp .leq 3 (.tmp 16) (.const (.int .i64 4)) 3, none, true⟩,
  ⟨some 4, .assign (.tmp 17), none, true⟩]
theorem k74_r5_e : type_of% (@Eo_of P pr N e σ Q _ _ k74_r5.eq_1) := Eo_of k74_r5.eq_1
def k74_r6 : List COp := [
  ⟨some 18, .move (.tmp 0), none, true⟩,
  ⟨some 19, .call { callee := .builtin .len, args := #[.tmp 18], argTypes := #[9] }, none, true⟩,
  ⟨some 20, .binOp .lss 3 (.tmp 19) (.const (.int .i64 2)) 3, none, true⟩,
  ⟨some 21, .move (.tmp 20), none, true⟩,
  ⟨some 22, .move (.tmp 1), some (21, false), true⟩,
  ⟨some 23, .binOp .geq 3 (.tmp 22) (.const (.int .i64 4)) 3, some (21, false), true⟩,
  ⟨some 24, .pick (.tmp 21) (.const (.bool true)) (.tmp 23), none, true⟩]
theorem k74_r6_e : type_of% (@Eo_of P pr N e σ Q _ _ k74_r6.eq_1) := Eo_of k74_r6.eq_1
def k74_r7 : List COp := [
  ⟨some 4, .assign (.const (.bool false)), none, true⟩]
theorem k74_r7_e : type_of% (@Eo_of P pr N e σ Q _ _ k74_r7.eq_1) := Eo_of k74_r7.eq_1
def k74_r8 : List COp := [
  ⟨some 26, .move (.tmp 0), none, true⟩,
  ⟨some 27, .move (.tmp 0), none, true⟩,
  ⟨some 28, .call { callee := .builtin .len, args := #[.tmp 27], argTypes := #[9] }, none, true⟩,
  ⟨some 29, .binOp .sub 3 (.tmp 28) (.const (.int .i64 1)) 3, none, true⟩,
  ⟨some 30, .slice 9 (.tmp 26) .none (some (.tmp 29)) .none, none, true⟩,
  ⟨some 31, .call { callee := .value (.func 90), args := #[.tmp 30, .const (.string { data := #[91] })], argTypes := #[9, 9] }, none, true⟩,
  ⟨some 25, .move (.tmp 31), none, true⟩,
  ⟨some 32, .extract (.tmp 25) 0, none, true⟩,
  ⟨some 33, .extract (.tmp 25) 1, none, true⟩,
  ⟨some 5, .assign (.tmp 32), none, true⟩,
  ⟨some 6, .assign (.tmp 33), none, true⟩]
theorem k74_r8_e : type_of% (@Eo_of P pr N e σ Q _ _ k74_r8.eq_1) := Eo_of k74_r8.eq_1
def k74_r9 : List COp := [
  ⟨some 34, .move (.tmp 6), none, true⟩]
theorem k74_r9_e : type_of% (@Eo_of P pr N e σ Q _ _ k74_r9.eq_1) := Eo_of k74_r9.eq_1
def k74_r10 : List COp := [
  ⟨some 35, .move (.tmp 0), none, true⟩,
  ⟨some 36, .move (.tmp 0), none, true⟩,
  ⟨some 37, .call { callee := .builtin .len, args := #[.tmp 36], argTypes := #[9] }, none, true⟩,
  ⟨some 38, .binOp .sub 3 (.tmp 37) (.const (.int .i64 1)) 3, none, true⟩,
  ⟨some 39, .index 9 (.tmp 35) (.tmp 38), none, true⟩,
  ⟨some 40, .binOp .eql 5 (.tmp 39) (.const (.int .u8 93)) 5, none, true⟩,
  ⟨some 41, .move (.tmp 40), none, true⟩,
  ⟨some 42, .move (.tmp 5), some (41, true), true⟩,
  ⟨some 43, .move (.tmp 1), some (41, true), true⟩,
  ⟨some 44, .binOp .add 3 (.tmp 43) (.const (.int .i64 1)) 3, some (41, true), true⟩,
  ⟨some 45, .call { callee := .value (.func 74), args := #[.tmp 42, .tmp 44], argTypes := #[9, 3] }, some (41, true), true⟩,
  ⟨some 46, .pick (.tmp 41) (.tmp 45) (.const (.bool false)), none, true⟩,
  ⟨some 4, .assign (.tmp 46), none, true⟩]
theorem k74_r10_e : type_of% (@Eo_of P pr N e σ Q _ _ k74_r10.eq_1) := Eo_of k74_r10.eq_1
def k74_r11 : List COp := [
  ⟨some 47, .buildSlice 98 2 #[(0, .const (.string { data := #[123, 105, 110, 116, 58] })), (1, .const (.string { data := #[123, 116, 101, 120, 116, 58] }))], none, true⟩,
  ⟨some 48, .call { callee := .builtin .len, args := #[.tmp 47], argTypes := #[98] }, none, true⟩,
  ⟨some 49, .move (.const (.int .i64 0)), none, true⟩]
theorem k74_r11_e : type_of% (@Eo_of P pr N e σ Q _ _ k74_r11.eq_1) := Eo_of k74_r11.eq_1
def k74_r12 : List COp := [
  ⟨some 50, .binOp .lss 3 (.tmp 49) (.tmp 48) 3, none, true⟩]
theorem k74_r12_e : type_of% (@Eo_of P pr N e σ Q _ _ k74_r12.eq_1) := Eo_of k74_r12.eq_1
def k74_r13 : List COp := [
  ⟨some 51, .indexAddr 98 (.tmp 47) (.tmp 49), none, true⟩,
  ⟨some 52, .load 9 (.tmp 51), none, true⟩,
  ⟨some 8, .assign (.tmp 52), none, true⟩]
theorem k74_r13_e : type_of% (@Eo_of P pr N e σ Q _ _ k74_r13.eq_1) := Eo_of k74_r13.eq_1
def k74_r14 : List COp := [
  ⟨some 54, .move (.tmp 0), none, true⟩,
  ⟨some 55, .move (.tmp 0), none, true⟩,
  ⟨some 56, .call { callee := .builtin .len, args := #[.tmp 55], argTypes := #[9] }, none, true⟩,
  ⟨some 57, .binOp .sub 3 (.tmp 56) (.const (.int .i64 1)) 3, none, true⟩,
  ⟨some 58, .slice 9 (.tmp 54) .none (some (.tmp 57)) .none, none, true⟩,
  ⟨some 59, .move (.tmp 8), none, true⟩,
  ⟨some 60, .call { callee := .value (.func 90), args := #[.tmp 58, .tmp 59], argTypes := #[9, 9] }, none, true⟩,
  ⟨some 53, .move (.tmp 60), none, true⟩,
  ⟨some 61, .extract (.tmp 53) 0, none, true⟩,
  ⟨some 62, .extract (.tmp 53) 1, none, true⟩,
  ⟨some 9, .assign (.tmp 61), none, true⟩,
  ⟨some 10, .assign (.tmp 62), none, true⟩]
theorem k74_r14_e : type_of% (@Eo_of P pr N e σ Q _ _ k74_r14.eq_1) := Eo_of k74_r14.eq_1
def k74_r15 : List COp := [
  ⟨some 63, .move (.tmp 10), none, true⟩]
theorem k74_r15_e : type_of% (@Eo_of P pr N e σ Q _ _ k74_r15.eq_1) := Eo_of k74_r15.eq_1
def k74_r16 : List COp := [
  ⟨some 64, .move (.tmp 0), none, true⟩,
  ⟨some 65, .move (.tmp 0), none, true⟩,
  ⟨some 66, .call { callee := .builtin .len, args := #[.tmp 65], argTypes := #[9] }, none, true⟩,
  ⟨some 67, .binOp .sub 3 (.tmp 66) (.const (.int .i64 1)) 3, none, true⟩,
  ⟨some 68, .index 9 (.tmp 64) (.tmp 67), none, true⟩,
  ⟨some 69, .binOp .eql 5 (.tmp 68) (.const (.int .u8 125)) 5, none, true⟩,
  ⟨some 70, .move (.tmp 69), none, true⟩,
  ⟨some 71, .move (.tmp 9), some (70, true), true⟩,
  ⟨some 72, .move (.tmp 1), some (70, true), true⟩,
  ⟨some 73, .binOp .add 3 (.tmp 72) (.const (.int .i64 1)) 3, some (70, true), true⟩,
  ⟨some 74, .call { callee := .value (.func 74), args := #[.tmp 71, .tmp 73], argTypes := #[9, 3] }, some (70, true), true⟩,
  ⟨some 75, .pick (.tmp 70) (.tmp 74) (.const (.bool false)), none, true⟩,
  ⟨some 4, .assign (.tmp 75), none, true⟩]
theorem k74_r16_e : type_of% (@Eo_of P pr N e σ Q _ _ k74_r16.eq_1) := Eo_of k74_r16.eq_1
def k74_r17 : List COp := [
  ⟨some 76, .binOp .add 3 (.tmp 49) (.const (.int .i64 1)) 3, none, true⟩,
  ⟨some 49, .move (.tmp 76), none, true⟩]
theorem k74_r17_e : type_of% (@Eo_of P pr N e σ Q _ _ k74_r17.eq_1) := Eo_of k74_r17.eq_1
def k74_l0 : CC := (.seq (.region k74_r12) (.seq (.cond (.tmp 50) .skip (.exit 1)) (.seq (.block 2 (.seq (.region k74_r13) (.seq (.region k74_r14) (.seq (.region k74_r15) (.cond (.tmp 63) (.seq (.region k74_r16) .ret) .skip))))) (.region k74_r17))))
theorem k74_l0_e : type_of% (@Ev_of P pr N e σ Q _ _ k74_l0.eq_1) := Ev_of k74_l0.eq_1
def k74_r18 : List COp := [
  ⟨some 4, .assign (.const (.bool false)), none, true⟩]
theorem k74_r18_e : type_of% (@Eo_of P pr N e σ Q _ _ k74_r18.eq_1) := Eo_of k74_r18.eq_1
def k74 : CC := (.seq (.region k74_r0) (.seq (.seq (.region k74_r1) (.block 0 (.seq (.seq (.region k74_r2) (.cond (.tmp 12) .skip (.seq (.region k74_r3) (.cond (.tmp 12) .skip (.region k74_r4))))) (.cond (.tmp 12) (.seq (.region k74_r5) .ret) .skip)))) (.seq (.seq (.region k74_r6) (.cond (.tmp 24) (.seq (.region k74_r7) .ret) .skip)) (.seq (.seq (.region k74_r8) (.seq (.region k74_r9) (.cond (.tmp 34) (.seq (.region k74_r10) .ret) .skip))) (.seq (.seq (.region k74_r11) (.block 1 (.loop k74_l0))) (.seq (.region k74_r18) .ret))))))
theorem k74_e : type_of% (@Ev_of P pr N e σ Q _ _ k74.eq_1) := Ev_of k74.eq_1
theorem k74_a : type_of% @k74_e ∧ type_of% @k74_r0_e ∧ type_of% @k74_r1_e ∧ type_of% @k74_r2_e ∧ type_of% @k74_r3_e ∧ type_of% @k74_r4_e ∧ type_of% @k74_r5_e ∧ type_of% @k74_r6_e ∧ type_of% @k74_r7_e ∧ type_of% @k74_r8_e ∧ type_of% @k74_r9_e ∧ type_of% @k74_r10_e ∧ type_of% @k74_r11_e ∧ type_of% @k74_r12_e ∧ type_of% @k74_r13_e ∧ type_of% @k74_r14_e ∧ type_of% @k74_r15_e ∧ type_of% @k74_r16_e ∧ type_of% @k74_r17_e ∧ type_of% @k74_l0_e ∧ type_of% @k74_r18_e := ⟨@k74_e, @k74_r0_e, @k74_r1_e, @k74_r2_e, @k74_r3_e, @k74_r4_e, @k74_r5_e, @k74_r6_e, @k74_r7_e, @k74_r8_e, @k74_r9_e, @k74_r10_e, @k74_r11_e, @k74_r12_e, @k74_r13_e, @k74_r14_e, @k74_r15_e, @k74_r16_e, @k74_r17_e, @k74_l0_e, @k74_r18_e⟩
/-- quern/show.kind -/
theorem k74_is : FnIs Try.prog prims 74 77 [ResultVar.tmp 4] k74 := FnIs.of_fn Try.func74 (by kernel_rfl) rfl
def k75_r0 : List COp := [
  ⟨some 4, .assign (.const (.string { data := #[] })), none, true⟩,
  ⟨some 5, .assign (.const (.string { data := #[] })), none, true⟩,
  ⟨some 6, .assign (.const (.bool false)), none, true⟩]
theorem k75_r0_e : type_of% (@Eo_of P pr N e σ Q _ _ k75_r0.eq_1) := Eo_of k75_r0.eq_1
def k75_r1 : List COp := [
  ⟨some 8, .move (.tmp 0), none, true⟩,
  ⟨some 9, .move (.tmp 1), none, true⟩,
  ⟨some 10, .call { callee := .value (.func 91), args := #[.tmp 8, .tmp 9], argTypes := #[9, 9] }, none, true⟩,
  ⟨some 7, .assign (.tmp 10), none, true⟩]
theorem k75_r1_e : type_of% (@Eo_of P pr N e σ Q _ _ k75_r1.eq_1) := Eo_of k75_r1.eq_1
def k75_r2 : List COp := [
  ⟨some 11, .move (.tmp 7), none, true⟩,
  ⟨some 12, .binOp .geq 3 (.tmp 11) (.const (.int .i64 0)) 3, none, true⟩]
theorem k75_r2_e : type_of% (@Eo_of P pr N e σ Q _ _ k75_r2.eq_1) := Eo_of k75_r2.eq_1
def k75_r3 : List COp := [
  ⟨some 13, .move (.tmp 0), none, false⟩,
  ⟨some 14, .move (.tmp 7), none, false⟩,
  ⟨some 15, .slice 9 (.tmp 13) .none (some (.tmp 14)) .none, none, false⟩,
  ⟨some 16, .move (.tmp 0), none, false⟩,
  ⟨some 17, .move (.tmp 7), none, false⟩,
  ⟨some 18, .move (.tmp 1), none, false⟩,
  ⟨some 19, .call { callee := .builtin .len, args := #[.tmp 18], argTypes := #[9] }, none, false⟩,
  ⟨some 20, .binOp .add 3 (.tmp 17) (.tmp 19) 3, none, false⟩,
  ⟨some 21, .slice 9 (.tmp 16) (some (.tmp 20)) .none .none, none, false⟩,
  ⟨some 4, .assign (.tmp 15), none, true⟩,
  ⟨some 5, .assign (.tmp 21), none, true⟩,
  ⟨some 6, .assign (.const (.bool true)), none, true⟩]
theorem k75_r3_e : type_of% (@Eo_of P pr N e σ Q _ _ k75_r3.eq_1) := Eo_of k75_r3.eq_1
def k75_r4 : List COp := [
  ⟨some 22, .move (.tmp 0), none, true⟩,
  ⟨some 4, .assign (.tmp 22), none, true⟩,
  ⟨some 5, .assign (.const (.string { data := #[] })), none, true⟩,
  ⟨some 6, .assign (.const (.bool false)), none, true⟩]
theorem k75_r4_e : type_of% (@Eo_of P pr N e σ Q _ _ k75_r4.eq_1) := Eo_of k75_r4.eq_1
def k75 : CC := (.seq (.region k75_r0) (.seq (.seq (.region k75_r1) (.seq (.region k75_r2) (.cond (.tmp 12) (.seq (.region k75_r3) .ret) .skip))) (.seq (.region k75_r4) .ret)))
theorem k75_e : type_of% (@Ev_of P pr N e σ Q _ _ k75.eq_1) := Ev_of k75.eq_1
theorem k75_a : type_of% @k75_e ∧ type_of% @k75_r0_e ∧ type_of% @k75_r1_e ∧ type_of% @k75_r2_e ∧ type_of% @k75_r3_e ∧ type_of% @k75_r4_e := ⟨@k75_e, @k75_r0_e, @k75_r1_e, @k75_r2_e, @k75_r3_e, @k75_r4_e⟩
/-- internal/stringslite.Cut -/
theorem k75_is : FnIs Try.prog prims 75 23 [ResultVar.tmp 4, ResultVar.tmp 5, ResultVar.tmp 6] k75 := FnIs.of_fn Try.func75 (by kernel_rfl) rfl
def k76_r0 : List COp := [
  ⟨some 4, .assign (.const (.bool false)), none, true⟩]
theorem k76_r0_e : type_of% (@Eo_of P pr N e σ Q _ _ k76_r0.eq_1) := Eo_of k76_r0.eq_1
def k76_r1 : List COp := [
  ⟨some 5, .move (.tmp 0), none, true⟩,
  ⟨some 6, .move (.tmp 1), none, true⟩,
  ⟨some 7, .call { callee := .value (.func 92), args := #[.tmp 5, .tmp 6], argTypes := #[22, 26] }, none, true⟩,
  ⟨some 8, .binOp .geq 3 (.tmp 7) (.const (.int .i64 0)) 3, none, true⟩,
  ⟨some 4, .assign (.tmp 8), none, true⟩]
theorem k76_r1_e : type_of% (@Eo_of P pr N e σ Q _ _ k76_r1.eq_1) := Eo_of k76_r1.eq_1
def k76 : CC := (.seq (.region k76_r0) (.seq (.region k76_r1) .ret))
theorem k76_e : type_of% (@Ev_of P pr N e σ Q _ _ k76.eq_1) := Ev_of k76.eq_1
theorem k76_a : type_of% @k76_e ∧ type_of% @k76_r0_e ∧ type_of% @k76_r1_e := ⟨@k76_e, @k76_r0_e, @k76_r1_e⟩
/-- slices.ContainsFunc[[]quern/api.Value,quern/api.Value] -/
theorem k76_is : FnIs Try.prog prims 76 9 [ResultVar.tmp 4] k76 := FnIs.of_fn Try.func76 (by kernel_rfl) rfl
def k77_r0 : List COp := [
  ⟨some 2, .box 24 (.tmp 0), none, true⟩,
  ⟨some 3, .assign (.const (.bool false)), none, true⟩]
theorem k77_r0_e : type_of% (@Eo_of P pr N e σ Q _ _ k77_r0.eq_1) := Eo_of k77_r0.eq_1
def k77_r1 : List COp := [
  ⟨some 4, .load 24 (.tmp 2), none, true⟩,
  ⟨some 5, .load 9 (.tmp 1), none, true⟩,
  ⟨some 6, .call { callee := .value (.func 54), args := #[.tmp 4, .tmp 5], argTypes := #[24, 9] }, none, true⟩,
  ⟨some 7, .unOp .not 4 (.tmp 6), none, true⟩,
  ⟨some 3, .assign (.tmp 7), none, true⟩]
theorem k77_r1_e : type_of% (@Eo_of P pr N e σ Q _ _ k77_r1.eq_1) := Eo_of k77_r1.eq_1
def k77 : CC := (.seq (.region k77_r0) (.seq (.region k77_r1) .ret))
theorem k77_e : type_of% (@Ev_of P pr N e σ Q _ _ k77.eq_1) := Ev_of k77.eq_1
theorem k77_a : type_of% @k77_e ∧ type_of% @k77_r0_e ∧ type_of% @k77_r1_e := ⟨@k77_e, @k77_r0_e, @k77_r1_e⟩
/-- quern/value.fits$1 -/
theorem k77_is : FnIs Try.prog prims 77 8 [ResultVar.tmp 3] k77 := FnIs.of_fn Try.func77 (by kernel_rfl) rfl
def k78_r0 : List COp := [
  ⟨some 2, .assign (.const (.bool false)), none, true⟩]
theorem k78_r0_e : type_of% (@Eo_of P pr N e σ Q _ _ k78_r0.eq_1) := Eo_of k78_r0.eq_1
def k78_r1 : List COp := [
  ⟨some 3, .move (.tmp 0), none, true⟩,
  ⟨some 4, .move (.tmp 0), none, true⟩,
  ⟨some 5, .binOp .neq 3 (.tmp 3) (.tmp 4) 3, none, true⟩,
  ⟨some 2, .assign (.tmp 5), none, true⟩]
theorem k78_r1_e : type_of% (@Eo_of P pr N e σ Q _ _ k78_r1.eq_1) := Eo_of k78_r1.eq_1
def k78 : CC := (.seq (.region k78_r0) (.seq (.region k78_r1) .ret))
theorem k78_e : type_of% (@Ev_of P pr N e σ Q _ _ k78.eq_1) := Ev_of k78.eq_1
theorem k78_a : type_of% @k78_e ∧ type_of% @k78_r0_e ∧ type_of% @k78_r1_e := ⟨@k78_e, @k78_r0_e, @k78_r1_e⟩
/-- cmp.isNaN[int] -/
theorem k78_is : FnIs Try.prog prims 78 6 [ResultVar.tmp 2] k78 := FnIs.of_fn Try.func78 (by kernel_rfl) rfl
def k80_r0 : List COp := [
  ⟨some 4, .assign (.const (.slice .none 0 0)), none, true⟩]
theorem k80_r0_e : type_of% (@Eo_of P pr N e σ Q _ _ k80_r0.eq_1) := Eo_of k80_r0.eq_1
def k80_r1 : List COp := [
  ⟨some 8, .move (.tmp 0), none, true⟩,
  ⟨some 9, .call { callee := .builtin .len, args := #[.tmp 8], argTypes := #[44] }, none, true⟩,
  ⟨some 10, .move (.tmp 1), none, true⟩,
  ⟨some 11, .call { callee := .builtin .len, args := #[.tmp 10], argTypes := #[86] }, none, true⟩,
  ⟨some 12, .binOp .mul 3 (.const (.int .i64 2)) (.tmp 11) 3, none, true⟩,
  ⟨some 13, .binOp .add 3 (.tmp 9) (.tmp 12) 3, none, true⟩,
  ⟨some 14, .makeSlice 44 (.const (.int .i64 0)) (.tmp 13), none, true⟩,
  ⟨some 15, .move (.tmp 0), none, true⟩,
  ⟨some 16, .call { callee := .builtin .append, args := #[.tmp 14, .tmp 15], argTypes := #[44, 44] }, none, true⟩,
  ⟨some 5, .assign (.tmp 16), none, true⟩]
theorem k80_r1_e : type_of% (@Eo_of P pr N e σ Q _ _ k80_r1.eq_1) := Eo_of k80_r1.eq_1
def k80_r2 : List COp := [
  ⟨some 17, .move (.tmp 1), none, true⟩,
  ⟨some 18, .call { callee := .builtin .len, args := #[.tmp 17], argTypes := #[86] }, none, true⟩,
  ⟨some 19, .move (.const (.int .i64 0)), none, true⟩]
theorem k80_r2_e : type_of% (@Eo_of P pr N e σ Q _ _ k80_r2.eq_1) := Eo_of k80_r2.eq_1
def k80_r3 : List COp := [
  ⟨some 20, .binOp .lss 3 (.tmp 19) (.tmp 18) 3, none, true⟩]
theorem k80_r3_e : type_of% (@Eo_of P pr N e σ Q _ _ k80_r3.eq_1) := Eo_of k80_r3.eq_1
def k80_r4 : List COp := [
  ⟨some 21, .indexAddr 86 (.tmp 17) (.tmp 19), none, true⟩,
  ⟨some 22, .load 3 (.tmp 21), none, true⟩,
  ⟨some 7, .assign (.tmp 22), none, true⟩]
theorem k80_r4_e : type_of% (@Eo_of P pr N e σ Q _ _ k80_r4.eq_1) := Eo_of k80_r4.eq_1
def k80_r5 : List COp := [
  ⟨some 23, .move (.tmp 7), none, true⟩,
  ⟨some 24, .call { callee := .builtin .max, args := #[.tmp 23, .const (.int .i64 0)], argTypes := #[3, 3] }, none, true⟩,
  ⟨some 7, .assign (.tmp 24), none, true⟩]
theorem k80_r5_e : type_of% (@Eo_of P pr N e σ Q _ _ k80_r5.eq_1) := Eo_of k80_r5.eq_1
def k80_r6 : List COp := [
  ⟨some 25, .move (.tmp 7), none, true⟩,
  ⟨some 26, .binOp .gtr 3 (.tmp 25) (.const (.int .i64 127)) 3, none, true⟩]
theorem k80_r6_e : type_of% (@Eo_of P pr N e σ Q _ _ k80_r6.eq_1) := Eo_of k80_r6.eq_1
def k80_r8 : List COp := [
  ⟨some 29, .move (.tmp 5), none, true⟩,
  ⟨some 30, .move (.tmp 7), none, true⟩,
  ⟨some 31, .binOp .and 3 (.tmp 30) (.const (.int .i64 127)) 3, none, true⟩,
  ⟨some 32, .binOp .or 3 (.tmp 31) (.const (.int .i64 128)) 3, none, true⟩,
  ⟨some 33, .convert 3 5 (.tmp 32), none, true⟩,
  ⟨some 34, .buildSlice 44 1 #[(0, .tmp 33)], none, true⟩,
  ⟨some 35, .call { callee := .builtin .append, args := #[.tmp 29, .tmp 34], argTypes := #[44, 44] }, none, true⟩,
  ⟨some 5, .assign (.tmp 35), none, true⟩]
theorem k80_r8_e : type_of% (@Eo_of P pr N e σ Q _ _ k80_r8.eq_1) := Eo_of k80_r8.eq_1
def k80_r7 : List COp := [
  ⟨some 27, .move (.tmp 7), none, true⟩,
  ⟨some 28, .binOp .shr 3 (.tmp 27) (.const (.int .u64 7)) 100, none, true⟩,
  ⟨some 7, .assign (.tmp 28), none, true⟩]
theorem k80_r7_e : type_of% (@Eo_of P pr N e σ Q _ _ k80_r7.eq_1) := Eo_of k80_r7.eq_1
def k80_l1 : CC := (.seq (.seq (.region k80_r6) (.cond (.tmp 26) .skip (.exit 2))) (.seq (.block 3 (.region k80_r8)) (.region k80_r7)))
theorem k80_l1_e : type_of% (@Ev_of P pr N e σ Q _ _ k80_l1.eq_1) := Ev_of k80_l1.eq_1
def k80_r9 : List COp := [
  ⟨some 36, .move (.tmp 5), none, true⟩,
  ⟨some 37, .move (.tmp 7), none, true⟩,
  ⟨some 38, .convert 3 5 (.tmp 37), none, true⟩,
  ⟨some 39, .buildSlice 44 1 #[(0, .tmp 38)], none, true⟩,
  ⟨some 40, .call { callee := .builtin .append, args := #[.tmp 36, .tmp 39], argTypes := #[44, 44] }, none, true⟩,
  ⟨some 5, .assign (.tmp 40), none, true⟩]
theorem k80_r9_e : type_of% (@Eo_of P pr N e σ Q _ _ k80_r9.eq_1) := Eo_of k80_r9.eq_1
def k80_r10 : List COp := [
  ⟨some 41, .binOp .add 3 (.tmp 19) (.const (.int .i64 1)) 3, none, true⟩,
  ⟨some 19, .move (.tmp 41), none, true⟩]
theorem k80_r10_e : type_of% (@Eo_of P pr N e σ Q _ _ k80_r10.eq_1) := Eo_of k80_r10.eq_1
def k80_l0 : CC := (.seq (.region k80_r3) (.seq (.cond (.tmp 20) .skip (.exit 0)) (.seq (.block 1 (.seq (.region k80_r4) (.seq (.region k80_r5) (.seq (.block 2 (.loop k80_l1)) (.region k80_r9))))) (.region k80_r10))))
theorem k80_l0_e : type_of% (@Ev_of P pr N e σ Q _ _ k80_l0.eq_1) := Ev_of k80_l0.eq_1
def k80_r11 : List COp := [
  ⟨some 42, .move (.tmp 5), none, true⟩,
  ⟨some 4, .assign (.tmp 42), none, true⟩]
theorem k80_r11_e : type_of% (@Eo_of P pr N e σ Q _ _ k80_r11.eq_1) := Eo_of k80_r11.eq_1
def k80 : CC := (.seq (.region k80_r0) (.seq (.region k80_r1) (.seq (.seq (.region k80_r2) (.block 0 (.loop k80_l0))) (.seq (.region k80_r11) .ret))))
theorem k80_e : type_of% (@Ev_of P pr N e σ Q _ _ k80.eq_1) := Ev_of k80.eq_1
theorem k80_a : type_of% @k80_e ∧ type_of% @k80_r0_e ∧ type_of% @k80_r1_e ∧ type_of% @k80_r2_e ∧ type_of% @k80_r3_e ∧ type_of% @k80_r4_e ∧ type_of% @k80_r5_e ∧ type_of% @k80_r6_e ∧ type_of% @k80_r8_e ∧ type_of% @k80_r7_e ∧ type_of% @k80_l1_e ∧ type_of% @k80_r9_e ∧ type_of% @k80_r10_e ∧ type_of% @k80_l0_e ∧ type_of% @k80_r11_e := ⟨@k80_e, @k80_r0_e, @k80_r1_e, @k80_r2_e, @k80_r3_e, @k80_r4_e, @k80_r5_e, @k80_r6_e, @k80_r8_e, @k80_r7_e, @k80_l1_e, @k80_r9_e, @k80_r10_e, @k80_l0_e, @k80_r11_e⟩
/-- quern/pack.Put -/
theorem k80_is : FnIs Try.prog prims 80 43 [ResultVar.tmp 4] k80 := FnIs.of_fn Try.func80 (by kernel_rfl) rfl
def k81_r0 : List COp := [
  ⟨some 2, .assign (.const (.slice .none 0 0)), none, true⟩]
theorem k81_r0_e : type_of% (@Eo_of P pr N e σ Q _ _ k81_r0.eq_1) := Eo_of k81_r0.eq_1
def k81_r1 : List COp := [
  ⟨some 3, .move (.tmp 0), none, true⟩,
  ⟨some 4, .binOp .geq 3 (.tmp 3) (.const (.int .i64 0)) 3, none, true⟩]
theorem k81_r1_e : type_of% (@Eo_of P pr N e σ Q _ _ k81_r1.eq_1) := Eo_of k81_r1.eq_1
def k81_r2 : List COp := [
  ⟨some 5, .move (.tmp 0), none, true⟩,
  ⟨some 6, .buildSlice 86 2 #[(0, .const (.int .i64 0)), (1, .tmp 5)], none, true⟩,
  ⟨some 2, .assign (.tmp 6), none, true⟩]
theorem k81_r2_e : type_of% (@Eo_of P pr N e σ Q _ _ k81_r2.eq_1) := Eo_of k81_r2.eq_1
def k81_r3 : List COp := [
  ⟨some 7, .move (.tmp 0), none, true⟩,
  ⟨some 8, .binOp .add 3 (.tmp 7) (.const (.int .i64 1)) 3, none, true⟩,
  ⟨some 9, .unOp .neg 3 (.tmp 8), none, true⟩,
  ⟨some 10, .buildSlice 86 2 #[(0, .const (.int .i64 1)), (1, .tmp 9)], none, true⟩,
  ⟨some 2, .assign (.tmp 10), none, true⟩]
theorem k81_r3_e : type_of% (@Eo_of P pr N e σ Q _ _ k81_r3.eq_1) := Eo_of k81_r3.eq_1
def k81 : CC := (.seq (.region k81_r0) (.seq (.seq (.region k81_r1) (.cond (.tmp 4) (.seq (.region k81_r2) .ret) .skip)) (.seq (.region k81_r3) .ret)))
theorem k81_e : type_of% (@Ev_of P pr N e σ Q _ _ k81.eq_1) := Ev_of k81.eq_1
theorem k81_a : type_of% @k81_e ∧ type_of% @k81_r0_e ∧ type_of% @k81_r1_e ∧ type_of% @k81_r2_e ∧ type_of% @k81_r3_e := ⟨@k81_e, @k81_r0_e, @k81_r1_e, @k81_r2_e, @k81_r3_e⟩
/-- quern/value.zigzag -/
theorem k81_is : FnIs Try.prog prims 81 11 [ResultVar.tmp 2] k81 := FnIs.of_fn Try.func81 (by kernel_rfl) rfl
def k82_r0 : List COp := [
  ⟨some 4, .assign (.const (.slice .none 0 0)), none, true⟩]
theorem k82_r0_e : type_of% (@Eo_of P pr N e σ Q _ _ k82_r0.eq_1) := Eo_of k82_r0.eq_1
def k82_r1 : List COp := [
  ⟨some 6, .buildSlice 44 0 #[], none, true⟩,
  ⟨some 7, .move (.tmp 0), none, true⟩,
  ⟨some 8, .call { callee := .builtin .append, args := #[.tmp 6, .tmp 7], argTypes := #[44, 44] }, none, true⟩,
  ⟨some 5, .assign (.tmp 8), none, true⟩]
theorem k82_r1_e : type_of% (@Eo_of P pr N e σ Q _ _ k82_r1.eq_1) := Eo_of k82_r1.eq_1
def k82_r2 : List COp := [
  ⟨some 9, .move (.tmp 1), none, true⟩,
  ⟨some 10, .binOp .lss 3 (.tmp 9) (.const (.int .i64 0)) 3, none, true⟩]
theorem k82_r2_e : type_of% (@Eo_of P pr N e σ Q _ _ k82_r2.eq_1) := Eo_of k82_r2.eq_1
def k82_r3 : List COp := [
  ⟨some 1, .assign (.const (.int .i64 0)), none, true⟩]
theorem k82_r3_e : type_of% (@Eo_of P pr N e σ Q _ _ k82_r3.eq_1) := Eo_of k82_r3.eq_1
def k82_r4 : List COp := [
  ⟨some 11, .move (.tmp 1), none, true⟩,
  ⟨some 12, .binOp .geq 3 (.tmp 11) (.const (.int .i64 128)) 3, none, true⟩]
theorem k82_r4_e : type_of% (@Eo_of P pr N e σ Q _ _ k82_r4.eq_1) := Eo_of k82_r4.eq_1
def k82_r5 : List COp := [
  ⟨some 13, .move (.tmp 5), none, true⟩,
  ⟨some 14, .move (.tmp 1), none, true⟩,
  ⟨some 15, .binOp .rem 3 (.tmp 14) (.const (.int .i64 128)) 3, none, true⟩,
  ⟨some 16, .binOp .add 3 (.tmp 15) (.const (.int .i64 128)) 3, none, true⟩,
  ⟨some 17, .convert 3 5 (.tmp 16), none, true⟩,
  ⟨some 18, .buildSlice 44 1 #[(0, .tmp 17)], none, true⟩,
  ⟨some 19, .call { callee := .builtin .append, args := #[.tmp 13, .tmp 18], argTypes := #[44, 44] }, none, true⟩,
  ⟨some 5, .assign (.tmp 19), none, true⟩]
theorem k82_r5_e : type_of% (@Eo_of P pr N e σ Q _ _ k82_r5.eq_1) := Eo_of k82_r5.eq_1
def k82_r6 : List COp := [
  ⟨some 20, .move (.tmp 1), none, true⟩,
  ⟨some 21, .binOp .quo 3 (.tmp 20) (.const (.int .i64 128)) 3, none, true⟩,
  ⟨some 1, .assign (.tmp 21), none, true⟩]
theorem k82_r6_e : type_of% (@Eo_of P pr N e σ Q _ _ k82_r6.eq_1) := Eo_of k82_r6.eq_1
def k82_l0 : CC := (.seq (.seq (.region k82_r4) (.cond (.tmp 12) .skip (.exit 0))) (.block 1 (.seq (.region k82_r5) (.region k82_r6))))
theorem k82_l0_e : type_of% (@Ev_of P pr N e σ Q _ _ k82_l0.eq_1) := Ev_of k82_l0.eq_1
def k82_r7 : List COp := [
  ⟨some 22, .move (.tmp 5), none, true⟩,
  ⟨some 23, .move (.tmp 1), none, true⟩,
  ⟨some 24, .convert 3 5 (.tmp 23), none, true⟩,
  ⟨some 25, .buildSlice 44 1 #[(0, .tmp 24)], none, true⟩,
  ⟨some 26, .call { callee := .builtin .append, args := #[.tmp 22, .tmp 25], argTypes := #[44, 44] }, none, true⟩,
  ⟨some 4, .assign (.tmp 26), none, true⟩]
theorem k82_r7_e : type_of% (@Eo_of P pr N e σ Q _ _ k82_r7.eq_1) := Eo_of k82_r7.eq_1
def k82 : CC := (.seq (.region k82_r0) (.seq (.region k82_r1) (.seq (.seq (.region k82_r2) (.cond (.tmp 10) (.region k82_r3) .skip)) (.seq (.block 0 (.loop k82_l0)) (.seq (.region k82_r7) .ret)))))
theorem k82_e : type_of% (@Ev_of P pr N e σ Q _ _ k82.eq_1) := Ev_of k82.eq_1
theorem k82_a : type_of% @k82_e ∧ type_of% @k82_r0_e ∧ type_of% @k82_r1_e ∧ type_of% @k82_r2_e ∧ type_of% @k82_r3_e ∧ type_of% @k82_r4_e ∧ type_of% @k82_r5_e ∧ type_of% @k82_r6_e ∧ type_of% @k82_l0_e ∧ type_of% @k82_r7_e := ⟨@k82_e, @k82_r0_e, @k82_r1_e, @k82_r2_e, @k82_r3_e, @k82_r4_e, @k82_r5_e, @k82_r6_e, @k82_l0_e, @k82_r7_e⟩
/-- quern/quernref01.Put -/
theorem k82_is : FnIs Try.prog prims 82 27 [ResultVar.tmp 4] k82 := FnIs.of_fn Try.func82 (by kernel_rfl) rfl
def k83_r0 : List COp := [
  ⟨some 2, .assign (.const (.int .i64 0)), none, true⟩]
theorem k83_r0_e : type_of% (@Eo_of P pr N e σ Q _ _ k83_r0.eq_1) := Eo_of k83_r0.eq_1
def k83_r1 : List COp := [
  ⟨some 5, .move (.tmp 0), none, true⟩,
  ⟨some 6, .binOp .eql 70 (.tmp 5) (.const (.pointer .none)) 70, none, true⟩,
  ⟨some 7, .move (.tmp 6), none, true⟩,
  ⟨some 8, .move (.tmp 0), some (7, false), true⟩,
  ⟨some 9, .nilCheck (.tmp 8), some (7, false), true⟩,
  ⟨some 10, .fieldAddr 92 (.tmp 9) 1, some (7, false), true⟩,
  ⟨some 11, .load 4 (.tmp 10), some (7, false), true⟩,
  ⟨some 12, .pick (.tmp 7) (.const (.bool true)) (.tmp 11), none, true⟩]
theorem k83_r1_e : type_of% (@Eo_of P pr N e σ Q _ _ k83_r1.eq_1) := Eo_of k83_r1.eq_1
def k83_r2 : List COp := [
  ⟨some 2, .assign (.const (.int .i64 0)), none, true⟩]
theorem k83_r2_e : type_of% (@Eo_of P pr N e σ Q _ _ k83_r2.eq_1) := Eo_of k83_r2.eq_1
def k83_r3 : List COp := [
  ⟨some 14, .move (.tmp 0), none, true⟩,
  ⟨some 15, .nilCheck (.tmp 14), none, true⟩,
  ⟨some 16, .fieldAddr 92 (.tmp 15) 0, none, true⟩,
  ⟨some 17, .load 44 (.tmp 16), none, true⟩,
  ⟨some 18, .call { callee := .value (.func 94), args := #[.tmp 17], argTypes := #[44] }, none, true⟩,
  ⟨some 13, .move (.tmp 18), none, true⟩,
  ⟨some 19, .extract (.tmp 13) 0, none, true⟩,
  ⟨some 20, .extract (.tmp 13) 1, none, true⟩,
  ⟨some 3, .assign (.tmp 19), none, true⟩,
  ⟨some 4, .assign (.tmp 20), none, true⟩]
theorem k83_r3_e : type_of% (@Eo_of P pr N e σ Q _ _ k83_r3.eq_1) := Eo_of k83_r3.eq_1
def k83_r4 : List COp := [
  ⟨some 21, .move (.tmp 0), none, true⟩,
  ⟨some 22, .move (.tmp 4), none, true⟩,
  ⟨some 23, .binOp .eql 3 (.tmp 22) (.const (.int .i64 0)) 3, none, true⟩,
  ⟨some 24, .nilCheck (.tmp 21), none, true⟩,
  ⟨some 25, .fieldAddr 92 (.tmp 24) 1, none, true⟩,
  ⟨none, .store 4 (.tmp 25) (.tmp 23), none, true⟩]
theorem k83_r4_e : type_of% (@Eo_of P pr N e σ Q _ _ k83_r4.eq_1) := Eo_of k83_r4.eq_1
def k83_r5 : List COp := [
  ⟨some 26, .move (.tmp 0), none, true⟩,
  ⟨some 27, .move (.tmp 0), none, true⟩,
  ⟨some 28, .nilCheck (.tmp 27), none, true⟩,
  ⟨some 29, .fieldAddr 92 (.tmp 28) 0, none, true⟩,
  ⟨some 30, .load 44 (.tmp 29), none, true⟩,
  ⟨some 31, .move (.tmp 4), none, true⟩,
  ⟨some 32, .slice 44 (.tmp 30) (some (.tmp 31)) .none .none, none, true⟩,
  ⟨some 33, .nilCheck (.tmp 26), none, true⟩,
  ⟨some 34, .fieldAddr 92 (.tmp 33) 0, none, true⟩,
  ⟨none, .store 44 (.tmp 34) (.tmp 32), none, true⟩]
theorem k83_r5_e : type_of% (@Eo_of P pr N e σ Q _ _ k83_r5.eq_1) := Eo_of k83_r5.eq_1
def k83_r6 : List COp := [
  ⟨some 35, .move (.tmp 3), none, true⟩,
  ⟨some 2, .assign (.tmp 35), none, true⟩]
theorem k83_r6_e : type_of% (@Eo_of P pr N e σ Q _ _ k83_r6.eq_1) := Eo_of k83_r6.eq_1
def k83 : CC := (.seq (.region k83_r0) (.seq (.seq (.region k83_r1) (.cond (.tmp 12) (.seq (.region k83_r2) .ret) .skip)) (.seq (.region k83_r3) (.seq (.region k83_r4) (.seq (.region k83_r5) (.seq (.region k83_r6) .ret))))))
theorem k83_e : type_of% (@Ev_of P pr N e σ Q _ _ k83.eq_1) := Ev_of k83.eq_1
theorem k83_a : type_of% @k83_e ∧ type_of% @k83_r0_e ∧ type_of% @k83_r1_e ∧ type_of% @k83_r2_e ∧ type_of% @k83_r3_e ∧ type_of% @k83_r4_e ∧ type_of% @k83_r5_e ∧ type_of% @k83_r6_e := ⟨@k83_e, @k83_r0_e, @k83_r1_e, @k83_r2_e, @k83_r3_e, @k83_r4_e, @k83_r5_e, @k83_r6_e⟩
/-- (*quern/pack.Reader).Number -/
theorem k83_is : FnIs Try.prog prims 83 36 [ResultVar.tmp 2] k83 := FnIs.of_fn Try.func83 (by kernel_rfl) rfl
def k84_r0 : List COp := [
  ⟨some 4, .assign (.const (.slice .none 0 0)), none, true⟩]
theorem k84_r0_e : type_of% (@Eo_of P pr N e σ Q _ _ k84_r0.eq_1) := Eo_of k84_r0.eq_1
def k84_r1 : List COp := [
  ⟨some 6, .move (.tmp 0), none, true⟩,
  ⟨some 7, .binOp .eql 70 (.tmp 6) (.const (.pointer .none)) 70, none, true⟩,
  ⟨some 8, .move (.tmp 7), none, true⟩,
  ⟨some 9, .move (.tmp 0), some (8, false), true⟩,
  ⟨some 10, .nilCheck (.tmp 9), some (8, false), true⟩,
  ⟨some 11, .fieldAddr 92 (.tmp 10) 1, some (8, false), true⟩,
  ⟨some 12, .load 4 (.tmp 11), some (8, false), true⟩,
  ⟨some 13, .pick (.tmp 8) (.const (.bool true)) (.tmp 12), none, true⟩]
theorem k84_r1_e : type_of% (@Eo_of P pr N e σ Q _ _ k84_r1.eq_1) := Eo_of k84_r1.eq_1
def k84_r2 : List COp := [
  ⟨some 4, .assign (.const (.slice .none 0 0)), none, true⟩]
theorem k84_r2_e : type_of% (@Eo_of P pr N e σ Q _ _ k84_r2.eq_1) := Eo_of k84_r2.eq_1
def k84_r3 : List COp := [
  ⟨some 14, .move (.tmp 1), none, true⟩,
  ⟨some 15, .binOp .lss 3 (.tmp 14) (.const (.int .i64 0)) 3, none, true⟩,
  ⟨some 16, .move (.tmp 15), none, true⟩,
  ⟨some 17, .move (.tmp 1), some (16, false), true⟩,
  ⟨some 18, .move (.tmp 0), some (16, false), true⟩,
  ⟨some 19, .nilCheck (.tmp 18), some (16, false), true⟩,
  ⟨some 20, .fieldAddr 92 (.tmp 19) 0, some (16, false), true⟩,
  ⟨some 21, .load 44 (.tmp 20), some (16, false), true⟩,
  ⟨some 22, .call { callee := .builtin .len, args := #[.tmp 21], argTypes := #[44] }, some (16, false), true⟩,
  ⟨some 23, .binOp .gtr 3 (.tmp 17) (.tmp 22) 3, some (16, false), true⟩,
  ⟨some 24, .pick (.tmp 16) (.const (.bool true)) (.tmp 23), none, true⟩]
theorem k84_r3_e : type_of% (@Eo_of P pr N e σ Q _ _ k84_r3.eq_1) := Eo_of k84_r3.eq_1
def k84_r4 : List COp := [
  ⟨some 25, .move (.tmp 0), none, true⟩,
  ⟨some 26, .nilCheck (.tmp 25), none, true⟩,
  ⟨some 27, .fieldAddr 92 (.tmp 26) 1, none, true⟩,
  ⟨none, .store 4 (.tmp 27) (.const (.bool true)), none, true⟩]
theorem k84_r4_e : type_of% (@Eo_of P pr N e σ Q _ _ k84_r4.eq_1) := Eo_of k84_r4.eq_1
def k84_r5 : List COp := [
  ⟨some 4, .assign (.const (.slice .none 0 0)), none, true⟩]
theorem k84_r5_e : type_of% (@Eo_of P pr N e σ Q _ _ k84_r5.eq_1) := Eo_of k84_r5.eq_1
def k84_r6 : List COp := [
  ⟨some 28, .buildSlice 44 0 #[], none, true⟩,
  ⟨some 29, .move (.tmp 0), none, true⟩,
  ⟨some 30, .nilCheck (.tmp 29), none, true⟩,
  ⟨some 31, .fieldAddr 92 (.tmp 30) 0, none, true⟩,
  ⟨some 32, .load 44 (.tmp 31), none, true⟩,
  ⟨some 33, .move (.tmp 1), none, true⟩,
  ⟨some 34, .slice 44 (.tmp 32) .none (some (.tmp 33)) .none, none, true⟩,
  ⟨some 35, .call { callee := .builtin .append, args := #[.tmp 28, .tmp 34], argTypes := #[44, 44] }, none, true⟩,
  ⟨some 5, .assign (.tmp 35), none, true⟩]
theorem k84_r6_e : type_of% (@Eo_of P pr N e σ Q _ _ k84_r6.eq_1) := Eo_of k84_r6.eq_1
def k84_r7 : List COp := [
  ⟨some 36, .move (.tmp 0), none, true⟩,
  ⟨some 37, .move (.tmp 0), none, true⟩,
  ⟨some 38, .nilCheck (.tmp 37), none, true⟩,
  ⟨some 39, .fieldAddr 92 (.tmp 38) 0, none, true⟩,
  ⟨some 40, .load 44 (.tmp 39), none, true⟩,
  ⟨some 41, .move (.tmp 1), none, true⟩,
  ⟨some 42, .slice 44 (.tmp 40) (some (.tmp 41)) .none .none, none, true⟩,
  ⟨some 43, .nilCheck (.tmp 36), none, true⟩,
  ⟨some 44, .fieldAddr 92 (.tmp 43) 0, none, true⟩,
  ⟨none, .store 44 (.tmp 44) (.tmp 42), none, true⟩]
theorem k84_r7_e : type_of% (@Eo_of P pr N e σ Q _ _ k84_r7.eq_1) := Eo_of k84_r7.eq_1
def k84_r8 : List COp := [
  ⟨some 45, .move (.tmp 5), none, true⟩,
  ⟨some 4, .assign (.tmp 45), none, true⟩]
theorem k84_r8_e : type_of% (@Eo_of P pr N e σ Q _ _ k84_r8.eq_1) := Eo_of k84_r8.eq_1
def k84 : CC := (.seq (.region k84_r0) (.seq (.seq (.region k84_r1) (.cond (.tmp 13) (.seq (.region k84_r2) .ret) .skip)) (.seq (.seq (.region k84_r3) (.cond (.tmp 24) (.seq (.region k84_r4) (.seq (.region k84_r5) .ret)) .skip)) (.seq (.region k84_r6) (.seq (.region k84_r7) (.seq (.region k84_r8) .ret))))))
theorem k84_e : type_of% (@Ev_of P pr N e σ Q _ _ k84.eq_1) := Ev_of k84.eq_1
theorem k84_a : type_of% @k84_e ∧ type_of% @k84_r0_e ∧ type_of% @k84_r1_e ∧ type_of% @k84_r2_e ∧ type_of% @k84_r3_e ∧ type_of% @k84_r4_e ∧ type_of% @k84_r5_e ∧ type_of% @k84_r6_e ∧ type_of% @k84_r7_e ∧ type_of% @k84_r8_e := ⟨@k84_e, @k84_r0_e, @k84_r1_e, @k84_r2_e, @k84_r3_e, @k84_r4_e, @k84_r5_e, @k84_r6_e, @k84_r7_e, @k84_r8_e⟩
/-- (*quern/pack.Reader).Bytes -/
theorem k84_is : FnIs Try.prog prims 84 46 [ResultVar.tmp 4] k84 := FnIs.of_fn Try.func84 (by kernel_rfl) rfl
def k85_r0 : List COp := [
  ⟨some 2, .assign (.const (.bool false)), none, true⟩]
theorem k85_r0_e : type_of% (@Eo_of P pr N e σ Q _ _ k85_r0.eq_1) := Eo_of k85_r0.eq_1
def k85_r1 : List COp := [
  ⟨some 3, .move (.tmp 0), none, true⟩,
  ⟨some 4, .binOp .neq 70 (.tmp 3) (.const (.pointer .none)) 70, none, true⟩,
  ⟨some 5, .move (.tmp 4), none, true⟩,
  ⟨some 6, .move (.tmp 0), some (5, true), true⟩,
  ⟨some 7, .nilCheck (.tmp 6), some (5, true), true⟩,
  ⟨some 8, .fieldAddr 92 (.tmp 7) 1, some (5, true), true⟩,
  ⟨some 9, .load 4 (.tmp 8), some (5, true), true⟩,
  ⟨some 10, .pick (.tmp 5) (.tmp 9) (.const (.bool false)), none, true⟩,
  ⟨some 2, .assign (.tmp 10), none, true⟩]
theorem k85_r1_e : type_of% (@Eo_of P pr N e σ Q _ _ k85_r1.eq_1) := Eo_of k85_r1.eq_1
def k85 : CC := (.seq (.region k85_r0) (.seq (.region k85_r1) .ret))
theorem k85_e : type_of% (@Ev_of P pr N e σ Q _ _ k85.eq_1) := Ev_of k85.eq_1
theorem k85_a : type_of% @k85_e ∧ type_of% @k85_r0_e ∧ type_of% @k85_r1_e := ⟨@k85_e, @k85_r0_e, @k85_r1_e⟩
/-- (*quern/pack.Reader).Bad -/
theorem k85_is : FnIs Try.prog prims 85 11 [ResultVar.tmp 2] k85 := FnIs.of_fn Try.func85 (by kernel_rfl) rfl
def k86_r0 : List COp := [
  ⟨some 2, .assign (.const (.int .i64 0)), none, true⟩]
theorem k86_r0_e : type_of% (@Eo_of P pr N e σ Q _ _ k86_r0.eq_1) := Eo_of k86_r0.eq_1
def k86_r1 : List COp := [
  ⟨some 5, .move (.tmp 0), none, true⟩,
  ⟨some 6, .nilCheck (.tmp 5), none, true⟩,
  ⟨some 7, .fieldAddr 75 (.tmp 6) 1, none, true⟩,
  ⟨some 8, .load 4 (.tmp 7), none, true⟩]
theorem k86_r1_e : type_of% (@Eo_of P pr N e σ Q _ _ k86_r1.eq_1) := Eo_of k86_r1.eq_1
def k86_r2 : List COp := [
  ⟨some 2, .assign (.const (.int .i64 0)), none, true⟩]
theorem k86_r2_e : type_of% (@Eo_of P pr N e σ Q _ _ k86_r2.eq_1) := Eo_of k86_r2.eq_1
def k86_r3 : List COp := [
  ⟨some 10, .move (.tmp 0), none, true⟩,
  ⟨some 11, .nilCheck (.tmp 10), none, true⟩,
  ⟨some 12, .fieldAddr 75 (.tmp 11) 0, none, true⟩,
  ⟨some 13, .load 44 (.tmp 12), none, true⟩,
  ⟨some 14, .call { callee := .value (.func 95), args := #[.tmp 13], argTypes := #[44] }, none, true⟩,
  ⟨some 9, .move (.tmp 14), none, true⟩,
  ⟨some 15, .extract (.tmp 9) 0, none, true⟩,
  ⟨some 16, .extract (.tmp 9) 1, none, true⟩,
  ⟨some 3, .assign (.tmp 15), none, true⟩,
  ⟨some 4, .assign (.tmp 16), none, true⟩]
theorem k86_r3_e : type_of% (@Eo_of P pr N e σ Q _ _ k86_r3.eq_1) := Eo_of k86_r3.eq_1
def k86_r4 : List COp := [
  ⟨some 17, .move (.tmp 4), none, true⟩,
  ⟨some 18, .binOp .eql 3 (.tmp 17) (.const (.int .i64 0)) 3, none, true⟩]
theorem k86_r4_e : type_of% (@Eo_of P pr N e σ Q _ _ k86_r4.eq_1) := Eo_of k86_r4.eq_1
def k86_r5 : List COp := [
  ⟨some 19, .move (.tmp 0), none, true⟩,
  ⟨some 20, .nilCheck (.tmp 19), none, true⟩,
  ⟨some 21, .fieldAddr 75 (.tmp 20) 1, none, true⟩,
  ⟨none, .store 4 (.tmp 21) (.const (.bool true)), none, true⟩]
theorem k86_r5_e : type_of% (@Eo_of P pr N e σ Q _ _ k86_r5.eq_1) := Eo_of k86_r5.eq_1
def k86_r6 : List COp := [
  ⟨some 2, .assign (.const (.int .i64 0)), none, true⟩]
theorem k86_r6_e : type_of% (@Eo_of P pr N e σ Q _ _ k86_r6.eq_1) := Eo_of k86_r6.eq_1
def k86_r7 : List COp := [
  ⟨some 22, .move (.tmp 0), none, true⟩,
  ⟨some 23, .move (.tmp 0), none, true⟩,
  ⟨some 24, .nilCheck (.tmp 23), none, true⟩,
  ⟨some 25, .fieldAddr 75 (.tmp 24) 0, none, true⟩,
  ⟨some 26, .load 44 (.tmp 25), none, true⟩,
  ⟨some 27, .move (.tmp 4), none, true⟩,
  ⟨some 28, .slice 44 (.tmp 26) (some (.tmp 27)) .none .none, none, true⟩,
  ⟨some 29, .nilCheck (.tmp 22), none, true⟩,
  ⟨some 30, .fieldAddr 75 (.tmp 29) 0, none, true⟩,
  ⟨none, .store 44 (.tmp 30) (.tmp 28), none, true⟩]
theorem k86_r7_e : type_of% (@Eo_of P pr N e σ Q _ _ k86_r7.eq_1) := Eo_of k86_r7.eq_1
def k86_r8 : List COp := [
  ⟨some 31, .move (.tmp 3), none, true⟩,
  ⟨some 2, .assign (.tmp 31), none, true⟩]
theorem k86_r8_e : type_of% (@Eo_of P pr N e σ Q _ _ k86_r8.eq_1) := Eo_of k86_r8.eq_1
def k86 : CC := (.seq (.region k86_r0) (.seq (.seq (.region k86_r1) (.cond (.tmp 8) (.seq (.region k86_r2) .ret) .skip)) (.seq (.region k86_r3) (.seq (.seq (.region k86_r4) (.cond (.tmp 18) (.seq (.region k86_r5) (.seq (.region k86_r6) .ret)) .skip)) (.seq (.region k86_r7) (.seq (.region k86_r8) .ret))))))
theorem k86_e : type_of% (@Ev_of P pr N e σ Q _ _ k86.eq_1) := Ev_of k86.eq_1
theorem k86_a : type_of% @k86_e ∧ type_of% @k86_r0_e ∧ type_of% @k86_r1_e ∧ type_of% @k86_r2_e ∧ type_of% @k86_r3_e ∧ type_of% @k86_r4_e ∧ type_of% @k86_r5_e ∧ type_of% @k86_r6_e ∧ type_of% @k86_r7_e ∧ type_of% @k86_r8_e := ⟨@k86_e, @k86_r0_e, @k86_r1_e, @k86_r2_e, @k86_r3_e, @k86_r4_e, @k86_r5_e, @k86_r6_e, @k86_r7_e, @k86_r8_e⟩
/-- (*quern/quernref01.Reader).Number -/
theorem k86_is : FnIs Try.prog prims 86 32 [ResultVar.tmp 2] k86 := FnIs.of_fn Try.func86 (by kernel_rfl) rfl
def k87_r0 : List COp := [
  ⟨some 4, .assign (.const (.slice .none 0 0)), none, true⟩]
theorem k87_r0_e : type_of% (@Eo_of P pr N e σ Q _ _ k87_r0.eq_1) := Eo_of k87_r0.eq_1
def k87_r1 : List COp := [
  ⟨some 6, .move (.tmp 0), none, true⟩,
  ⟨some 7, .nilCheck (.tmp 6), none, true⟩,
  ⟨some 8, .fieldAddr 75 (.tmp 7) 1, none, true⟩,
  ⟨some 9, .load 4 (.tmp 8), none, true⟩,
  ⟨some 10, .move (.tmp 9), none, true⟩,
  ⟨some 11, .move (.tmp 1), some (10, false), true⟩,
  ⟨some 12, .binOp .lss 3 (.tmp 11) (.const (.int .i64 0)) 3, some (10, false), true⟩,
  ⟨some 13, .pick (.tmp 10) (.const (.bool true)) (.tmp 12), none, true⟩,
  ⟨some 14, .move (.tmp 13), none, true⟩,
  ⟨some 15, .move (.tmp 1), some (14, false), true⟩,
  ⟨some 16, .move (.tmp 0), some (14, false), true⟩,
  ⟨some 17, .nilCheck (.tmp 16), some (14, false), true⟩,
  ⟨some 18, .fieldAddr 75 (.tmp 17) 0, some (14, false), true⟩,
  ⟨some 19, .load 44 (.tmp 18), some (14, false), true⟩,
  ⟨some 20, .call { callee := .builtin .len, args := #[.tmp 19], argTypes := #[44] }, some (14, false), true⟩,
  ⟨some 21, .binOp .gtr 3 (.tmp 15) (.tmp 20) 3, some (14, false), true⟩,
  ⟨some 22, .pick (.tmp 14) (.const (.bool true)) (.tmp 21), none, true⟩]
theorem k87_r1_e : type_of% (@Eo_of P pr N e σ Q _ _ k87_r1.eq_1) := Eo_of k87_r1.eq_1
def k87_r2 : List COp := [
  ⟨some 23, .move (.tmp 0), none, true⟩,
  ⟨some 24, .nilCheck (.tmp 23), none, true⟩,
  ⟨some 25, .fieldAddr 75 (.tmp 24) 1, none, true⟩,
  ⟨none, .store 4 (.tmp 25) (.const (.bool true)), none, true⟩]
theorem k87_r2_e : type_of% (@Eo_of P pr N e σ Q _ _ k87_r2.eq_1) := Eo_of k87_r2.eq_1
def k87_r3 : List COp := [
  ⟨some 4, .assign (.const (.slice .none 0 0)), none, true⟩]
theorem k87_r3_e : type_of% (@Eo_of P pr N e σ Q _ _ k87_r3.eq_1) := Eo_of k87_r3.eq_1
def k87_r4 : List COp := [
  ⟨some 26, .buildSlice 44 0 #[], none, true⟩,
  ⟨some 27, .move (.tmp 0), none, true⟩,
  ⟨some 28, .nilCheck (.tmp 27), none, true⟩,
  ⟨some 29, .fieldAddr 75 (.tmp 28) 0, none, true⟩,
  ⟨some 30, .load 44 (.tmp 29), none, true⟩,
  ⟨some 31, .move (.tmp 1), none, true⟩,
  ⟨some 32, .slice 44 (.tmp 30) .none (some (.tmp 31)) .none, none, true⟩,
  ⟨some 33, .call { callee := .builtin .append, args := #[.tmp 26, .tmp 32], argTypes := #[44, 44] }, none, true⟩,
  ⟨some 5, .assign (.tmp 33), none, true⟩]
theorem k87_r4_e : type_of% (@Eo_of P pr N e σ Q _ _ k87_r4.eq_1) := Eo_of k87_r4.eq_1
def k87_r5 : List COp := [
  ⟨some 34, .move (.tmp 0), none, true⟩,
  ⟨some 35, .move (.tmp 0), none, true⟩,
  ⟨some 36, .nilCheck (.tmp 35), none, true⟩,
  ⟨some 37, .fieldAddr 75 (.tmp 36) 0, none, true⟩,
  ⟨some 38, .load 44 (.tmp 37), none, true⟩,
  ⟨some 39, .move (.tmp 1), none, true⟩,
  ⟨some 40, .slice 44 (.tmp 38) (some (.tmp 39)) .none .none, none, true⟩,
  ⟨some 41, .nilCheck (.tmp 34), none, true⟩,
  ⟨some 42, .fieldAddr 75 (.tmp 41) 0, none, true⟩,
  ⟨none, .store 44 (.tmp 42) (.tmp 40), none, true⟩]
theorem k87_r5_e : type_of% (@Eo_of P pr N e σ Q _ _ k87_r5.eq_1) := Eo_of k87_r5.eq_1
def k87_r6 : List COp := [
  ⟨some 43, .move (.tmp 5), none, true⟩,
  ⟨some 4, .assign (.tmp 43), none, true⟩]
theorem k87_r6_e : type_of% (@Eo_of P pr N e σ Q _ _ k87_r6.eq_1) := Eo_of k87_r6.eq_1
def k87 : CC := (.seq (.region k87_r0) (.seq (.seq (.region k87_r1) (.cond (.tmp 22) (.seq (.region k87_r2) (.seq (.region k87_r3) .ret)) .skip)) (.seq (.region k87_r4) (.seq (.region k87_r5) (.seq (.region k87_r6) .ret)))))
theorem k87_e : type_of% (@Ev_of P pr N e σ Q _ _ k87.eq_1) := Ev_of k87.eq_1
theorem k87_a : type_of% @k87_e ∧ type_of% @k87_r0_e ∧ type_of% @k87_r1_e ∧ type_of% @k87_r2_e ∧ type_of% @k87_r3_e ∧ type_of% @k87_r4_e ∧ type_of% @k87_r5_e ∧ type_of% @k87_r6_e := ⟨@k87_e, @k87_r0_e, @k87_r1_e, @k87_r2_e, @k87_r3_e, @k87_r4_e, @k87_r5_e, @k87_r6_e⟩
/-- (*quern/quernref01.Reader).Bytes -/
theorem k87_is : FnIs Try.prog prims 87 44 [ResultVar.tmp 4] k87 := FnIs.of_fn Try.func87 (by kernel_rfl) rfl
def k90_r0 : List COp := [
  ⟨some 4, .assign (.const (.string { data := #[] })), none, true⟩,
  ⟨some 5, .assign (.const (.bool false)), none, true⟩]
theorem k90_r0_e : type_of% (@Eo_of P pr N e σ Q _ _ k90_r0.eq_1) := Eo_of k90_r0.eq_1
def k90_r1 : List COp := [
  ⟨some 6, .move (.tmp 0), none, true⟩,
  ⟨some 7, .move (.tmp 1), none, true⟩,
  ⟨some 8, .call { callee := .value (.func 97), args := #[.tmp 6, .tmp 7], argTypes := #[9, 9] }, none, true⟩,
  ⟨some 9, .extract (.tmp 8) 0, none, true⟩,
  ⟨some 10, .extract (.tmp 8) 1, none, true⟩,
  ⟨some 4, .assign (.tmp 9), none, true⟩,
  ⟨some 5, .assign (.tmp 10), none, true⟩]
theorem k90_r1_e : type_of% (@Eo_of P pr N e σ Q _ _ k90_r1.eq_1) := Eo_of k90_r1.eq_1
def k90 : CC := (.seq (.region k90_r0) (.seq (.region k90_r1) .ret))
theorem k90_e : type_of% (@Ev_of P pr N e σ Q _ _ k90.eq_1) := Ev_of k90.eq_1
theorem k90_a : type_of% @k90_e ∧ type_of% @k90_r0_e ∧ type_of% @k90_r1_e := ⟨@k90_e, @k90_r0_e, @k90_r1_e⟩
/-- strings.CutPrefix -/
theorem k90_is : FnIs Try.prog prims 90 11 [ResultVar.tmp 4, ResultVar.tmp 5] k90 := FnIs.of_fn Try.func90 (by kernel_rfl) rfl
def k91_r0 : List COp := [
  ⟨some 4, .assign (.const (.int .i64 0)), none, true⟩]
theorem k91_r0_e : type_of% (@Eo_of P pr N e σ Q _ _ k91_r0.eq_1) := Eo_of k91_r0.eq_1
def k91_r1 : List COp := [
  ⟨some 14, .move (.tmp 1), none, true⟩,
  ⟨some 15, .call { callee := .builtin .len, args := #[.tmp 14], argTypes := #[9] }, none, true⟩,
  ⟨some 5, .assign (.tmp 15), none, true⟩]
theorem k91_r1_e : type_of% (@Eo_of P pr N e σ Q _ _ k91_r1.eq_1) := Eo_of k91_r1.eq_1
def k91_r2 : List COp := [
  ⟨some 17, .move (.tmp 5), none, true⟩,
  ⟨some 18, .binOp .eql 3 (.tmp 17) (.const (.int .i64 0)) 3, none, true⟩,
  ⟨some 19, .move (.tmp 18), none, true⟩,
  ⟨some 20, .move (.tmp 1), some (19, false), true⟩,
  ⟨some 21, .move (.tmp 0), some (19, false), true⟩,
  ⟨some 22, .binOp .eql 9 (.tmp 20) (.tmp 21) 9, some (19, false), true⟩,
  ⟨some 23, .pick (.tmp 19) (.const (.bool true)) (.tmp 22), none, true⟩,
  ⟨some 16, .assign (.tmp 23), none, true⟩]
theorem k91_r2_e : type_of% (@Eo_of P pr N e σ Q _ _ k91_r2.eq_1) := Eo_of k91_r2.eq_1
def k91_r3 : List COp := [
  ⟨some 4, .assign (.const (.int .i64 0)), none, true⟩]
theorem k91_r3_e : type_of% (@Eo_of P pr N e σ Q _ _ k91_r3.eq_1) := Eo_of k91_r3.eq_1
def k91_r4 : List COp := [
  ⟨some 25, .move (.tmp 5), none, true⟩,
  ⟨some 26, .binOp .eql 3 (.tmp 25) (.const (.int .i64 1)) 3, none, true⟩,
  ⟨some 24, .assign (.tmp 26), none, true⟩]
theorem k91_r4_e : type_of% (@Eo_of P pr N e σ Q _ _ k91_r4.eq_1) := Eo_of k91_r4.eq_1
def k91_r5 : List COp := [
  ⟨some 27, .move (.tmp 0), none, true⟩,
  ⟨some 28, .move (.tmp 1), none, true⟩,
  ⟨some 29, .index 9 (.tmp 28) (.const (.int .i64 0)), none, true⟩,
  ⟨some 30, .call { callee := .value (.func 98), args := #[.tmp 27, .tmp 29], argTypes := #[9, 5] }, none, true⟩,
  ⟨some 4, .assign (.tmp 30), none, true⟩]
theorem k91_r5_e : type_of% (@Eo_of P pr N e σ Q _ _ k91_r5.eq_1) := Eo_of k91_r5.eq_1
def k91_r6 : List COp := [
  ⟨some 32, .move (.tmp 5), none, true⟩,
  ⟨some 33, .move (.tmp 0), none, true⟩,
  ⟨some 34, .call { callee := .builtin .len, args := #[.tmp 33], argTypes := #[9] }, none, true⟩,
  ⟨some 35, .binOp .geq 3 (.tmp 32) (.tmp 34) 3, none, true⟩,
  ⟨some 31, .assign (.tmp 35), none, true⟩]
theorem k91_r6_e : type_of% (@Eo_of P pr N e σ Q _ _ k91_r6.eq_1) := Eo_of k91_r6.eq_1
def k91_r7 : List COp := [
  ⟨some 4, .assign (.const (.int .i64 (-1))), none, true⟩]
theorem k91_r7_e : type_of% (@Eo_of P pr N e σ Q _ _ k91_r7.eq_1) := Eo_of k91_r7.eq_1
def k91_r8 : List COp := [
  ⟨some 37, .move (.tmp 5), none, true⟩,
  ⟨some 38, .load 3 (.global 0), none, true⟩,
  ⟨some 39, .binOp .leq 3 (.tmp 37) (.tmp 38) 3, none, true⟩,
  ⟨some 40, .move (.tmp 39), none, true⟩,
  ⟨some 41, .move (.tmp 0), some (40, true), true⟩,
  ⟨some 42, .call { callee := .builtin .len, args := #[.tmp 41], argTypes := #[9] }, some (40, true), true⟩,
  ⟨some 43, .binOp .leq 3 (.tmp 42) (.const (.int .i64 64)) 3, some (40, true), true⟩,
  ⟨some 44, .pick (.tmp 40) (.tmp 43) (.const (.bool false)), none, true⟩,
  ⟨some 36, .assign (.tmp 44), none, true⟩]
theorem k91_r8_e : type_of% (@Eo_of P pr N e σ Q _ _ k91_r8.eq_1) := Eo_of k91_r8.eq_1
def k91_r9 : List COp := [
  ⟨some 45, .move (.tmp 0), none, true⟩,
  ⟨some 46, .move (.tmp 1), none, true⟩,
  ⟨some 47, .call { callee := .value (.func 99), args := #[.tmp 45, .tmp 46], argTypes := #[9, 9] }, none, true⟩,
  ⟨some 4, .assign (.tmp 47), none, true⟩]
theorem k91_r9_e : type_of% (@Eo_of P pr N e σ Q _ _ k91_r9.eq_1) := Eo_of k91_r9.eq_1
def k91_r10 : List COp := [
  ⟨some 48, .move (.tmp 1), none, true⟩,
  ⟨some 49, .index 9 (.tmp 48) (.const (.int .i64 0)), none, true⟩,
  ⟨some 6, .assign (.tmp 49), none, true⟩]
theorem k91_r10_e : type_of% (@Eo_of P pr N e σ Q _ _ k91_r10.eq_1) := Eo_of k91_r10.eq_1
def k91_r11 : List COp := [
  ⟨some 50, .move (.tmp 1), none, true⟩,
  ⟨some 51, .index 9 (.tmp 50) (.const (.int .i64 1)), none, true⟩,
  ⟨some 7, .assign (.tmp 51), none, true⟩]
theorem k91_r11_e : type_of% (@Eo_of P pr N e σ Q _ _ k91_r11.eq_1) := Eo_of k91_r11.eq_1
def k91_r12 : List COp := [
  ⟨some 8, .assign (.const (.int .i64 0)), none, true⟩]
theorem k91_r12_e : type_of% (@Eo_of P pr N e σ Q _ _ k91_r12.eq_1) := Eo_of k91_r12.eq_1
def k91_r13 : List COp := [
  ⟨some 52, .move (.tmp 0), none, true⟩,
  ⟨some 53, .call { callee := .builtin .len, args := #[.tmp 52], argTypes := #[9] }, none, true⟩,
  ⟨some 54, .move (.tmp 5), none, true⟩,
  ⟨some 55, .binOp .sub 3 (.tmp 53) (.tmp 54) 3, none, true⟩,
  ⟨some 56, .binOp .add 3 (.tmp 55) (.const (.int .i64 1)) 3, none, true⟩,
  ⟨some 9, .assign (.tmp 56), none, true⟩]
theorem k91_r13_e : type_of% (@Eo_of P pr N e σ Q _ _ k91_r13.eq_1) := Eo_of k91_r13.eq_1
def k91_r14 : List COp := [
  ⟨some 10, .assign (.const (.int .i64 0)), none, true⟩]
theorem k91_r14_e : type_of% (@Eo_of P pr N e σ Q _ _ k91_r14.eq_1) := Eo_of k91_r14.eq_1
def k91_r15 : List COp := [
  ⟨some 57, .move (.tmp 8), none, true⟩,
  ⟨some 58, .move (.tmp 9), none, true⟩,
  ⟨some 59, .binOp .lss 3 (.tmp 57) (.tmp 58) 3, none, true⟩]
theorem k91_r15_e : type_of% (@Eo_of P pr N e σ Q _ _ k91_r15.eq_1) := Eo_of k91_r15.eq_1
def k91_r16 : List COp := [
  ⟨some 60, .move (.tmp 0), none, true⟩,
  ⟨some 61, .move (.tmp 8), none, true⟩,
  ⟨some 62, .index 9 (.tmp 60) (.tmp 61), none, true⟩,
  ⟨some 63, .move (.tmp 6), none, true⟩,
  ⟨some 64, .binOp .neq 5 (.tmp 62) (.tmp 63) 5, none, true⟩]
theorem k91_r16_e : type_of% (@Eo_of P pr N e σ Q _ _ k91_r16.eq_1) := Eo_of k91_r16.eq_1
def k91_r17 : List COp := [
  ⟨some 65, .move (.tmp 0), none, true⟩,
  ⟨some 66, .move (.tmp 8), none, true⟩,
  ⟨some 67, .binOp .add 3 (.tmp 66) (.const (.int .i64 1)) 3, none, true⟩,
  ⟨some 68, .move (.tmp 9), none, true⟩,
  ⟨some 69, .slice 9 (.tmp 65) (some (.tmp 67)) (some (.tmp 68)) .none, none, true⟩,
  ⟨some 70, .move (.tmp 6), none, true⟩,
  ⟨some 71, .call { callee := .value (.func 98), args := #[.tmp 69, .tmp 70], argTypes := #[9, 5] }, none, true⟩,
  ⟨some 11, .assign (.tmp 71), none, true⟩]
theorem k91_r17_e : type_of% (@Eo_of P pr N e σ Q _ _ k91_r17.eq_1) := Eo_of k91_r17.eq_1
def k91_r18 : List COp := [
  ⟨some 72, .move (.tmp 11), none, true⟩,
  ⟨some 73, .binOp .lss 3 (.tmp 72) (.const (.int .i64 0)) 3, none, true⟩]
theorem k91_r18_e : type_of% (@Eo_of P pr N e σ Q _ _ k91_r18.eq_1) := Eo_of k91_r18.eq_1
def k91_r19 : List COp := [
  ⟨some 4, .assign (.const (.int .i64 (-1))), none, true⟩]
theorem k91_r19_e : type_of% (@Eo_of P pr N e σ Q _ _ k91_r19.eq_1) := Eo_of k91_r19.eq_1
def k91_r20 : List COp := [
  ⟨some 74, .move (.tmp 8), none, true⟩,
  ⟨some 75, .move (.tmp 11), none, true⟩,
  ⟨some 76, .binOp .add 3 (.tmp 75) (.const (.int .i64 1)) 3, none, true⟩,
  ⟨some 77, .binOp .add 3 (.tmp 74) (.tmp 76) 3, none, true⟩,
  ⟨some 8, .assign (.tmp 77), none, true⟩]
theorem k91_r20_e : type_of% (@Eo_of P pr N e σ Q _ _ k91_r20.eq_1) := Eo_of k91_r20.eq_1
def k91_r21 : List COp := [
  ⟨some 78, .move (.tmp 0), none, true⟩,
  ⟨some 79, .move (.tmp 8), none, true⟩,
  ⟨some 80, .binOp .add 3 (.tmp 79) (.const (.int .i64 1)) 3, none, true⟩,
  ⟨some 81, .index 9 (.tmp 78) (.tmp 80), none, true⟩,
  ⟨some 82, .move (.tmp 7), none, true⟩,
  ⟨some 83, .binOp .eql 5 (.tmp 81) (.tmp 82) 5, none, true⟩,
  ⟨some 84, .move (.tmp 83), none, true⟩,
  ⟨some 85, .move (.tmp 0), some (84, true), true⟩,
  ⟨some 86, .move (.tmp 8), some (84, true), true⟩,
  ⟨some 87, .move (.tmp 8), some (84, true), true⟩,
  ⟨some 88, .move (.tmp 5), some (84, true), true⟩,
  ⟨some 89, .binOp .add 3 (.tmp 87) (.tmp 88) 3, some (84, true), true⟩,
  ⟨some 90, .slice 9 (.tmp 85) (some (.tmp 86)) (some (.tmp 89)) .none, some (84, true), true⟩,
  ⟨some 91, .move (.tmp 1), some (84, true), true⟩,
  ⟨some 92, .binOp .eql 9 (.tmp 90) (.tmp 91) 9, some (84, true), true⟩,
  ⟨some 93, .pick (.tmp 84) (.tmp 92) (.const (.bool false)), none, true⟩]
theorem k91_r21_e : type_of% (@Eo_of P pr N e σ Q _ _ k91_r21.eq_1) := Eo_of k91_r21.eq_1
def k91_r22 : List COp := [
  ⟨some 94, .move (.tmp 8), none, true⟩,
  ⟨some 4, .assign (.tmp 94), none, true⟩]
theorem k91_r22_e : type_of% (@Eo_of P pr N e σ Q _ _ k91_r22.eq_1) := Eo_of k91_r22.eq_1
def k91_r23 : List COp := [
  ⟨some 95, .move (.tmp 8), none, true⟩,
  ⟨some 96, .binOp .add 3 (.tmp 95) (.const (.int .i64 1)) 3, none, true⟩,
  ⟨some 8, .assign (.tmp 96), none, true⟩]
theorem k91_r23_e : type_of% (@Eo_of P pr N e σ Q _ _ k91_r23.eq_1) := Eo_of k91_r23.eq_1
def k91_r24 : List COp := [
  ⟨some 97, .move (.tmp 10), none, true⟩,
  ⟨some 98, .binOp .add 3 (.tmp 97) (.const (.int .i64 1)) 3, none, true⟩,
  ⟨some 10, .assign (.tmp 98), none, true⟩]
theorem k91_r24_e : type_of% (@Eo_of P pr N e σ Q _ _ k91_r24.eq_1) := Eo_of k91_r24.eq_1
def k91_r25 : List COp := [
  ⟨some 99, .move (.tmp 5), none, true⟩,
  ⟨some 100, .load 3 (.global 0), none, true⟩,
  ⟨some 101, .binOp .leq 3 (.tmp 99) (.tmp 100) 3, none, true⟩,
  ⟨some 102, .move (.tmp 101), none, true⟩,
  ⟨some 103, .move (.tmp 10), some (102, true), true⟩,
  ⟨some 104, .move (.tmp 8), some (102, true), true⟩,
  ⟨some 105, .call { callee := .value (.func 100), args := #[.tmp 104], argTypes := #[3] }, some (102, true), true⟩,
  ⟨some 106, .binOp .gtr 3 (.tmp 103) (.tmp 105) 3, some (102, true), true⟩,
  ⟨some 107, .pick (.tmp 102) (.tmp 106) (.const (.bool false)), none, true⟩]
theorem k91_r25_e : type_of% (@Eo_of P pr N e σ Q _ _ k91_r25.eq_1) := Eo_of k91_r25.eq_1
def k91_r26 : List COp := [
  ⟨some 108, .move (.tmp 0), none, true⟩,
  ⟨some 109, .move (.tmp 8), none, true⟩,
  ⟨some 110, .slice 9 (.tmp 108) (some (.tmp 109)) .none .none, none, true⟩,
  ⟨some 111, .move (.tmp 1), none, true⟩,
  ⟨some 112, .call { callee := .value (.func 99), args := #[.tmp 110, .tmp 111], argTypes := #[9, 9] }, none, true⟩,
  ⟨some 12, .assign (.tmp 112), none, true⟩]
theorem k91_r26_e : type_of% (@Eo_of P pr N e σ Q _ _ k91_r26.eq_1) := Eo_of k91_r26.eq_1
def k91_r27 : List COp := [
  ⟨some 113, .move (.tmp 12), none, true⟩,
  ⟨some 114, .binOp .geq 3 (.tmp 113) (.const (.int .i64 0)) 3, none, true⟩]
theorem k91_r27_e : type_of% (@Eo_of P pr N e σ Q _ _ k91_r27.eq_1) := Eo_of k91_r27.eq_1
def k91_r28 : List COp := [
  ⟨some 115, .move (.tmp 12), none, true⟩,
  ⟨some 116, .move (.tmp 8), none, true⟩,
  ⟨some 117, .binOp .add 3 (.tmp 115) (.tmp 116) 3, none, true⟩,
  ⟨some 4, .assign (.tmp 117), none, true⟩]
theorem k91_r28_e : type_of% (@Eo_of P pr N e σ Q _ _ k91_r28.eq_1) := Eo_of k91_r28.eq_1
def k91_r29 : List COp := [
  ⟨some 4, .assign (.const (.int .i64 (-1))), none, true⟩]
theorem k91_r29_e : type_of% (@Eo_of P pr N e σ Q _ _ k91_r29.eq_1) := Eo_of k91_r29.eq_1
def k91_r30 : List COp := [
  ⟨some 118, .move (.tmp 5), none, true⟩,
  ⟨some 119, .load 3 (.global 0), none, true⟩,
  ⟨some 120, .binOp .gtr 3 (.tmp 118) (.tmp 119) 3, none, true⟩,
  ⟨some 121, .move (.tmp 120), none, true⟩,
  ⟨some 122, .move (.tmp 10), some (121, true), true⟩,
  ⟨some 123, .move (.tmp 8), some (121, true), true⟩,
  ⟨some 124, .binOp .shr 3 (.tmp 123) (.const (.int .u64 4)) 100, some (121, true), true⟩,
  ⟨some 125, .binOp .add 3 (.const (.int .i64 4)) (.tmp 124) 3, some (121, true), true⟩,
  ⟨some 126, .binOp .geq 3 (.tmp 122) (.tmp 125) 3, some (121, true), true⟩,
  ⟨some 127, .pick (.tmp 121) (.tmp 126) (.const (.bool false)), none, true⟩,
  ⟨some 128, .move (.tmp 127), none, true⟩,
  ⟨some 129, .move (.tmp 8), some (128, true), true⟩,
  ⟨some 130, .move (.tmp 9), some (128, true), true⟩,
  ⟨some 131, .binOp .lss 3 (.tmp 129) (.tmp 130) 3, some (128, true), true⟩,
  ⟨some 132, .pick (.tmp 128) (.tmp 131) (.const (.bool false)), none, true⟩]
theorem k91_r30_e : type_of% (@Eo_of P pr N e σ Q _ _ k91_r30.eq_1) := Eo_of k91_r30.eq_1
def k91_r31 : List COp := [
  ⟨some 133, .move (.tmp 0), none, true⟩,
  ⟨some 134, .move (.tmp 8), none, true⟩,
  ⟨some 135, .slice 9 (.tmp 133) (some (.tmp 134)) .none .none, none, true⟩,
  ⟨some 136, .move (.tmp 1), none, true⟩,
  ⟨some 137, .call { callee := .value (.func 101), args := #[.tmp 135, .tmp 136], argTypes := #[9, 9] }, none, true⟩,
  ⟨some 13, .assign (.tmp 137), none, true⟩]
theorem k91_r31_e : type_of% (@Eo_of P pr N e σ Q _ _ k91_r31.eq_1) := Eo_of k91_r31.eq_1
def k91_r32 : List COp := [
  ⟨some 138, .move (.tmp 13), none, true⟩,
  ⟨some 139, .binOp .lss 3 (.tmp 138) (.const (.int .i64 0)) 3, none, true⟩]
theorem k91_r32_e : type_of% (@Eo_of P pr N e σ Q _ _ k91_r32.eq_1) := Eo_of k91_r32.eq_1
def k91_r33 : List COp := [
  ⟨some 4, .assign (.const (.int .i64 (-1))), none, true⟩]
theorem k91_r33_e : type_of% (@Eo_of P pr N e σ Q _ _ k91_r33.eq_1) := Eo_of k91_r33.eq_1
def k91_r34 : List COp := [
  ⟨some 140, .move (.tmp 8), none, true⟩,
  ⟨some 141, .move (.tmp 13), none, true⟩,
  ⟨some 142, .binOp .add 3 (.tmp 140) (.tmp 141) 3, none, true⟩,
  ⟨some 4, .assign (.tmp 142), none, true⟩]
theorem k91_r34_e : type_of% (@Eo_of P pr N e σ Q _ _ k91_r34.eq_1) := Eo_of k91_r34.eq_1
def k91_l0 : CC := (.seq (.seq (.region k91_r15) (.cond (.tmp 59) .skip (.exit 1))) (.block 2 (.seq (.seq (.region k91_r16) (.cond (.tmp 64) (.seq (.region k91_r17) (.seq (.seq (.region k91_r18) (.cond (.tmp 73) (.seq (.region k91_r19) .ret) .skip)) (.region k91_r20))) .skip)) (.seq (.seq (.region k91_r21) (.cond (.tmp 93) (.seq (.region k91_r22) .ret) .skip)) (.seq (.region k91_r23) (.seq (.region k91_r24) (.seq (.region k91_r25) (.cond (.tmp 107) (.seq (.region k91_r26) (.seq (.seq (.region k91_r27) (.cond (.tmp 114) (.seq (.region k91_r28) .ret) .skip)) (.seq (.region k91_r29) .ret))) (.seq (.region k91_r30) (.cond (.tmp 132) (.seq (.region k91_r31) (.seq (.seq (.region k91_r32) (.cond (.tmp 139) (.seq (.region k91_r33) .ret) .skip)) (.seq (.region k91_r34) .ret))) .skip))))))))))
theorem k91_l0_e : type_of% (@Ev_of P pr N e σ Q _ _ k91_l0.eq_1) := Ev_of k91_l0.eq_1
def k91_r35 : List COp := [
  ⟨some 4, .assign (.const (.int .i64 (-1))), none, true⟩]
theorem k91_r35_e : type_of% (@Eo_of P pr N e σ Q _ _ k91_r35.eq_1) := Eo_of k91_r35.eq_1
def k91 : CC := (.seq (.region k91_r0) (.seq (.region k91_r1) (.seq (.block 0 (.seq (.region k91_r2) (.cond (.tmp 16) (.seq (.region k91_r3) .ret) (.seq (.region k91_r4) (.cond (.tmp 24) (.seq (.region k91_r5) .ret) (.seq (.region k91_r6) (.cond (.tmp 31) (.seq (.region k91_r7) .ret) (.seq (.region k91_r8) (.cond (.tmp 36) (.seq (.region k91_r9) .ret) .skip))))))))) (.seq (.region k91_r10) (.seq (.region k91_r11) (.seq (.region k91_r12) (.seq (.region k91_r13) (.seq (.region k91_r14) (.seq (.block 1 (.loop k91_l0)) (.seq (.region k91_r35) .ret))))))))))
theorem k91_e : type_of% (@Ev_of P pr N e σ Q _ _ k91.eq_1) := Ev_of k91.eq_1
theorem k91_a : type_of% @k91_e ∧ type_of% @k91_r0_e ∧ type_of% @k91_r1_e ∧ type_of% @k91_r2_e ∧ type_of% @k91_r3_e ∧ type_of% @k91_r4_e ∧ type_of% @k91_r5_e ∧ type_of% @k91_r6_e ∧ type_of% @k91_r7_e ∧ type_of% @k91_r8_e ∧ type_of% @k91_r9_e ∧ type_of% @k91_r10_e ∧ type_of% @k91_r11_e ∧ type_of% @k91_r12_e ∧ type_of% @k91_r13_e ∧ type_of% @k91_r14_e ∧ type_of% @k91_r15_e ∧ type_of% @k91_r16_e ∧ type_of% @k91_r17_e ∧ type_of% @k91_r18_e ∧ type_of% @k91_r19_e ∧ type_of% @k91_r20_e ∧ type_of% @k91_r21_e ∧ type_of% @k91_r22_e ∧ type_of% @k91_r23_e ∧ type_of% @k91_r24_e ∧ type_of% @k91_r25_e ∧ type_of% @k91_r26_e ∧ type_of% @k91_r27_e ∧ type_of% @k91_r28_e ∧ type_of% @k91_r29_e ∧ type_of% @k91_r30_e ∧ type_of% @k91_r31_e ∧ type_of% @k91_r32_e ∧ type_of% @k91_r33_e ∧ type_of% @k91_r34_e ∧ type_of% @k91_l0_e ∧ type_of% @k91_r35_e := ⟨@k91_e, @k91_r0_e, @k91_r1_e, @k91_r2_e, @k91_r3_e, @k91_r4_e, @k91_r5_e, @k91_r6_e, @k91_r7_e, @k91_r8_e, @k91_r9_e, @k91_r10_e, @k91_r11_e, @k91_r12_e, @k91_r13_e, @k91_r14_e, @k91_r15_e, @k91_r16_e, @k91_r17_e, @k91_r18_e, @k91_r19_e, @k91_r20_e, @k91_r21_e, @k91_r22_e, @k91_r23_e, @k91_r24_e, @k91_r25_e, @k91_r26_e, @k91_r27_e, @k91_r28_e, @k91_r29_e, @k91_r30_e, @k91_r31_e, @k91_r32_e, @k91_r33_e, @k91_r34_e, @k91_l0_e, @k91_r35_e⟩
/-- internal/stringslite.Index -/
theorem k91_is : FnIs Try.prog prims 91 143 [ResultVar.tmp 4] k91 := FnIs.of_fn Try.func91 (by kernel_rfl) rfl
def k92_r0 : List COp := [
  ⟨some 4, .assign (.const (.int .i64 0)), none, true⟩]
theorem k92_r0_e : type_of% (@Eo_of P pr N e σ Q _ _ k92_r0.eq_1) := Eo_of k92_r0.eq_1
def k92_r1 : List COp := [
  ⟨some 6, .move (.tmp 0), none, true⟩,
  ⟨some 7, .call { callee := .builtin .len, args := #[.tmp 6], argTypes := #[22] }, none, true⟩,
  ⟨some 8, .move (.const (.int .i64 0)), none, true⟩]
theorem k92_r1_e : type_of% (@Eo_of P pr N e σ Q _ _ k92_r1.eq_1) := Eo_of k92_r1.eq_1
def k92_r2 : List COp := [
  ⟨some 9, .binOp .lss 3 (.tmp 8) (.tmp 7) 3, none, true⟩]
theorem k92_r2_e : type_of% (@Eo_of P pr N e σ Q _ _ k92_r2.eq_1) := Eo_of k92_r2.eq_1
def k92_r3 : List COp := [
  ⟨some 10, .move (.tmp 8), none, true⟩,
  ⟨some 5, .assign (.tmp 10), none, true⟩]
theorem k92_r3_e : type_of% (@Eo_of P pr N e σ Q _ _ k92_r3.eq_1) := Eo_of k92_r3.eq_1
def k92_r4 : List COp := [
  ⟨some 11, .move (.tmp 1), none, true⟩,
  ⟨some 12, .move (.tmp 0), none, true⟩,
  ⟨some 13, .move (.tmp 5), none, true⟩,
  ⟨some 14, .indexAddr 22 (.tmp 12) (.tmp 13), none, true⟩,
  ⟨some 15, .load 24 (.tmp 14), none, true⟩,
  ⟨some 16, .call { callee := .value (.tmp 11), args := #[.tmp 15], argTypes := #[24] }, none, true⟩]
theorem k92_r4_e : type_of% (@Eo_of P pr N e σ Q _ _ k92_r4.eq_1) := Eo_of k92_r4.eq_1
def k92_r5 : List COp := [
  ⟨some 17, .move (.tmp 5), none, true⟩,
  ⟨some 4, .assign (.tmp 17), none, true⟩]
theorem k92_r5_e : type_of% (@Eo_of P pr N e σ Q _ _ k92_r5.eq_1) := Eo_of k92_r5.eq_1
def k92_r6 : List COp := [
  ⟨some 18, .binOp .add 3 (.tmp 8) (.const (.int .i64 1)) 3, none, true⟩,
  ⟨some 8, .move (.tmp 18), none, true⟩]
theorem k92_r6_e : type_of% (@Eo_of P pr N e σ Q _ _ k92_r6.eq_1) := Eo_of k92_r6.eq_1
def k92_l0 : CC := (.seq (.region k92_r2) (.seq (.cond (.tmp 9) .skip (.exit 0)) (.seq (.block 1 (.seq (.region k92_r3) (.seq (.region k92_r4) (.cond (.tmp 16) (.seq (.region k92_r5) .ret) .skip)))) (.region k92_r6))))
theorem k92_l0_e : type_of% (@Ev_of P pr N e σ Q _ _ k92_l0.eq_1) := Ev_of k92_l0.eq_1
def k92_r7 : List COp := [
  ⟨some 4, .assign (.const (.int .i64 (-1))), none, true⟩]
theorem k92_r7_e : type_of% (@Eo_of P pr N e σ Q _ _ k92_r7.eq_1) := Eo_of k92_r7.eq_1
def k92 : CC := (.seq (.region k92_r0) (.seq (.seq (.region k92_r1) (.block 0 (.loop k92_l0))) (.seq (.region k92_r7) .ret)))
theorem k92_e : type_of% (@Ev_of P pr N e σ Q _ _ k92.eq_1) := Ev_of k92.eq_1
theorem k92_a : type_of% @k92_e ∧ type_of% @k92_r0_e ∧ type_of% @k92_r1_e ∧ type_of% @k92_r2_e ∧ type_of% @k92_r3_e ∧ type_of% @k92_r4_e ∧ type_of% @k92_r5_e ∧ type_of% @k92_r6_e ∧ type_of% @k92_l0_e ∧ type_of% @k92_r7_e := ⟨@k92_e, @k92_r0_e, @k92_r1_e, @k92_r2_e, @k92_r3_e, @k92_r4_e, @k92_r5_e, @k92_r6_e, @k92_l0_e, @k92_r7_e⟩
/-- slices.IndexFunc[[]quern/api.Value,quern/api.Value] -/
theorem k92_is : FnIs Try.prog prims 92 19 [ResultVar.tmp 4] k92 := FnIs.of_fn Try.func92 (by kernel_rfl) rfl
def k94_r0 : List COp := [
  ⟨some 2, .assign (.const (.int .i64 0)), none, true⟩,
  ⟨some 3, .assign (.const (.int .i64 0)), none, true⟩]
theorem k94_r0_e : type_of% (@Eo_of P pr N e σ Q _ _ k94_r0.eq_1) := Eo_of k94_r0.eq_1
def k94_r1 : List COp := [
  ⟨some 4, .assign (.const (.int .i64 0)), none, true⟩]
theorem k94_r1_e : type_of% (@Eo_of P pr N e σ Q _ _ k94_r1.eq_1) := Eo_of k94_r1.eq_1
def k94_r2 : List COp := [
  ⟨some 5, .assign (.const (.int .i64 0)), none, true⟩]
theorem k94_r2_e : type_of% (@Eo_of P pr N e σ Q _ _ k94_r2.eq_1) := Eo_of k94_r2.eq_1
def k94_r3 : List COp := [
  ⟨some 6, .move (.tmp 5), none, true⟩,
  ⟨some 7, .move (.tmp 0), none, true⟩,
  ⟨some 8, .call { callee := .builtin .len, args := #[.tmp 7], argTypes := #[44] }, none, true⟩,
  ⟨some 9, .binOp .lss 3 (.tmp 6) (.tmp 8) 3, none, true⟩,
  ⟨some 10, .move (.tmp 9), none, true⟩,
  ⟨some 11, .move (.tmp 5), some (10, true), true⟩,
  ⟨some 12, .binOp .lss 3 (.tmp 11) (.const (.int .i64 9)) 3, some (10, true), true⟩,
  ⟨some 13, .pick (.tmp 10) (.tmp 12) (.const (.bool false)), none, true⟩]
theorem k94_r3_e : type_of% (@Eo_of P pr N e σ Q _ _ k94_r3.eq_1) := Eo_of k94_r3.eq_1
def k94_r5 : List COp := [
  ⟨some 16, .move (.tmp 4), none, true⟩,
  ⟨some 17, .move (.tmp 0), none, true⟩,
  ⟨some 18, .move (.tmp 5), none, true⟩,
  ⟨some 19, .indexAddr 44 (.tmp 17) (.tmp 18), none, true⟩,
  ⟨some 20, .load 5 (.tmp 19), none, true⟩,
  ⟨some 21, .binOp .and 5 (.tmp 20) (.const (.int .u8 127)) 5, none, true⟩,
  ⟨some 22, .convert 5 3 (.tmp 21), none, true⟩,
  ⟨some 23, .move (.tmp 5), none, true⟩,
  ⟨some 24, .binOp .mul 3 (.const (.int .i64 7)) (.tmp 23) 3, none, true⟩,
  ⟨some 25, .binOp .shl 3 (.tmp 22) (.tmp 24) 3, none, true⟩,
  ⟨some 26, .binOp .or 3 (.tmp 16) (.tmp 25) 3, none, true⟩,
  ⟨some 4, .assign (.tmp 26), none, true⟩]
theorem k94_r5_e : type_of% (@Eo_of P pr N e σ Q _ _ k94_r5.eq_1) := Eo_of k94_r5.eq_1
def k94_r6 : List COp := [
  ⟨some 27, .move (.tmp 0), none, true⟩,
  ⟨some 28, .move (.tmp 5), none, true⟩,
  ⟨some 29, .indexAddr 44 (.tmp 27) (.tmp 28), none, true⟩,
  ⟨some 30, .load 5 (.tmp 29), none, true⟩,
  ⟨some 31, .binOp .gtr 5 (.tmp 30) (.const (.int .u8 127)) 5, none, true⟩]
theorem k94_r6_e : type_of% (@Eo_of P pr N e σ Q _ _ k94_r6.eq_1) := Eo_of k94_r6.eq_1
def k94_r7 : List COp := [
  ⟨some 32, .move (.tmp 0), none, true⟩,
  ⟨some 33, .move (.tmp 5), none, true⟩,
  ⟨some 34, .indexAddr 44 (.tmp 32) (.tmp 33), none, true⟩,
  ⟨some 35, .load 5 (.tmp 34), none, true⟩,
  ⟨some 36, .binOp .eql 5 (.tmp 35) (.const (.int .u8 0)) 5, none, true⟩,
  ⟨some 37, .move (.tmp 36), none, true⟩,
  ⟨some 38, .move (.tmp 5), some (37, true), true⟩,
  ⟨some 39, .binOp .gtr 3 (.tmp 38) (.const (.int .i64 0)) 3, some (37, true), true⟩,
  ⟨some 40, .pick (.tmp 37) (.tmp 39) (.const (.bool false)), none, true⟩]
theorem k94_r7_e : type_of% (@Eo_of P pr N e σ Q _ _ k94_r7.eq_1) := Eo_of k94_r7.eq_1
def k94_r8 : List COp := [
  ⟨some 41, .move (.tmp 4), none, true⟩,
  ⟨some 42, .move (.tmp 5), none, true⟩,
  ⟨some 43, .binOp .add 3 (.tmp 42) (.const (.int .i64 1)) 3, none, true⟩,
  ⟨some 2, .assign (.tmp 41), none, true⟩,
  ⟨some 3, .assign (.tmp 43), none, true⟩]
theorem k94_r8_e : type_of% (@Eo_of P pr N e σ Q _ _ k94_r8.eq_1) := Eo_of k94_r8.eq_1
def k94_r4 : List COp := [
  ⟨some 14, .move (.tmp 5), none, true⟩,
  ⟨some 15, .binOp .add 3 (.tmp 14) (.const (.int .i64 1)) 3, none, true⟩,
  ⟨some 5, .assign (.tmp 15), none, true⟩]
theorem k94_r4_e : type_of% (@Eo_of P pr N e σ Q _ _ k94_r4.eq_1) := Eo_of k94_r4.eq_1
def k94_l0 : CC := (.seq (.seq (.region k94_r3) (.cond (.tmp 13) .skip (.exit 0))) (.seq (.block 1 (.seq (.region k94_r5) (.seq (.seq (.region k94_r6) (.cond (.tmp 31) (.exit 1) .skip)) (.seq (.seq (.region k94_r7) (.cond (.tmp 40) (.exit 0) .skip)) (.seq (.region k94_r8) .ret))))) (.region k94_r4)))
theorem k94_l0_e : type_of% (@Ev_of P pr N e σ Q _ _ k94_l0.eq_1) := Ev_of k94_l0.eq_1
def k94_r9 : List COp := [
  ⟨some 2, .assign (.const (.int .i64 0)), none, true⟩,
  ⟨some 3, .assign (.const (.int .i64 0)), none, true⟩]
theorem k94_r9_e : type_of% (@Eo_of P pr N e σ Q _ _ k94_r9.eq_1) := Eo_of k94_r9.eq_1
def k94 : CC := (.seq (.region k94_r0) (.seq (.region k94_r1) (.seq (.seq (.region k94_r2) (.block 0 (.loop k94_l0))) (.seq (.region k94_r9) .ret))))
theorem k94_e : type_of% (@Ev_of P pr N e σ Q _ _ k94.eq_1) := Ev_of k94.eq_1
theorem k94_a : type_of% @k94_e ∧ type_of% @k94_r0_e ∧ type_of% @k94_r1_e ∧ type_of% @k94_r2_e ∧ type_of% @k94_r3_e ∧ type_of% @k94_r5_e ∧ type_of% @k94_r6_e ∧ type_of% @k94_r7_e ∧ type_of% @k94_r8_e ∧ type_of% @k94_r4_e ∧ type_of% @k94_l0_e ∧ type_of% @k94_r9_e := ⟨@k94_e, @k94_r0_e, @k94_r1_e, @k94_r2_e, @k94_r3_e, @k94_r5_e, @k94_r6_e, @k94_r7_e, @k94_r8_e, @k94_r4_e, @k94_l0_e, @k94_r9_e⟩
/-- quern/pack.Take -/
theorem k94_is : FnIs Try.prog prims 94 44 [ResultVar.tmp 2, ResultVar.tmp 3] k94 := FnIs.of_fn Try.func94 (by kernel_rfl) rfl
def k95_r0 : List COp := [
  ⟨some 2, .assign (.const (.int .i64 0)), none, true⟩,
  ⟨some 3, .assign (.const (.int .i64 0)), none, true⟩]
theorem k95_r0_e : type_of% (@Eo_of P pr N e σ Q _ _ k95_r0.eq_1) := Eo_of k95_r0.eq_1
def k95_r1 : List COp := [
  ⟨some 4, .assign (.const (.int .i64 0)), none, true⟩]
theorem k95_r1_e : type_of% (@Eo_of P pr N e σ Q _ _ k95_r1.eq_1) := Eo_of k95_r1.eq_1
def k95_r2 : List COp := [
  ⟨some 7, .move (.tmp 4), none, true⟩,
  ⟨some 8, .move (.tmp 0), none, true⟩,
  ⟨some 9, .call { callee := .builtin .len, args := #[.tmp 8], argTypes := #[44] }, none, true⟩,
  ⟨some 10, .binOp .lss 3 (.tmp 7) (.tmp 9) 3, none, true⟩,
  ⟨some 11, .move (.tmp 10), none, true⟩,
  ⟨some 12, .move (.tmp 0), some (11, true), true⟩,
  ⟨some 13, .move (.tmp 4), some (11, true), true⟩,
  ⟨some 14, .indexAddr 44 (.tmp 12) (.tmp 13), some (11, true), true⟩,
  ⟨some 15, .load 5 (.tmp 14), some (11, true), true⟩,
  ⟨some 16, .binOp .geq 5 (.tmp 15) (.const (.int .u8 128)) 5, some (11, true), true⟩,
  ⟨some 17, .pick (.tmp 11) (.tmp 16) (.const (.bool false)), none, true⟩]
theorem k95_r2_e : type_of% (@Eo_of P pr N e σ Q _ _ k95_r2.eq_1) := Eo_of k95_r2.eq_1
def k95_r3 : List COp := [
  ⟨some 18, .move (.tmp 4), none, true⟩,
  ⟨some 19, .binOp .add 3 (.tmp 18) (.const (.int .i64 1)) 3, none, true⟩,
  ⟨some 4, .assign (.tmp 19), none, true⟩]
theorem k95_r3_e : type_of% (@Eo_of P pr N e σ Q _ _ k95_r3.eq_1) := Eo_of k95_r3.eq_1
def k95_l0 : CC := (.seq (.seq (.region k95_r2) (.cond (.tmp 17) .skip (.exit 0))) (.block 1 (.region k95_r3)))
theorem k95_l0_e : type_of% (@Ev_of P pr N e σ Q _ _ k95_l0.eq_1) := Ev_of k95_l0.eq_1
def k95_r4 : List COp := [
  ⟨some 20, .move (.tmp 4), none, true⟩,
  ⟨some 21, .move (.tmp 0), none, true⟩,
  ⟨some 22, .call { callee := .builtin .len, args := #[.tmp 21], argTypes := #[44] }, none, true⟩,
  ⟨some 23, .binOp .geq 3 (.tmp 20) (.tmp 22) 3, none, true⟩,
  ⟨some 24, .move (.tmp 23), none, true⟩,
  ⟨some 25, .move (.tmp 4), some (24, false), true⟩,
  ⟨some 26, .binOp .geq 3 (.tmp 25) (.const (.int .i64 9)) 3, some (24, false), true⟩,
  ⟨some 27, .pick (.tmp 24) (.const (.bool true)) (.tmp 26), none, true⟩,
  ⟨some 28, .move (.tmp 27), none, true⟩,
  ⟨some 29, .move (.tmp 4), some (28, false), true⟩,
  ⟨some 30, .binOp .gtr 3 (.tmp 29) (.const (.int .i64 0)) 3, some (28, false), true⟩,
  ⟨some 31, .move (.tmp 30), some (28, false), true⟩,
  ⟨some 32, .move (.tmp 0), some (31, true), true⟩,
  ⟨some 33, .move (.tmp 4), some (31, true), true⟩,
  ⟨some 34, .indexAddr 44 (.tmp 32) (.tmp 33), some (31, true), true⟩,
  ⟨some 35, .load 5 (.tmp 34), some (31, true), true⟩,
  ⟨some 36, .binOp .eql 5 (.tmp 35) (.const (.int .u8 0)) 5, some (31, true), true⟩,
  ⟨some 37, .pick (.tmp 31) (.tmp 36) (.const (.bool false)), some (28, false), true⟩,
  ⟨some 38, .pick (.tmp 28) (.const (.bool true)) (.tmp 37), none, true⟩]
theorem k95_r4_e : type_of% (@Eo_of P pr N e σ Q _ _ k95_r4.eq_1) := Eo_of k95_r4.eq_1
def k95_r5 : List COp := [
  ⟨some 2, .assign (.const (.int .i64 0)), none, true⟩,
  ⟨some 3, .assign (.const (.int .i64 0)), none, true⟩]
theorem k95_r5_e : type_of% (@Eo_of P pr N e σ Q _ _ k95_r5.eq_1) := Eo_of k95_r5.eq_1
def k95_r6 : List COp := [
  ⟨some 5, .assign (.const (.int .i64 0)), none, true⟩]
theorem k95_r6_e : type_of% (@Eo_of P pr N e σ Q _ _ k95_r6.eq_1) := Eo_of k95_r6.eq_1
def k95_r7 : List COp := [
  ⟨some 39, .move (.tmp 4), none, true⟩,
  ⟨some 6, .assign (.tmp 39), none, true⟩]
theorem k95_r7_e : type_of% (@Eo_of P pr N e σ Q _ _ k95_r7.eq_1) := Eo_of k95_r7.eq_1
def k95_r8 : List COp := [
  ⟨some 40, .move (.tmp 6), none, true⟩,
  ⟨some 41, .binOp .geq 3 (.tmp 40) (.const (.int .i64 0)) 3, none, true⟩]
theorem k95_r8_e : type_of% (@Eo_of P pr N e σ Q _ _ k95_r8.eq_1) := Eo_of k95_r8.eq_1
def k95_r10 : List COp := [
  ⟨some 44, .move (.tmp 5), none, true⟩,
  ⟨some 45, .binOp .mul 3 (.tmp 44) (.const (.int .i64 128)) 3, none, true⟩,
  ⟨some 46, .move (.tmp 0), none, true⟩,
  ⟨some 47, .move (.tmp 6), none, true⟩,
  ⟨some 48, .indexAddr 44 (.tmp 46) (.tmp 47), none, true⟩,
  ⟨some 49, .load 5 (.tmp 48), none, true⟩,
  ⟨some 50, .convert 5 3 (.tmp 49), none, true⟩,
  ⟨some 51, .binOp .rem 3 (.tmp 50) (.const (.int .i64 128)) 3, none, true⟩,
  ⟨some 52, .binOp .add 3 (.tmp 45) (.tmp 51) 3, none, true⟩,
  ⟨some 5, .assign (.tmp 52), none, true⟩]
theorem k95_r10_e : type_of% (@Eo_of P pr N e σ Q _ _ k95_r10.eq_1) := Eo_of k95_r10.eq_1
def k95_r9 : List COp := [
  ⟨some 42, .move (.tmp 6), none, true⟩,
  ⟨some 43, .binOp .sub 3 (.tmp 42) (.const (.int .i64 1)) 3, none, true⟩,
  ⟨some 6, .assign (.tmp 43), none, true⟩]
theorem k95_r9_e : type_of% (@Eo_of P pr N e σ Q _ _ k95_r9.eq_1) := Eo_of k95_r9.eq_1
def k95_l1 : CC := (.seq (.seq (.region k95_r8) (.cond (.tmp 41) .skip (.exit 2))) (.seq (.block 3 (.region k95_r10)) (.region k95_r9)))
theorem k95_l1_e : type_of% (@Ev_of P pr N e σ Q _ _ k95_l1.eq_1) := Ev_of k95_l1.eq_1
def k95_r11 : List COp := [
  ⟨some 53, .move (.tmp 5), none, true⟩,
  ⟨some 54, .move (.tmp 4), none, true⟩,
  ⟨some 55, .binOp .add 3 (.tmp 54) (.const (.int .i64 1)) 3, none, true⟩,
  ⟨some 2, .assign (.tmp 53), none, true⟩,
  ⟨some 3, .assign (.tmp 55), none, true⟩]
theorem k95_r11_e : type_of% (@Eo_of P pr N e σ Q _ _ k95_r11.eq_1) := Eo_of k95_r11.eq_1
def k95 : CC := (.seq (.region k95_r0) (.seq (.region k95_r1) (.seq (.block 0 (.loop k95_l0)) (.seq (.seq (.region k95_r4) (.cond (.tmp 38) (.seq (.region k95_r5) .ret) .skip)) (.seq (.region k95_r6) (.seq (.seq (.region k95_r7) (.block 2 (.loop k95_l1))) (.seq (.region k95_r11) .ret)))))))
theorem k95_e : type_of% (@Ev_of P pr N e σ Q _ _ k95.eq_1) := Ev_of k95.eq_1
theorem k95_a : type_of% @k95_e ∧ type_of% @k95_r0_e ∧ type_of% @k95_r1_e ∧ type_of% @k95_r2_e ∧ type_of% @k95_r3_e ∧ type_of% @k95_l0_e ∧ type_of% @k95_r4_e ∧ type_of% @k95_r5_e ∧ type_of% @k95_r6_e ∧ type_of% @k95_r7_e ∧ type_of% @k95_r8_e ∧ type_of% @k95_r10_e ∧ type_of% @k95_r9_e ∧ type_of% @k95_l1_e ∧ type_of% @k95_r11_e := ⟨@k95_e, @k95_r0_e, @k95_r1_e, @k95_r2_e, @k95_r3_e, @k95_l0_e, @k95_r4_e, @k95_r5_e, @k95_r6_e, @k95_r7_e, @k95_r8_e, @k95_r10_e, @k95_r9_e, @k95_l1_e, @k95_r11_e⟩
/-- quern/quernref01.Take -/
theorem k95_is : FnIs Try.prog prims 95 56 [ResultVar.tmp 2, ResultVar.tmp 3] k95 := FnIs.of_fn Try.func95 (by kernel_rfl) rfl
def k97_r0 : List COp := [
  ⟨some 4, .assign (.const (.string { data := #[] })), none, true⟩,
  ⟨some 5, .assign (.const (.bool false)), none, true⟩]
theorem k97_r0_e : type_of% (@Eo_of P pr N e σ Q _ _ k97_r0.eq_1) := Eo_of k97_r0.eq_1
def k97_r1 : List COp := [
  ⟨some 6, .move (.tmp 0), none, true⟩,
  ⟨some 7, .move (.tmp 1), none, true⟩,
  ⟨some 8, .call { callee := .value (.func 103), args := #[.tmp 6, .tmp 7], argTypes := #[9, 9] }, none, true⟩,
  ⟨some 9, .unOp .not 4 (.tmp 8), none, true⟩]
theorem k97_r1_e : type_of% (@Eo_of P pr N e σ Q _ _ k97_r1.eq_1) := Eo_of k97_r1.eq_1
def k97_r2 : List COp := [
  ⟨some 10, .move (.tmp 0), none, true⟩,
  ⟨some 4, .assign (.tmp 10), none, true⟩,
  ⟨some 5, .assign (.const (.bool false)), none, true⟩]
theorem k97_r2_e : type_of% (@Eo_of P pr N e σ Q _ _ k97_r2.eq_1) := Eo_of k97_r2.eq_1
def k97_r3 : List COp := [
  ⟨some 11, .move (.tmp 0), none, true⟩,
  ⟨some 12, .move (.tmp 1), none, true⟩,
  ⟨some 13, .call { callee := .builtin .len, args := #[.tmp 12], argTypes := #[9] }, none, true⟩,
  ⟨some 14, .slice 9 (.tmp 11) (some (.tmp 13)) .none .none, none, true⟩,
  ⟨some 4, .assign (.tmp 14), none, true⟩,
  ⟨some 5, .assign (.const (.bool true)), none, true⟩]
theorem k97_r3_e : type_of% (@Eo_of P pr N e σ Q _ _ k97_r3.eq_1) := Eo_of k97_r3.eq_1
def k97 : CC := (.seq (.region k97_r0) (.seq (.seq (.region k97_r1) (.cond (.tmp 9) (.seq (.region k97_r2) .ret) .skip)) (.seq (.region k97_r3) .ret)))
theorem k97_e : type_of% (@Ev_of P pr N e σ Q _ _ k97.eq_1) := Ev_of k97.eq_1
theorem k97_a : type_of% @k97_e ∧ type_of% @k97_r0_e ∧ type_of% @k97_r1_e ∧ type_of% @k97_r2_e ∧ type_of% @k97_r3_e := ⟨@k97_e, @k97_r0_e, @k97_r1_e, @k97_r2_e, @k97_r3_e⟩
/-- internal/stringslite.CutPrefix -/
theorem k97_is : FnIs Try.prog prims 97 15 [ResultVar.tmp 4, ResultVar.tmp 5] k97 := FnIs.of_fn Try.func97 (by kernel_rfl) rfl
def k103_r0 : List COp := [
  ⟨some 4, .assign (.const (.bool false)), none, true⟩]
theorem k103_r0_e : type_of% (@Eo_of P pr N e σ Q _ _ k103_r0.eq_1) := Eo_of k103_r0.eq_1
def k103_r1 : List COp := [
  ⟨some 5, .move (.tmp 0), none, true⟩,
  ⟨some 6, .call { callee := .builtin .len, args := #[.tmp 5], argTypes := #[9] }, none, true⟩,
  ⟨some 7, .move (.tmp 1), none, true⟩,
  ⟨some 8, .call { callee := .builtin .len, args := #[.tmp 7], argTypes := #[9] }, none, true⟩,
  ⟨some 9, .binOp .geq 3 (.tmp 6) (.tmp 8) 3, none, true⟩,
  ⟨some 10, .move (.tmp 9), none, true⟩,
  ⟨some 11, .move (.tmp 0), some (10, true), true⟩,
  ⟨some 12, .move (.tmp 1), some (10, true), true⟩,
  ⟨some 13, .call { callee := .builtin .len, args := #[.tmp 12], argTypes := #[9] }, some (10, true), true⟩,
  ⟨some 14, .slice 9 (.tmp 11) .none (some (.tmp 13)) .none, some (10, true), true⟩,
  ⟨some 15, .move (.tmp 1), some (10, true), true⟩,
  ⟨some 16, .binOp .eql 9 (.tmp 14) (.tmp 15) 9, some (10, true), true⟩,
  ⟨some 17, .pick (.tmp 10) (.tmp 16) (.const (.bool false)), none, true⟩,
  ⟨some 4, .assign (.tmp 17), none, true⟩]
theorem k103_r1_e : type_of% (@Eo_of P pr N e σ Q _ _ k103_r1.eq_1) := Eo_of k103_r1.eq_1
def k103 : CC := (.seq (.region k103_r0) (.seq (.region k103_r1) .ret))
theorem k103_e : type_of% (@Ev_of P pr N e σ Q _ _ k103.eq_1) := Ev_of k103.eq_1
theorem k103_a : type_of% @k103_e ∧ type_of% @k103_r0_e ∧ type_of% @k103_r1_e := ⟨@k103_e, @k103_r0_e, @k103_r1_e⟩
/-- internal/stringslite.HasPrefix -/
theorem k103_is : FnIs Try.prog prims 103 18 [ResultVar.tmp 4] k103 := FnIs.of_fn Try.func103 (by kernel_rfl) rfl
end Go.Proofs.Ytlimedbanpfkgaa.Q
