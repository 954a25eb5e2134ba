/- A part of the proof: Rc, Qq, Qr, Qs, Qt, Qu, Ta, Ro, Va, Ca, Cb, Cc. -/
import Derived.Test.YtplhelapcpcncaaMa3
import Derived.Test.YtplhelapcpcncaaChecked
import Derived.Test.YtplhelapcpcncaaMa4
/- The code of some functions without its ornaments. Written by gen.py. -/
set_option maxRecDepth 100000
namespace Go.Proofs.Ytplhelapcpcncaa.Q
open Go Go.RowKit Go.Proofs
variable {P : Program} {pr : Prim} {N : Nat} {e : Nat → V} {σ : St} {Q : VX → (Nat → V) → St → Prop} {QQ : QD} {SS : QS} {m : Pn}
def k75_r0 : List COp := [
  ⟨some 6, .assign (.const (.int .i64 0)), none, true⟩]
theorem k75_r0_e : type_of% (@Eo_of P pr N e σ Q _ _ k75_r0.eq_1) := Eo_of k75_r0.eq_1
def k75_r1 : List COp := [
  ⟨some 11, .move (.tmp 0), none, true⟩,
  ⟨some 12, .call { callee := .builtin .len, args := #[.tmp 11], argTypes := #[22] }, none, true⟩,
  ⟨some 13, .move (.const (.int .i64 0)), none, true⟩]
theorem k75_r1_e : type_of% (@Eo_of P pr N e σ Q _ _ k75_r1.eq_1) := Eo_of k75_r1.eq_1
def k75_r2 : List COp := [
  ⟨some 14, .binOp .lss 3 (.tmp 13) (.tmp 12) 3, none, true⟩]
theorem k75_r2_e : type_of% (@Eo_of P pr N e σ Q _ _ k75_r2.eq_1) := Eo_of k75_r2.eq_1
def k75_r3 : List COp := [
  ⟨some 15, .move (.tmp 13), none, true⟩,
  ⟨some 16, .indexAddr 22 (.tmp 11) (.tmp 13), none, true⟩,
  ⟨some 17, .load 29 (.tmp 16), none, true⟩,
  ⟨some 8, .alloc 29, none, true⟩,
  ⟨some 7, .assign (.tmp 15), none, true⟩,
  ⟨none, .store 29 (.tmp 8) (.tmp 17), none, true⟩]
theorem k75_r3_e : type_of% (@Eo_of P pr N e σ Q _ _ k75_r3.eq_1) := Eo_of k75_r3.eq_1
def k75_r4 : List COp := [
  ⟨some 18, .move (.tmp 7), none, true⟩,
  ⟨some 19, .move (.tmp 1), none, true⟩,
  ⟨some 20, .call { callee := .builtin .len, args := #[.tmp 19], argTypes := #[22] }, none, true⟩,
  ⟨some 21, .binOp .geq 3 (.tmp 18) (.tmp 20) 3, none, true⟩]
theorem k75_r4_e : type_of% (@Eo_of P pr N e σ Q _ _ k75_r4.eq_1) := Eo_of k75_r4.eq_1
def k75_r5 : List COp := [
  ⟨some 6, .assign (.const (.int .i64 1)), none, true⟩]
theorem k75_r5_e : type_of% (@Eo_of P pr N e σ Q _ _ k75_r5.eq_1) := Eo_of k75_r5.eq_1
def k75_r6 : List COp := [
  ⟨some 22, .move (.tmp 1), none, true⟩,
  ⟨some 23, .move (.tmp 7), none, true⟩,
  ⟨some 24, .indexAddr 22 (.tmp 22) (.tmp 23), none, true⟩,
  ⟨some 25, .load 29 (.tmp 24), none, true⟩,
  ⟨some 9, .alloc 29, none, true⟩,
  ⟨none, .store 29 (.tmp 9) (.tmp 25), none, true⟩]
theorem k75_r6_e : type_of% (@Eo_of P pr N e σ Q _ _ k75_r6.eq_1) := Eo_of k75_r6.eq_1
def k75_r7 : List COp := [
  ⟨some 26, .move (.tmp 2), none, true⟩,
  ⟨some 27, .load 29 (.tmp 8), none, true⟩,
  ⟨some 28, .load 29 (.tmp 9), none, true⟩,
  ⟨some 29, .call { callee := .value (.tmp 26), args := #[.tmp 27, .tmp 28], argTypes := #[29, 29] }, none, true⟩,
  ⟨some 10, .assign (.tmp 29), none, true⟩]
theorem k75_r7_e : type_of% (@Eo_of P pr N e σ Q _ _ k75_r7.eq_1) := Eo_of k75_r7.eq_1
def k75_r8 : List COp := [
  ⟨some 30, .move (.tmp 10), none, true⟩,
  ⟨some 31, .binOp .neq 3 (.tmp 30) (.const (.int .i64 0)) 3, none, true⟩]
theorem k75_r8_e : type_of% (@Eo_of P pr N e σ Q _ _ k75_r8.eq_1) := Eo_of k75_r8.eq_1
def k75_r9 : List COp := [
  ⟨some 32, .move (.tmp 10), none, true⟩,
  ⟨some 6, .assign (.tmp 32), none, true⟩]
theorem k75_r9_e : type_of% (@Eo_of P pr N e σ Q _ _ k75_r9.eq_1) := Eo_of k75_r9.eq_1
def k75_r10 : List COp := [
  ⟨some 33, .binOp .add 3 (.tmp 13) (.const (.int .i64 1)) 3, none, true⟩,
  ⟨some 13, .move (.tmp 33), none, true⟩]
theorem k75_r10_e : type_of% (@Eo_of P pr N e σ Q _ _ k75_r10.eq_1) := Eo_of k75_r10.eq_1
def k75_l0 : CC := (.seq (.region k75_r2) (.seq (.cond (.tmp 14) .skip (.exit 0)) (.seq (.block 1 (.seq (.region k75_r3) (.seq (.seq (.region k75_r4) (.cond (.tmp 21) (.seq (.region k75_r5) .ret) .skip)) (.seq (.region k75_r6) (.seq (.region k75_r7) (.seq (.region k75_r8) (.cond (.tmp 31) (.seq (.region k75_r9) .ret) .skip))))))) (.region k75_r10))))
theorem k75_l0_e : type_of% (@Ev_of P pr N e σ Q _ _ k75_l0.eq_1) := Ev_of k75_l0.eq_1
def k75_r11 : List COp := [
  ⟨some 34, .move (.tmp 0), none, true⟩,
  ⟨some 35, .call { callee := .builtin .len, args := #[.tmp 34], argTypes := #[22] }, none, true⟩,
  ⟨some 36, .move (.tmp 1), none, true⟩,
  ⟨some 37, .call { callee := .builtin .len, args := #[.tmp 36], argTypes := #[22] }, none, true⟩,
  ⟨some 38, .binOp .lss 3 (.tmp 35) (.tmp 37) 3, none, true⟩]
theorem k75_r11_e : type_of% (@Eo_of P pr N e σ Q _ _ k75_r11.eq_1) := Eo_of k75_r11.eq_1
def k75_r12 : List COp := [
  ⟨some 6, .assign (.const (.int .i64 (-1))), none, true⟩]
theorem k75_r12_e : type_of% (@Eo_of P pr N e σ Q _ _ k75_r12.eq_1) := Eo_of k75_r12.eq_1
def k75_r13 : List COp := [
  ⟨some 6, .assign (.const (.int .i64 0)), none, true⟩]
theorem k75_r13_e : type_of% (@Eo_of P pr N e σ Q _ _ k75_r13.eq_1) := Eo_of k75_r13.eq_1
def k75 : CC := (.seq (.region k75_r0) (.seq (.seq (.region k75_r1) (.block 0 (.loop k75_l0))) (.seq (.seq (.region k75_r11) (.cond (.tmp 38) (.seq (.region k75_r12) .ret) .skip)) (.seq (.region k75_r13) .ret))))
theorem k75_e : type_of% (@Ev_of P pr N e σ Q _ _ k75.eq_1) := Ev_of k75.eq_1
theorem k75_a : type_of% @k75_e ∧ type_of% @k75_r0_e ∧ type_of% @k75_r1_e ∧ type_of% @k75_r2_e ∧ type_of% @k75_r3_e ∧ type_of% @k75_r4_e ∧ type_of% @k75_r5_e ∧ type_of% @k75_r6_e ∧ type_of% @k75_r7_e ∧ type_of% @k75_r8_e ∧ type_of% @k75_r9_e ∧ type_of% @k75_r10_e ∧ type_of% @k75_l0_e ∧ type_of% @k75_r11_e ∧ type_of% @k75_r12_e ∧ type_of% @k75_r13_e := ⟨@k75_e, @k75_r0_e, @k75_r1_e, @k75_r2_e, @k75_r3_e, @k75_r4_e, @k75_r5_e, @k75_r6_e, @k75_r7_e, @k75_r8_e, @k75_r9_e, @k75_r10_e, @k75_l0_e, @k75_r11_e, @k75_r12_e, @k75_r13_e⟩
/-- slices.CompareFunc[[]quern/api.Value,[]quern/api.Value,quern/api.Value,quern/api.Value] -/
theorem k75_is : FnIs Try.prog prims 75 39 [ResultVar.tmp 6] k75 := FnIs.of_fn Try.func75 (by kernel_rfl) rfl
def k50_r0 : List COp := [
  ⟨some 3, .box 29 (.tmp 1), none, true⟩,
  ⟨some 4, .assign (.const (.slice .none 0 0)), none, true⟩]
theorem k50_r0_e : type_of% (@Eo_of P pr N e σ Q _ _ k50_r0.eq_1) := Eo_of k50_r0.eq_1
def k50_r1 : List COp := [
  ⟨some 8, .fieldAddr 29 (.tmp 3) 0, none, true⟩,
  ⟨some 9, .load 3 (.tmp 8), none, true⟩]
theorem k50_r1_e : type_of% (@Eo_of P pr N e σ Q _ _ k50_r1.eq_1) := Eo_of k50_r1.eq_1
def k50_r2 : List COp := [
  ⟨some 11, .binOp .eql 3 (.tmp 9) (.const (.int .i64 1)) 3, none, true⟩,
  ⟨some 10, .assign (.tmp 11), none, true⟩]
theorem k50_r2_e : type_of% (@Eo_of P pr N e σ Q _ _ k50_r2.eq_1) := Eo_of k50_r2.eq_1
def k50_r3 : List COp := [
  ⟨some 12, .move (.tmp 0), none, true⟩,
  ⟨some 13, .fieldAddr 29 (.tmp 3) 1, none, true⟩,
  ⟨some 14, .load 3 (.tmp 13), none, true⟩,
  ⟨some 15, .call { callee := .value (.func 68), args := #[.tmp 14], argTypes := #[3] }, none, true⟩,
  ⟨some 16, .call { callee := .value (.func 49), args := #[.tmp 12, .tmp 15], argTypes := #[41, 70] }, none, true⟩,
  ⟨some 4, .assign (.tmp 16), none, true⟩]
theorem k50_r3_e : type_of% (@Eo_of P pr N e σ Q _ _ k50_r3.eq_1) := Eo_of k50_r3.eq_1
def k50_r4 : List COp := [
  ⟨some 18, .binOp .eql 3 (.tmp 9) (.const (.int .i64 2)) 3, none, true⟩,
  ⟨some 17, .assign (.tmp 18), none, true⟩]
theorem k50_r4_e : type_of% (@Eo_of P pr N e σ Q _ _ k50_r4.eq_1) := Eo_of k50_r4.eq_1
def k50_r5 : List COp := [
  ⟨some 19, .move (.tmp 0), none, true⟩,
  ⟨some 20, .fieldAddr 29 (.tmp 3) 1, none, true⟩,
  ⟨some 21, .load 3 (.tmp 20), none, true⟩,
  ⟨some 22, .buildSlice 70 1 #[(0, .tmp 21)], none, true⟩,
  ⟨some 23, .call { callee := .value (.func 49), args := #[.tmp 19, .tmp 22], argTypes := #[41, 70] }, none, true⟩,
  ⟨some 4, .assign (.tmp 23), none, true⟩]
theorem k50_r5_e : type_of% (@Eo_of P pr N e σ Q _ _ k50_r5.eq_1) := Eo_of k50_r5.eq_1
def k50_r6 : List COp := [
  ⟨some 25, .binOp .eql 3 (.tmp 9) (.const (.int .i64 3)) 3, none, true⟩,
  ⟨some 24, .assign (.tmp 25), none, true⟩]
theorem k50_r6_e : type_of% (@Eo_of P pr N e σ Q _ _ k50_r6.eq_1) := Eo_of k50_r6.eq_1
def k50_r7 : CC := (.wregion [
  (true, ⟨some 26, .move (.tmp 0), none, false⟩),
  (false, ⟨some 27, .fieldAddr 29 (.tmp 3) 2, none, false⟩),
  (false, ⟨some 28, .load 9 (.tmp 27), none, false⟩),
  (false, ⟨some 29, .call { callee := .builtin .len, args := #[.tmp 28], argTypes := #[9] }, none, false⟩),
  (false, ⟨some 30, .buildSlice 70 1 #[(0, .tmp 29)], none, false⟩),
  (false, ⟨some 31, .call { callee := .value (.func 49), args := #[.tmp 26, .tmp 30], argTypes := #[41, 70] }, none, false⟩),
  (true, ⟨some 32, .fieldAddr 29 (.tmp 3) 2, none, true⟩),
  (true, ⟨some 33, .load 9 (.tmp 32), none, true⟩),
  (false, ⟨some 34, .call { callee := .builtin .append, args := #[.tmp 31, .tmp 33], argTypes := #[41, 9] }, none, true⟩),
  (false, ⟨some 4, .assign (.tmp 34), none, true⟩)] false [(7, ⟨some 33, .load 9 (.tmp 32), none, true⟩, [0, 6])])
theorem k50_r7_e : type_of% (@Ev_of P pr N e σ Q _ _ k50_r7.eq_1) := Ev_of k50_r7.eq_1
def k50_r8 : List COp := [
  ⟨some 35, .fieldAddr 29 (.tmp 3) 3, none, true⟩,
  ⟨some 36, .load 22 (.tmp 35), none, true⟩,
  ⟨some 37, .call { callee := .builtin .len, args := #[.tmp 36], argTypes := #[22] }, none, true⟩,
  ⟨some 5, .assign (.tmp 37), none, true⟩]
theorem k50_r8_e : type_of% (@Eo_of P pr N e σ Q _ _ k50_r8.eq_1) := Eo_of k50_r8.eq_1
def k50_r9 : List COp := [
  ⟨some 38, .fieldAddr 29 (.tmp 3) 0, none, true⟩,
  ⟨some 39, .load 3 (.tmp 38), none, true⟩,
  ⟨some 40, .binOp .eql 3 (.tmp 39) (.const (.int .i64 5)) 3, none, true⟩]
theorem k50_r9_e : type_of% (@Eo_of P pr N e σ Q _ _ k50_r9.eq_1) := Eo_of k50_r9.eq_1
def k50_r10 : List COp := [
  ⟨some 41, .move (.tmp 5), none, true⟩,
  ⟨some 42, .binOp .quo 3 (.tmp 41) (.const (.int .i64 2)) 3, none, true⟩,
  ⟨some 5, .assign (.tmp 42), none, true⟩]
theorem k50_r10_e : type_of% (@Eo_of P pr N e σ Q _ _ k50_r10.eq_1) := Eo_of k50_r10.eq_1
def k50_r11 : List COp := [
  ⟨some 43, .move (.tmp 0), none, true⟩,
  ⟨some 44, .move (.tmp 5), none, true⟩,
  ⟨some 45, .buildSlice 70 1 #[(0, .tmp 44)], none, true⟩,
  ⟨some 46, .call { callee := .value (.func 49), args := #[.tmp 43, .tmp 45], argTypes := #[41, 70] }, none, true⟩,
  ⟨some 0, .assign (.tmp 46), none, true⟩]
theorem k50_r11_e : type_of% (@Eo_of P pr N e σ Q _ _ k50_r11.eq_1) := Eo_of k50_r11.eq_1
def k50_r12 : List COp := [
  ⟨some 47, .fieldAddr 29 (.tmp 3) 3, none, true⟩,
  ⟨some 48, .load 22 (.tmp 47), none, true⟩,
  ⟨some 49, .call { callee := .builtin .len, args := #[.tmp 48], argTypes := #[22] }, none, true⟩,
  ⟨some 50, .move (.const (.int .i64 0)), none, true⟩]
theorem k50_r12_e : type_of% (@Eo_of P pr N e σ Q _ _ k50_r12.eq_1) := Eo_of k50_r12.eq_1
def k50_r13 : List COp := [
  ⟨some 51, .binOp .lss 3 (.tmp 50) (.tmp 49) 3, none, true⟩]
theorem k50_r13_e : type_of% (@Eo_of P pr N e σ Q _ _ k50_r13.eq_1) := Eo_of k50_r13.eq_1
def k50_r14 : List COp := [
  ⟨some 52, .indexAddr 22 (.tmp 48) (.tmp 50), none, true⟩,
  ⟨some 53, .load 29 (.tmp 52), none, true⟩,
  ⟨some 7, .alloc 29, none, true⟩,
  ⟨none, .store 29 (.tmp 7) (.tmp 53), none, true⟩]
theorem k50_r14_e : type_of% (@Eo_of P pr N e σ Q _ _ k50_r14.eq_1) := Eo_of k50_r14.eq_1
def k50_r15 : List COp := [
  ⟨some 54, .move (.tmp 0), none, true⟩,
  ⟨some 55, .load 29 (.tmp 7), none, true⟩,
  ⟨some 56, .call { callee := .value (.func 50), args := #[.tmp 54, .tmp 55], argTypes := #[41, 29] }, none, true⟩,
  ⟨some 0, .assign (.tmp 56), none, true⟩]
theorem k50_r15_e : type_of% (@Eo_of P pr N e σ Q _ _ k50_r15.eq_1) := Eo_of k50_r15.eq_1
def k50_r16 : List COp := [
  ⟨some 57, .binOp .add 3 (.tmp 50) (.const (.int .i64 1)) 3, none, true⟩,
  ⟨some 50, .move (.tmp 57), none, true⟩]
theorem k50_r16_e : type_of% (@Eo_of P pr N e σ Q _ _ k50_r16.eq_1) := Eo_of k50_r16.eq_1
def k50_l0 : CC := (.seq (.region k50_r13) (.seq (.cond (.tmp 51) .skip (.exit 1)) (.seq (.block 2 (.seq (.region k50_r14) (.region k50_r15))) (.region k50_r16))))
theorem k50_l0_e : type_of% (@Ev_of P pr N e σ Q _ _ k50_l0.eq_1) := Ev_of k50_l0.eq_1
def k50_r17 : List COp := [
  ⟨some 58, .move (.tmp 0), none, true⟩,
  ⟨some 4, .assign (.tmp 58), none, true⟩]
theorem k50_r17_e : type_of% (@Eo_of P pr N e σ Q _ _ k50_r17.eq_1) := Eo_of k50_r17.eq_1
def k50 : CC := (.seq (.region k50_r0) (.seq (.seq (.region k50_r1) (.block 0 (.seq (.region k50_r2) (.cond (.tmp 10) (.seq (.region k50_r3) .ret) (.seq (.region k50_r4) (.cond (.tmp 17) (.seq (.region k50_r5) .ret) (.seq (.region k50_r6) (.cond (.tmp 24) (.seq k50_r7 .ret) .skip)))))))) (.seq (.region k50_r8) (.seq (.seq (.region k50_r9) (.cond (.tmp 40) (.region k50_r10) .skip)) (.seq (.region k50_r11) (.seq (.seq (.region k50_r12) (.block 1 (.loop k50_l0))) (.seq (.region k50_r17) .ret)))))))
theorem k50_e : type_of% (@Ev_of P pr N e σ Q _ _ k50.eq_1) := Ev_of k50.eq_1
theorem k50_a : type_of% @k50_e ∧ type_of% @k50_r0_e ∧ type_of% @k50_r1_e ∧ type_of% @k50_r2_e ∧ type_of% @k50_r3_e ∧ type_of% @k50_r4_e ∧ type_of% @k50_r5_e ∧ type_of% @k50_r6_e ∧ type_of% @k50_r7_e ∧ type_of% @k50_r8_e ∧ type_of% @k50_r9_e ∧ type_of% @k50_r10_e ∧ type_of% @k50_r11_e ∧ type_of% @k50_r12_e ∧ type_of% @k50_r13_e ∧ type_of% @k50_r14_e ∧ type_of% @k50_r15_e ∧ type_of% @k50_r16_e ∧ type_of% @k50_l0_e ∧ type_of% @k50_r17_e := ⟨@k50_e, @k50_r0_e, @k50_r1_e, @k50_r2_e, @k50_r3_e, @k50_r4_e, @k50_r5_e, @k50_r6_e, @k50_r7_e, @k50_r8_e, @k50_r9_e, @k50_r10_e, @k50_r11_e, @k50_r12_e, @k50_r13_e, @k50_r14_e, @k50_r15_e, @k50_r16_e, @k50_l0_e, @k50_r17_e⟩
/-- quern/value.put -/
theorem k50_is : FnIs Try.prog prims 50 59 [ResultVar.tmp 4] k50 := FnIs.of_fn Try.func50 (by kernel_rfl) rfl
def k52_r0 : List COp := [
  ⟨some 1, .box 29 (.tmp 0), none, true⟩,
  ⟨some 2, .assign (.const (.slice .none 0 0)), none, true⟩]
theorem k52_r0_e : type_of% (@Eo_of P pr N e σ Q _ _ k52_r0.eq_1) := Eo_of k52_r0.eq_1
def k52_r1 : List COp := [
  ⟨some 3, .assign (.const (.slice .none 0 0)), none, true⟩]
theorem k52_r1_e : type_of% (@Eo_of P pr N e σ Q _ _ k52_r1.eq_1) := Eo_of k52_r1.eq_1
def k52_r2 : List COp := [
  ⟨some 6, .fieldAddr 29 (.tmp 1) 0, none, true⟩,
  ⟨some 7, .load 3 (.tmp 6), none, true⟩]
theorem k52_r2_e : type_of% (@Eo_of P pr N e σ Q _ _ k52_r2.eq_1) := Eo_of k52_r2.eq_1
def k52_r4 : List COp := [
  ⟨some 14, .binOp .eql 3 (.tmp 7) (.const (.int .i64 1)) 3, none, true⟩,
  ⟨some 13, .assign (.tmp 14), none, true⟩]
theorem k52_r4_e : type_of% (@Eo_of P pr N e σ Q _ _ k52_r4.eq_1) := Eo_of k52_r4.eq_1
def k52_r5 : List COp := [
  ⟨some 15, .fieldAddr 29 (.tmp 1) 1, none, true⟩,
  ⟨some 16, .load 3 (.tmp 15), none, true⟩,
  ⟨some 17, .binOp .lss 3 (.tmp 16) (.const (.int .i64 0)) 3, none, true⟩]
theorem k52_r5_e : type_of% (@Eo_of P pr N e σ Q _ _ k52_r5.eq_1) := Eo_of k52_r5.eq_1
def k52_r6 : List COp := [
  ⟨some 18, .buildSlice 41 1 #[(0, .const (.int .u8 1))], none, true⟩,
  ⟨some 19, .fieldAddr 29 (.tmp 1) 1, none, true⟩,
  ⟨some 20, .load 3 (.tmp 19), none, true⟩,
  ⟨some 21, .binOp .add 3 (.tmp 20) (.const (.int .i64 1)) 3, none, true⟩,
  ⟨some 22, .unOp .neg 3 (.tmp 21), none, true⟩,
  ⟨some 23, .call { callee := .value (.func 51), args := #[.tmp 18, .tmp 22], argTypes := #[41, 3] }, none, true⟩,
  ⟨some 2, .assign (.tmp 23), none, true⟩]
theorem k52_r6_e : type_of% (@Eo_of P pr N e σ Q _ _ k52_r6.eq_1) := Eo_of k52_r6.eq_1
def k52_r7 : List COp := [
  ⟨some 24, .buildSlice 41 1 #[(0, .const (.int .u8 0))], none, true⟩,
  ⟨some 25, .fieldAddr 29 (.tmp 1) 1, none, true⟩,
  ⟨some 26, .load 3 (.tmp 25), none, true⟩,
  ⟨some 27, .call { callee := .value (.func 51), args := #[.tmp 24, .tmp 26], argTypes := #[41, 3] }, none, true⟩,
  ⟨some 2, .assign (.tmp 27), none, true⟩]
theorem k52_r7_e : type_of% (@Eo_of P pr N e σ Q _ _ k52_r7.eq_1) := Eo_of k52_r7.eq_1
def k52_r8 : List COp := [
  ⟨some 29, .binOp .eql 3 (.tmp 7) (.const (.int .i64 2)) 3, none, true⟩,
  ⟨some 28, .assign (.tmp 29), none, true⟩]
theorem k52_r8_e : type_of% (@Eo_of P pr N e σ Q _ _ k52_r8.eq_1) := Eo_of k52_r8.eq_1
def k52_r9 : List COp := [
  ⟨some 30, .fieldAddr 29 (.tmp 1) 1, none, true⟩,
  ⟨some 31, .load 3 (.tmp 30), none, true⟩,
  ⟨some 32, .call { callee := .value (.func 51), args := #[.const (.slice .none 0 0), .tmp 31], argTypes := #[41, 3] }, none, true⟩,
  ⟨some 2, .assign (.tmp 32), none, true⟩]
theorem k52_r9_e : type_of% (@Eo_of P pr N e σ Q _ _ k52_r9.eq_1) := Eo_of k52_r9.eq_1
def k52_r10 : List COp := [
  ⟨some 34, .binOp .eql 3 (.tmp 7) (.const (.int .i64 3)) 3, none, true⟩,
  ⟨some 33, .assign (.tmp 34), none, true⟩]
theorem k52_r10_e : type_of% (@Eo_of P pr N e σ Q _ _ k52_r10.eq_1) := Eo_of k52_r10.eq_1
def k52_r11 : CC := (.wregion [
  (true, ⟨some 35, .fieldAddr 29 (.tmp 1) 2, none, false⟩),
  (false, ⟨some 36, .load 9 (.tmp 35), none, false⟩),
  (false, ⟨some 37, .call { callee := .builtin .len, args := #[.tmp 36], argTypes := #[9] }, none, false⟩),
  (false, ⟨some 38, .call { callee := .value (.func 51), args := #[.const (.slice .none 0 0), .tmp 37], argTypes := #[41, 3] }, none, false⟩),
  (true, ⟨some 39, .fieldAddr 29 (.tmp 1) 2, none, true⟩),
  (true, ⟨some 40, .load 9 (.tmp 39), none, true⟩),
  (false, ⟨some 41, .call { callee := .builtin .append, args := #[.tmp 38, .tmp 40], argTypes := #[41, 9] }, none, true⟩),
  (false, ⟨some 2, .assign (.tmp 41), none, true⟩)] false [(5, ⟨some 40, .load 9 (.tmp 39), none, true⟩, [0, 4])])
theorem k52_r11_e : type_of% (@Ev_of P pr N e σ Q _ _ k52_r11.eq_1) := Ev_of k52_r11.eq_1
def k52_r12 : List COp := [
  ⟨some 43, .binOp .eql 3 (.tmp 7) (.const (.int .i64 4)) 3, none, true⟩,
  ⟨some 42, .assign (.tmp 43), none, true⟩]
theorem k52_r12_e : type_of% (@Eo_of P pr N e σ Q _ _ k52_r12.eq_1) := Eo_of k52_r12.eq_1
def k52_r13 : List COp := [
  ⟨some 44, .fieldAddr 29 (.tmp 1) 3, none, true⟩,
  ⟨some 45, .load 22 (.tmp 44), none, true⟩,
  ⟨some 46, .call { callee := .builtin .len, args := #[.tmp 45], argTypes := #[22] }, none, true⟩,
  ⟨some 47, .call { callee := .value (.func 51), args := #[.const (.slice .none 0 0), .tmp 46], argTypes := #[41, 3] }, none, true⟩,
  ⟨some 3, .assign (.tmp 47), none, true⟩]
theorem k52_r13_e : type_of% (@Eo_of P pr N e σ Q _ _ k52_r13.eq_1) := Eo_of k52_r13.eq_1
def k52_r3 : List COp := [
  ⟨some 8, .fieldAddr 29 (.tmp 1) 3, none, true⟩,
  ⟨some 9, .load 22 (.tmp 8), none, true⟩,
  ⟨some 10, .call { callee := .builtin .len, args := #[.tmp 9], argTypes := #[22] }, none, true⟩,
  ⟨some 11, .binOp .quo 3 (.tmp 10) (.const (.int .i64 2)) 3, none, true⟩,
  ⟨some 12, .call { callee := .value (.func 51), args := #[.const (.slice .none 0 0), .tmp 11], argTypes := #[41, 3] }, none, true⟩,
  ⟨some 3, .assign (.tmp 12), none, true⟩]
theorem k52_r3_e : type_of% (@Eo_of P pr N e σ Q _ _ k52_r3.eq_1) := Eo_of k52_r3.eq_1
def k52_r14 : List COp := [
  ⟨some 48, .fieldAddr 29 (.tmp 1) 3, none, true⟩,
  ⟨some 49, .load 22 (.tmp 48), none, true⟩,
  ⟨some 50, .call { callee := .builtin .len, args := #[.tmp 49], argTypes := #[22] }, none, true⟩,
  ⟨some 51, .move (.const (.int .i64 0)), none, true⟩]
theorem k52_r14_e : type_of% (@Eo_of P pr N e σ Q _ _ k52_r14.eq_1) := Eo_of k52_r14.eq_1
def k52_r15 : List COp := [
  ⟨some 52, .binOp .lss 3 (.tmp 51) (.tmp 50) 3, none, true⟩]
theorem k52_r15_e : type_of% (@Eo_of P pr N e σ Q _ _ k52_r15.eq_1) := Eo_of k52_r15.eq_1
def k52_r16 : List COp := [
  ⟨some 53, .indexAddr 22 (.tmp 49) (.tmp 51), none, true⟩,
  ⟨some 54, .load 29 (.tmp 53), none, true⟩,
  ⟨some 5, .alloc 29, none, true⟩,
  ⟨none, .store 29 (.tmp 5) (.tmp 54), none, true⟩]
theorem k52_r16_e : type_of% (@Eo_of P pr N e σ Q _ _ k52_r16.eq_1) := Eo_of k52_r16.eq_1
def k52_r17 : List COp := [
  ⟨some 55, .move (.tmp 3), none, true⟩,
  ⟨some 56, .load 29 (.tmp 5), none, true⟩,
  ⟨some 57, .call { callee := .value (.func 52), args := #[.tmp 56], argTypes := #[29] }, none, true⟩,
  ⟨some 58, .call { callee := .builtin .append, args := #[.tmp 55, .tmp 57], argTypes := #[41, 41] }, none, true⟩,
  ⟨some 3, .assign (.tmp 58), none, true⟩]
theorem k52_r17_e : type_of% (@Eo_of P pr N e σ Q _ _ k52_r17.eq_1) := Eo_of k52_r17.eq_1
def k52_r18 : List COp := [
  ⟨some 59, .binOp .add 3 (.tmp 51) (.const (.int .i64 1)) 3, none, true⟩,
  ⟨some 51, .move (.tmp 59), none, true⟩]
theorem k52_r18_e : type_of% (@Eo_of P pr N e σ Q _ _ k52_r18.eq_1) := Eo_of k52_r18.eq_1
def k52_l0 : CC := (.seq (.region k52_r15) (.seq (.cond (.tmp 52) .skip (.exit 1)) (.seq (.block 2 (.seq (.region k52_r16) (.region k52_r17))) (.region k52_r18))))
theorem k52_l0_e : type_of% (@Ev_of P pr N e σ Q _ _ k52_l0.eq_1) := Ev_of k52_l0.eq_1
def k52_r19 : List COp := [
  ⟨some 60, .move (.tmp 3), none, true⟩,
  ⟨some 2, .assign (.tmp 60), none, true⟩]
theorem k52_r19_e : type_of% (@Eo_of P pr N e σ Q _ _ k52_r19.eq_1) := Eo_of k52_r19.eq_1
def k52 : CC := (.seq (.region k52_r0) (.seq (.region k52_r1) (.seq (.seq (.region k52_r2) (.block 0 (.seq (.region k52_r4) (.cond (.tmp 13) (.seq (.seq (.region k52_r5) (.cond (.tmp 17) (.seq (.region k52_r6) .ret) .skip)) (.seq (.region k52_r7) .ret)) (.seq (.region k52_r8) (.cond (.tmp 28) (.seq (.region k52_r9) .ret) (.seq (.region k52_r10) (.cond (.tmp 33) (.seq k52_r11 .ret) (.seq (.region k52_r12) (.cond (.tmp 42) (.region k52_r13) (.region k52_r3))))))))))) (.seq (.seq (.region k52_r14) (.block 1 (.loop k52_l0))) (.seq (.region k52_r19) .ret)))))
theorem k52_e : type_of% (@Ev_of P pr N e σ Q _ _ k52.eq_1) := Ev_of k52.eq_1
theorem k52_a : type_of% @k52_e ∧ type_of% @k52_r0_e ∧ type_of% @k52_r1_e ∧ type_of% @k52_r2_e ∧ type_of% @k52_r4_e ∧ type_of% @k52_r5_e ∧ type_of% @k52_r6_e ∧ type_of% @k52_r7_e ∧ type_of% @k52_r8_e ∧ type_of% @k52_r9_e ∧ type_of% @k52_r10_e ∧ type_of% @k52_r11_e ∧ type_of% @k52_r12_e ∧ type_of% @k52_r13_e ∧ type_of% @k52_r3_e ∧ type_of% @k52_r14_e ∧ type_of% @k52_r15_e ∧ type_of% @k52_r16_e ∧ type_of% @k52_r17_e ∧ type_of% @k52_r18_e ∧ type_of% @k52_l0_e ∧ type_of% @k52_r19_e := ⟨@k52_e, @k52_r0_e, @k52_r1_e, @k52_r2_e, @k52_r4_e, @k52_r5_e, @k52_r6_e, @k52_r7_e, @k52_r8_e, @k52_r9_e, @k52_r10_e, @k52_r11_e, @k52_r12_e, @k52_r13_e, @k52_r3_e, @k52_r14_e, @k52_r15_e, @k52_r16_e, @k52_r17_e, @k52_r18_e, @k52_l0_e, @k52_r19_e⟩
/-- quern/quernref09.Bytes -/
theorem k52_is : FnIs Try.prog prims 52 61 [ResultVar.tmp 2] k52 := FnIs.of_fn Try.func52 (by kernel_rfl) rfl
def k31_r0 : List COp := [
  ⟨some 2, .assign (.const (.pointer .none)), none, true⟩]
theorem k31_r0_e : type_of% (@Eo_of P pr N e σ Q _ _ k31_r0.eq_1) := Eo_of k31_r0.eq_1
def k31_r1 : List COp := [
  ⟨some 3, .buildSlice 41 0 #[], none, true⟩,
  ⟨some 4, .move (.tmp 0), none, true⟩,
  ⟨some 5, .call { callee := .builtin .append, args := #[.tmp 3, .tmp 4], argTypes := #[41, 41] }, none, true⟩,
  ⟨some 6, .build 81 #[(0, .tmp 5)], none, true⟩,
  ⟨some 7, .box 81 (.tmp 6), none, true⟩,
  ⟨some 2, .assign (.tmp 7), none, true⟩]
theorem k31_r1_e : type_of% (@Eo_of P pr N e σ Q _ _ k31_r1.eq_1) := Eo_of k31_r1.eq_1
def k31 : CC := (.seq (.region k31_r0) (.seq (.region k31_r1) .ret))
theorem k31_e : type_of% (@Ev_of P pr N e σ Q _ _ k31.eq_1) := Ev_of k31.eq_1
theorem k31_a : type_of% @k31_e ∧ type_of% @k31_r0_e ∧ type_of% @k31_r1_e := ⟨@k31_e, @k31_r0_e, @k31_r1_e⟩
/-- quern/pack.New -/
theorem k31_is : FnIs Try.prog prims 31 8 [ResultVar.tmp 2] k31 := FnIs.of_fn Try.func31 (by kernel_rfl) rfl
def k35_r0 : List COp := [
  ⟨some 2, .assign (.const (.bool false)), none, true⟩]
theorem k35_r0_e : type_of% (@Eo_of P pr N e σ Q _ _ k35_r0.eq_1) := Eo_of k35_r0.eq_1
def k35_r1 : List COp := [
  ⟨some 3, .move (.tmp 0), none, true⟩,
  ⟨some 4, .binOp .neq 57 (.tmp 3) (.const (.pointer .none)) 57, none, true⟩,
  ⟨some 5, .move (.tmp 4), none, true⟩,
  ⟨some 6, .move (.tmp 0), some (5, true), true⟩,
  ⟨some 7, .nilCheck (.tmp 6), some (5, true), true⟩,
  ⟨some 8, .fieldAddr 81 (.tmp 7) 1, some (5, true), true⟩,
  ⟨some 9, .load 4 (.tmp 8), some (5, true), true⟩,
  ⟨some 10, .unOp .not 4 (.tmp 9), some (5, true), true⟩,
  ⟨some 11, .pick (.tmp 5) (.tmp 10) (.const (.bool false)), none, true⟩,
  ⟨some 12, .move (.tmp 11), none, true⟩,
  ⟨some 13, .move (.tmp 0), some (12, true), true⟩,
  ⟨some 14, .nilCheck (.tmp 13), some (12, true), true⟩,
  ⟨some 15, .fieldAddr 81 (.tmp 14) 0, some (12, true), true⟩,
  ⟨some 16, .load 41 (.tmp 15), some (12, true), true⟩,
  ⟨some 17, .call { callee := .builtin .len, args := #[.tmp 16], argTypes := #[41] }, some (12, true), true⟩,
  ⟨some 18, .binOp .eql 3 (.tmp 17) (.const (.int .i64 0)) 3, some (12, true), true⟩,
  ⟨some 19, .pick (.tmp 12) (.tmp 18) (.const (.bool false)), none, true⟩,
  ⟨some 2, .assign (.tmp 19), none, true⟩]
theorem k35_r1_e : type_of% (@Eo_of P pr N e σ Q _ _ k35_r1.eq_1) := Eo_of k35_r1.eq_1
def k35 : CC := (.seq (.region k35_r0) (.seq (.region k35_r1) .ret))
theorem k35_e : type_of% (@Ev_of P pr N e σ Q _ _ k35.eq_1) := Ev_of k35.eq_1
theorem k35_a : type_of% @k35_e ∧ type_of% @k35_r0_e ∧ type_of% @k35_r1_e := ⟨@k35_e, @k35_r0_e, @k35_r1_e⟩
/-- (*quern/pack.Reader).End -/
theorem k35_is : FnIs Try.prog prims 35 20 [ResultVar.tmp 2] k35 := FnIs.of_fn Try.func35 (by kernel_rfl) rfl
def k63_r0 : List COp := [
  ⟨some 2, .assign (.const (.int .i64 0)), none, true⟩]
theorem k63_r0_e : type_of% (@Eo_of P pr N e σ Q _ _ k63_r0.eq_1) := Eo_of k63_r0.eq_1
def k63_r1 : List COp := [
  ⟨some 5, .move (.tmp 0), none, true⟩,
  ⟨some 6, .binOp .eql 9 (.tmp 5) (.const (.string { data := #[105, 110, 116] })) 9, none, true⟩,
  ⟨some 7, .move (.tmp 6), none, true⟩,
  ⟨some 8, .move (.tmp 0), some (7, false), true⟩,
  ⟨some 9, .binOp .eql 9 (.tmp 8) (.const (.string { data := #[98, 111, 111, 108] })) 9, some (7, false), true⟩,
  ⟨some 10, .pick (.tmp 7) (.const (.bool true)) (.tmp 9), none, true⟩,
  ⟨some 11, .move (.tmp 10), none, true⟩,
  ⟨some 12, .move (.tmp 0), some (11, false), true⟩,
  ⟨some 13, .binOp .eql 9 (.tmp 12) (.const (.string { data := #[116, 101, 120, 116] })) 9, some (11, false), true⟩,
  ⟨some 14, .pick (.tmp 11) (.const (.bool true)) (.tmp 13), none, true⟩]
theorem k63_r1_e : type_of% (@Eo_of P pr N e σ Q _ _ k63_r1.eq_1) := Eo_of k63_r1.eq_1
def k63_r2 : List COp := [
  ⟨some 2, .assign (.const (.int .i64 1)), none, true⟩]
theorem k63_r2_e : type_of% (@Eo_of P pr N e σ Q _ _ k63_r2.eq_1) := Eo_of k63_r2.eq_1
def k63_r3 : List COp := [
  ⟨some 3, .assign (.const (.string { data := #[] })), none, true⟩]
theorem k63_r3_e : type_of% (@Eo_of P pr N e σ Q _ _ k63_r3.eq_1) := Eo_of k63_r3.eq_1
def k63_r4 : List COp := [
  ⟨some 15, .move (.tmp 0), none, true⟩,
  ⟨some 16, .call { callee := .builtin .len, args := #[.tmp 15], argTypes := #[9] }, none, true⟩,
  ⟨some 17, .binOp .gtr 3 (.tmp 16) (.const (.int .i64 2)) 3, none, true⟩,
  ⟨some 18, .move (.tmp 17), none, true⟩,
  ⟨some 19, .move (.tmp 0), some (18, true), true⟩,
  ⟨some 20, .index 9 (.tmp 19) (.const (.int .i64 0)), some (18, true), true⟩,
  ⟨some 21, .binOp .eql 5 (.tmp 20) (.const (.int .u8 91)) 5, some (18, true), true⟩,
  ⟨some 22, .pick (.tmp 18) (.tmp 21) (.const (.bool false)), none, true⟩,
  ⟨some 23, .move (.tmp 22), none, true⟩,
  ⟨some 24, .move (.tmp 0), some (23, true), true⟩,
  ⟨some 25, .move (.tmp 0), some (23, true), true⟩,
  ⟨some 26, .call { callee := .builtin .len, args := #[.tmp 25], argTypes := #[9] }, some (23, true), true⟩,
  ⟨some 27, .binOp .sub 3 (.tmp 26) (.const (.int .i64 1)) 3, some (23, true), true⟩,
  ⟨some 28, .index 9 (.tmp 24) (.tmp 27), some (23, true), true⟩,
  ⟨some 29, .binOp .eql 5 (.tmp 28) (.const (.int .u8 93)) 5, some (23, true), true⟩,
  ⟨some 30, .pick (.tmp 23) (.tmp 29) (.const (.bool false)), none, true⟩]
theorem k63_r4_e : type_of% (@Eo_of P pr N e σ Q _ _ k63_r4.eq_1) := Eo_of k63_r4.eq_1
def k63_r5 : List COp := [
  ⟨some 31, .move (.tmp 0), none, true⟩,
  ⟨some 32, .move (.tmp 0), none, true⟩,
  ⟨some 33, .call { callee := .builtin .len, args := #[.tmp 32], argTypes := #[9] }, none, true⟩,
  ⟨some 34, .binOp .sub 3 (.tmp 33) (.const (.int .i64 1)) 3, none, true⟩,
  ⟨some 35, .slice 9 (.tmp 31) (some (.const (.int .i64 1))) (some (.tmp 34)) .none, none, true⟩,
  ⟨some 3, .assign (.tmp 35), none, true⟩]
theorem k63_r5_e : type_of% (@Eo_of P pr N e σ Q _ _ k63_r5.eq_1) := Eo_of k63_r5.eq_1
def k63_r6 : List COp := [
  ⟨some 36, .move (.tmp 0), none, true⟩,
  ⟨some 37, .call { callee := .builtin .len, args := #[.tmp 36], argTypes := #[9] }, none, true⟩,
  ⟨some 38, .binOp .gtr 3 (.tmp 37) (.const (.int .i64 6)) 3, none, true⟩,
  ⟨some 39, .move (.tmp 38), none, true⟩,
  ⟨some 40, .move (.tmp 0), some (39, true), true⟩,
  ⟨some 41, .slice 9 (.tmp 40) .none (some (.const (.int .i64 5))) .none, some (39, true), true⟩,
  ⟨some 42, .binOp .eql 9 (.tmp 41) (.const (.string { data := #[123, 105, 110, 116, 58] })) 9, some (39, true), true⟩,
  ⟨some 43, .pick (.tmp 39) (.tmp 42) (.const (.bool false)), none, true⟩,
  ⟨some 44, .move (.tmp 43), none, true⟩,
  ⟨some 45, .move (.tmp 0), some (44, true), true⟩,
  ⟨some 46, .move (.tmp 0), some (44, true), true⟩,
  ⟨some 47, .call { callee := .builtin .len, args := #[.tmp 46], argTypes := #[9] }, some (44, true), true⟩,
  ⟨some 48, .binOp .sub 3 (.tmp 47) (.const (.int .i64 1)) 3, some (44, true), true⟩,
  ⟨some 49, .index 9 (.tmp 45) (.tmp 48), some (44, true), true⟩,
  ⟨some 50, .binOp .eql 5 (.tmp 49) (.const (.int .u8 125)) 5, some (44, true), true⟩,
  ⟨some 51, .pick (.tmp 44) (.tmp 50) (.const (.bool false)), none, true⟩]
theorem k63_r6_e : type_of% (@Eo_of P pr N e σ Q _ _ k63_r6.eq_1) := Eo_of k63_r6.eq_1
def k63_r7 : List COp := [
  ⟨some 52, .move (.tmp 0), none, true⟩,
  ⟨some 53, .move (.tmp 0), none, true⟩,
  ⟨some 54, .call { callee := .builtin .len, args := #[.tmp 53], argTypes := #[9] }, none, true⟩,
  ⟨some 55, .binOp .sub 3 (.tmp 54) (.const (.int .i64 1)) 3, none, true⟩,
  ⟨some 56, .slice 9 (.tmp 52) (some (.const (.int .i64 5))) (some (.tmp 55)) .none, none, true⟩,
  ⟨some 3, .assign (.tmp 56), none, true⟩]
theorem k63_r7_e : type_of% (@Eo_of P pr N e σ Q _ _ k63_r7.eq_1) := Eo_of k63_r7.eq_1
def k63_r8 : List COp := [
  ⟨some 57, .move (.tmp 0), none, true⟩,
  ⟨some 58, .call { callee := .builtin .len, args := #[.tmp 57], argTypes := #[9] }, none, true⟩,
  ⟨some 59, .binOp .gtr 3 (.tmp 58) (.const (.int .i64 7)) 3, none, true⟩,
  ⟨some 60, .move (.tmp 59), none, true⟩,
  ⟨some 61, .move (.tmp 0), some (60, true), true⟩,
  ⟨some 62, .slice 9 (.tmp 61) .none (some (.const (.int .i64 6))) .none, some (60, true), true⟩,
  ⟨some 63, .binOp .eql 9 (.tmp 62) (.const (.string { data := #[123, 116, 101, 120, 116, 58] })) 9, some (60, true), true⟩,
  ⟨some 64, .pick (.tmp 60) (.tmp 63) (.const (.bool false)), none, true⟩,
  ⟨some 65, .move (.tmp 64), none, true⟩,
  ⟨some 66, .move (.tmp 0), some (65, true), true⟩,
  ⟨some 67, .move (.tmp 0), some (65, true), true⟩,
  ⟨some 68, .call { callee := .builtin .len, args := #[.tmp 67], argTypes := #[9] }, some (65, true), true⟩,
  ⟨some 69, .binOp .sub 3 (.tmp 68) (.const (.int .i64 1)) 3, some (65, true), true⟩,
  ⟨some 70, .index 9 (.tmp 66) (.tmp 69), some (65, true), true⟩,
  ⟨some 71, .binOp .eql 5 (.tmp 70) (.const (.int .u8 125)) 5, some (65, true), true⟩,
  ⟨some 72, .pick (.tmp 65) (.tmp 71) (.const (.bool false)), none, true⟩]
theorem k63_r8_e : type_of% (@Eo_of P pr N e σ Q _ _ k63_r8.eq_1) := Eo_of k63_r8.eq_1
def k63_r9 : List COp := [
  ⟨some 73, .move (.tmp 0), none, true⟩,
  ⟨some 74, .move (.tmp 0), none, true⟩,
  ⟨some 75, .call { callee := .builtin .len, args := #[.tmp 74], argTypes := #[9] }, none, true⟩,
  ⟨some 76, .binOp .sub 3 (.tmp 75) (.const (.int .i64 1)) 3, none, true⟩,
  ⟨some 77, .slice 9 (.tmp 73) (some (.const (.int .i64 6))) (some (.tmp 76)) .none, none, true⟩,
  ⟨some 3, .assign (.tmp 77), none, true⟩]
theorem k63_r9_e : type_of% (@Eo_of P pr N e σ Q _ _ k63_r9.eq_1) := Eo_of k63_r9.eq_1
def k63_r10 : List COp := [
  ⟨some 2, .assign (.const (.int .i64 0)), none, true⟩]
theorem k63_r10_e : type_of% (@Eo_of P pr N e σ Q _ _ k63_r10.eq_1) := Eo_of k63_r10.eq_1
def k63_r11 : List COp := [
  ⟨some 78, .move (.tmp 0), none, true⟩,
  ⟨some 79, .call { callee := .builtin .len, args := #[.tmp 78], argTypes := #[9] }, none, true⟩,
  ⟨some 80, .binOp .gtr 3 (.tmp 79) (.const (.int .i64 200)) 3, none, true⟩]
theorem k63_r11_e : type_of% (@Eo_of P pr N e σ Q _ _ k63_r11.eq_1) := Eo_of k63_r11.eq_1
def k63_r12 : List COp := [
  ⟨some 2, .assign (.const (.int .i64 0)), none, true⟩]
theorem k63_r12_e : type_of% (@Eo_of P pr N e σ Q _ _ k63_r12.eq_1) := Eo_of k63_r12.eq_1
def k63_r13 : List COp := [
  ⟨some 81, .move (.tmp 3), none, true⟩,
  ⟨some 82, .call { callee := .value (.func 63), args := #[.tmp 81], argTypes := #[9] }, none, true⟩,
  ⟨some 4, .assign (.tmp 82), none, true⟩]
theorem k63_r13_e : type_of% (@Eo_of P pr N e σ Q _ _ k63_r13.eq_1) := Eo_of k63_r13.eq_1
def k63_r14 : List COp := [
  ⟨some 83, .move (.tmp 4), none, true⟩,
  ⟨some 84, .binOp .eql 3 (.tmp 83) (.const (.int .i64 0)) 3, none, true⟩]
theorem k63_r14_e : type_of% (@Eo_of P pr N e σ Q _ _ k63_r14.eq_1) := Eo_of k63_r14.eq_1
def k63_r15 : List COp := [
  ⟨some 2, .assign (.const (.int .i64 0)), none, true⟩]
theorem k63_r15_e : type_of% (@Eo_of P pr N e σ Q _ _ k63_r15.eq_1) := Eo_of k63_r15.eq_1
def k63_r16 : List COp := [
  ⟨some 85, .move (.tmp 4), none, true⟩,
  ⟨some 86, .binOp .add 3 (.tmp 85) (.const (.int .i64 1)) 3, none, true⟩,
  ⟨some 2, .assign (.tmp 86), none, true⟩]
theorem k63_r16_e : type_of% (@Eo_of P pr N e σ Q _ _ k63_r16.eq_1) := Eo_of k63_r16.eq_1
def k63 : CC := (.seq (.region k63_r0) (.seq (.seq (.region k63_r1) (.cond (.tmp 14) (.seq (.region k63_r2) .ret) .skip)) (.seq (.region k63_r3) (.seq (.seq (.region k63_r4) (.cond (.tmp 30) (.region k63_r5) (.seq (.region k63_r6) (.cond (.tmp 51) (.region k63_r7) (.seq (.region k63_r8) (.cond (.tmp 72) (.region k63_r9) (.seq (.region k63_r10) .ret))))))) (.seq (.seq (.region k63_r11) (.cond (.tmp 80) (.seq (.region k63_r12) .ret) .skip)) (.seq (.region k63_r13) (.seq (.seq (.region k63_r14) (.cond (.tmp 84) (.seq (.region k63_r15) .ret) .skip)) (.seq (.region k63_r16) .ret))))))))
theorem k63_e : type_of% (@Ev_of P pr N e σ Q _ _ k63.eq_1) := Ev_of k63.eq_1
theorem k63_a : type_of% @k63_e ∧ type_of% @k63_r0_e ∧ type_of% @k63_r1_e ∧ type_of% @k63_r2_e ∧ type_of% @k63_r3_e ∧ type_of% @k63_r4_e ∧ type_of% @k63_r5_e ∧ type_of% @k63_r6_e ∧ type_of% @k63_r7_e ∧ type_of% @k63_r8_e ∧ type_of% @k63_r9_e ∧ type_of% @k63_r10_e ∧ type_of% @k63_r11_e ∧ type_of% @k63_r12_e ∧ type_of% @k63_r13_e ∧ type_of% @k63_r14_e ∧ type_of% @k63_r15_e ∧ type_of% @k63_r16_e := ⟨@k63_e, @k63_r0_e, @k63_r1_e, @k63_r2_e, @k63_r3_e, @k63_r4_e, @k63_r5_e, @k63_r6_e, @k63_r7_e, @k63_r8_e, @k63_r9_e, @k63_r10_e, @k63_r11_e, @k63_r12_e, @k63_r13_e, @k63_r14_e, @k63_r15_e, @k63_r16_e⟩
/-- quern/quernref08.Depth -/
theorem k63_is : FnIs Try.prog prims 63 87 [ResultVar.tmp 2] k63 := FnIs.of_fn Try.func63 (by kernel_rfl) rfl
def k57_r0 : List COp := [
  ⟨some 4, .assign (.const (.bool false)), none, true⟩]
theorem k57_r0_e : type_of% (@Eo_of P pr N e σ Q _ _ k57_r0.eq_1) := Eo_of k57_r0.eq_1
def k57_r1 : List COp := [
  ⟨some 11, .move (.tmp 0), none, true⟩]
theorem k57_r1_e : type_of% (@Eo_of P pr N e σ Q _ _ k57_r1.eq_1) := Eo_of k57_r1.eq_1
def k57_r2 : List COp := [
  ⟨some 13, .binOp .eql 9 (.tmp 11) (.const (.string { data := #[105, 110, 116] })) 9, none, true⟩,
  ⟨some 12, .assign (.tmp 13), none, true⟩]
theorem k57_r2_e : type_of% (@Eo_of P pr N e σ Q _ _ k57_r2.eq_1) := Eo_of k57_r2.eq_1
def k57_r3 : List COp := [
  ⟨some 14, .binOp .eql 9 (.tmp 11) (.const (.string { data := #[98, 111, 111, 108] })) 9, none, true⟩,
  ⟨some 12, .assign (.tmp 14), none, true⟩]
theorem k57_r3_e : type_of% (@Eo_of P pr N e σ Q _ _ k57_r3.eq_1) := Eo_of k57_r3.eq_1
def k57_r4 : List COp := [
  ⟨some 15, .binOp .eql 9 (.tmp 11) (.const (.string { data := #[116, 101, 120, 116] })) 9, none, true⟩,
  ⟨some 12, .assign (.tmp 15), none, true⟩]
theorem k57_r4_e : type_of% (@Eo_of P pr N e σ Q _ _ k57_r4.eq_1) := Eo_of k57_r4.eq_1
def k57_r5 : List COp := [
  ⟨some 16, .move (.tmp 1), none, true⟩,
  ⟨some 17, .binOp .leq 3 (.tmp 16) (.const (.int .i64 4)) 3, none, true⟩,
  ⟨some 4, .assign (.tmp 17), none, true⟩]
theorem k57_r5_e : type_of% (@Eo_of P pr N e σ Q _ _ k57_r5.eq_1) := Eo_of k57_r5.eq_1
def k57_r6 : List COp := [
  ⟨some 18, .move (.tmp 0), none, true⟩,
  ⟨some 19, .call { callee := .builtin .len, args := #[.tmp 18], argTypes := #[9] }, none, true⟩,
  ⟨some 20, .binOp .lss 3 (.tmp 19) (.const (.int .i64 2)) 3, none, true⟩,
  ⟨some 21, .move (.tmp 20), none, true⟩,
  ⟨some 22, .move (.tmp 1), some (21, false), true⟩,
  ⟨some 23, .binOp .geq 3 (.tmp 22) (.const (.int .i64 4)) 3, some (21, false), true⟩,
  ⟨some 24, .pick (.tmp 21) (.const (.bool true)) (.tmp 23), none, true⟩]
theorem k57_r6_e : type_of% (@Eo_of P pr N e σ Q _ _ k57_r6.eq_1) := Eo_of k57_r6.eq_1
def k57_r7 : List COp := [
  ⟨some 4, .assign (.const (.bool false)), none, true⟩]
theorem k57_r7_e : type_of% (@Eo_of P pr N e σ Q _ _ k57_r7.eq_1) := Eo_of k57_r7.eq_1
def k57_r8 : List COp := [
  ⟨some 26, .move (.tmp 0), none, true⟩,
  ⟨some 27, .move (.tmp 0), none, true⟩,
  ⟨some 28, .call { callee := .builtin .len, args := #[.tmp 27], argTypes := #[9] }, none, true⟩,
  ⟨some 29, .binOp .sub 3 (.tmp 28) (.const (.int .i64 1)) 3, none, true⟩,
  ⟨some 30, .slice 9 (.tmp 26) .none (some (.tmp 29)) .none, none, true⟩,
  ⟨some 31, .call { callee := .value (.func 69), args := #[.tmp 30, .const (.string { data := #[91] })], argTypes := #[9, 9] }, none, true⟩,
  ⟨some 25, .move (.tmp 31), none, true⟩,
  ⟨some 32, .extract (.tmp 25) 0, none, true⟩,
  ⟨some 33, .extract (.tmp 25) 1, none, true⟩,
  ⟨some 5, .assign (.tmp 32), none, true⟩,
  ⟨some 6, .assign (.tmp 33), none, true⟩]
theorem k57_r8_e : type_of% (@Eo_of P pr N e σ Q _ _ k57_r8.eq_1) := Eo_of k57_r8.eq_1
def k57_r9 : List COp := [
  ⟨some 34, .move (.tmp 6), none, true⟩]
theorem k57_r9_e : type_of% (@Eo_of P pr N e σ Q _ _ k57_r9.eq_1) := Eo_of k57_r9.eq_1
def k57_r10 : List COp := [
  ⟨some 35, .move (.tmp 0), none, true⟩,
  ⟨some 36, .move (.tmp 0), none, true⟩,
  ⟨some 37, .call { callee := .builtin .len, args := #[.tmp 36], argTypes := #[9] }, none, true⟩,
  ⟨some 38, .binOp .sub 3 (.tmp 37) (.const (.int .i64 1)) 3, none, true⟩,
  ⟨some 39, .index 9 (.tmp 35) (.tmp 38), none, true⟩,
  ⟨some 40, .binOp .eql 5 (.tmp 39) (.const (.int .u8 93)) 5, none, true⟩,
  ⟨some 41, .move (.tmp 40), none, true⟩,
  ⟨some 42, .move (.tmp 5), some (41, true), true⟩,
  ⟨some 43, .move (.tmp 1), some (41, true), true⟩,
  ⟨some 44, .binOp .add 3 (.tmp 43) (.const (.int .i64 1)) 3, some (41, true), true⟩,
  ⟨some 45, .call { callee := .value (.func 57), args := #[.tmp 42, .tmp 44], argTypes := #[9, 3] }, some (41, true), true⟩,
  ⟨some 46, .pick (.tmp 41) (.tmp 45) (.const (.bool false)), none, true⟩,
  ⟨some 4, .assign (.tmp 46), none, true⟩]
theorem k57_r10_e : type_of% (@Eo_of P pr N e σ Q _ _ k57_r10.eq_1) := Eo_of k57_r10.eq_1
def k57_r11 : List COp := [
  ⟨some 47, .buildSlice 49 2 #[(0, .const (.string { data := #[123, 105, 110, 116, 58] })), (1, .const (.string { data := #[123, 116, 101, 120, 116, 58] }))], none, true⟩,
  ⟨some 48, .call { callee := .builtin .len, args := #[.tmp 47], argTypes := #[49] }, none, true⟩,
  ⟨some 49, .move (.const (.int .i64 0)), none, true⟩]
theorem k57_r11_e : type_of% (@Eo_of P pr N e σ Q _ _ k57_r11.eq_1) := Eo_of k57_r11.eq_1
def k57_r12 : List COp := [
  ⟨some 50, .binOp .lss 3 (.tmp 49) (.tmp 48) 3, none, true⟩]
theorem k57_r12_e : type_of% (@Eo_of P pr N e σ Q _ _ k57_r12.eq_1) := Eo_of k57_r12.eq_1
def k57_r13 : List COp := [
  ⟨some 51, .indexAddr 49 (.tmp 47) (.tmp 49), none, true⟩,
  ⟨some 52, .load 9 (.tmp 51), none, true⟩,
  ⟨some 8, .assign (.tmp 52), none, true⟩]
theorem k57_r13_e : type_of% (@Eo_of P pr N e σ Q _ _ k57_r13.eq_1) := Eo_of k57_r13.eq_1
def k57_r14 : List COp := [
  ⟨some 54, .move (.tmp 0), none, true⟩,
  ⟨some 55, .move (.tmp 0), none, true⟩,
  ⟨some 56, .call { callee := .builtin .len, args := #[.tmp 55], argTypes := #[9] }, none, true⟩,
  ⟨some 57, .binOp .sub 3 (.tmp 56) (.const (.int .i64 1)) 3, none, true⟩,
  ⟨some 58, .slice 9 (.tmp 54) .none (some (.tmp 57)) .none, none, true⟩,
  ⟨some 59, .move (.tmp 8), none, true⟩,
  ⟨some 60, .call { callee := .value (.func 69), args := #[.tmp 58, .tmp 59], argTypes := #[9, 9] }, none, true⟩,
  ⟨some 53, .move (.tmp 60), none, true⟩,
  ⟨some 61, .extract (.tmp 53) 0, none, true⟩,
  ⟨some 62, .extract (.tmp 53) 1, none, true⟩,
  ⟨some 9, .assign (.tmp 61), none, true⟩,
  ⟨some 10, .assign (.tmp 62), none, true⟩]
theorem k57_r14_e : type_of% (@Eo_of P pr N e σ Q _ _ k57_r14.eq_1) := Eo_of k57_r14.eq_1
def k57_r15 : List COp := [
  ⟨some 63, .move (.tmp 10), none, true⟩]
theorem k57_r15_e : type_of% (@Eo_of P pr N e σ Q _ _ k57_r15.eq_1) := Eo_of k57_r15.eq_1
def k57_r16 : List COp := [
  ⟨some 64, .move (.tmp 0), none, true⟩,
  ⟨some 65, .move (.tmp 0), none, true⟩,
  ⟨some 66, .call { callee := .builtin .len, args := #[.tmp 65], argTypes := #[9] }, none, true⟩,
  ⟨some 67, .binOp .sub 3 (.tmp 66) (.const (.int .i64 1)) 3, none, true⟩,
  ⟨some 68, .index 9 (.tmp 64) (.tmp 67), none, true⟩,
  ⟨some 69, .binOp .eql 5 (.tmp 68) (.const (.int .u8 125)) 5, none, true⟩,
  ⟨some 70, .move (.tmp 69), none, true⟩,
  ⟨some 71, .move (.tmp 9), some (70, true), true⟩,
  ⟨some 72, .move (.tmp 1), some (70, true), true⟩,
  ⟨some 73, .binOp .add 3 (.tmp 72) (.const (.int .i64 1)) 3, some (70, true), true⟩,
  ⟨some 74, .call { callee := .value (.func 57), args := #[.tmp 71, .tmp 73], argTypes := #[9, 3] }, some (70, true), true⟩,
  ⟨some 75, .pick (.tmp 70) (.tmp 74) (.const (.bool false)), none, true⟩,
  ⟨some 4, .assign (.tmp 75), none, true⟩]
theorem k57_r16_e : type_of% (@Eo_of P pr N e σ Q _ _ k57_r16.eq_1) := Eo_of k57_r16.eq_1
def k57_r17 : List COp := [
  ⟨some 76, .binOp .add 3 (.tmp 49) (.const (.int .i64 1)) 3, none, true⟩,
  ⟨some 49, .move (.tmp 76), none, true⟩]
theorem k57_r17_e : type_of% (@Eo_of P pr N e σ Q _ _ k57_r17.eq_1) := Eo_of k57_r17.eq_1
def k57_l0 : CC := (.seq (.region k57_r12) (.seq (.cond (.tmp 50) .skip (.exit 1)) (.seq (.block 2 (.seq (.region k57_r13) (.seq (.region k57_r14) (.seq (.region k57_r15) (.cond (.tmp 63) (.seq (.region k57_r16) .ret) .skip))))) (.region k57_r17))))
theorem k57_l0_e : type_of% (@Ev_of P pr N e σ Q _ _ k57_l0.eq_1) := Ev_of k57_l0.eq_1
def k57_r18 : List COp := [
  ⟨some 4, .assign (.const (.bool false)), none, true⟩]
theorem k57_r18_e : type_of% (@Eo_of P pr N e σ Q _ _ k57_r18.eq_1) := Eo_of k57_r18.eq_1
def k57 : CC := (.seq (.region k57_r0) (.seq (.seq (.region k57_r1) (.block 0 (.seq (.seq (.region k57_r2) (.cond (.tmp 12) .skip (.seq (.region k57_r3) (.cond (.tmp 12) .skip (.region k57_r4))))) (.cond (.tmp 12) (.seq (.region k57_r5) .ret) .skip)))) (.seq (.seq (.region k57_r6) (.cond (.tmp 24) (.seq (.region k57_r7) .ret) .skip)) (.seq (.seq (.region k57_r8) (.seq (.region k57_r9) (.cond (.tmp 34) (.seq (.region k57_r10) .ret) .skip))) (.seq (.seq (.region k57_r11) (.block 1 (.loop k57_l0))) (.seq (.region k57_r18) .ret))))))
theorem k57_e : type_of% (@Ev_of P pr N e σ Q _ _ k57.eq_1) := Ev_of k57.eq_1
theorem k57_a : type_of% @k57_e ∧ type_of% @k57_r0_e ∧ type_of% @k57_r1_e ∧ type_of% @k57_r2_e ∧ type_of% @k57_r3_e ∧ type_of% @k57_r4_e ∧ type_of% @k57_r5_e ∧ type_of% @k57_r6_e ∧ type_of% @k57_r7_e ∧ type_of% @k57_r8_e ∧ type_of% @k57_r9_e ∧ type_of% @k57_r10_e ∧ type_of% @k57_r11_e ∧ type_of% @k57_r12_e ∧ type_of% @k57_r13_e ∧ type_of% @k57_r14_e ∧ type_of% @k57_r15_e ∧ type_of% @k57_r16_e ∧ type_of% @k57_r17_e ∧ type_of% @k57_l0_e ∧ type_of% @k57_r18_e := ⟨@k57_e, @k57_r0_e, @k57_r1_e, @k57_r2_e, @k57_r3_e, @k57_r4_e, @k57_r5_e, @k57_r6_e, @k57_r7_e, @k57_r8_e, @k57_r9_e, @k57_r10_e, @k57_r11_e, @k57_r12_e, @k57_r13_e, @k57_r14_e, @k57_r15_e, @k57_r16_e, @k57_r17_e, @k57_l0_e, @k57_r18_e⟩
/-- quern/show.kind -/
theorem k57_is : FnIs Try.prog prims 57 77 [ResultVar.tmp 4] k57 := FnIs.of_fn Try.func57 (by kernel_rfl) rfl
def k77_r0 : List COp := [
  ⟨some 4, .assign (.const (.string { data := #[] })), none, true⟩,
  ⟨some 5, .assign (.const (.string { data := #[] })), none, true⟩,
  ⟨some 6, .assign (.const (.bool false)), none, true⟩]
theorem k77_r0_e : type_of% (@Eo_of P pr N e σ Q _ _ k77_r0.eq_1) := Eo_of k77_r0.eq_1
def k77_r1 : List COp := [
  ⟨some 8, .move (.tmp 0), none, true⟩,
  ⟨some 9, .move (.tmp 1), none, true⟩,
  ⟨some 10, .call { callee := .value (.func 81), args := #[.tmp 8, .tmp 9], argTypes := #[9, 9] }, none, true⟩,
  ⟨some 7, .assign (.tmp 10), none, true⟩]
theorem k77_r1_e : type_of% (@Eo_of P pr N e σ Q _ _ k77_r1.eq_1) := Eo_of k77_r1.eq_1
def k77_r2 : List COp := [
  ⟨some 11, .move (.tmp 7), none, true⟩,
  ⟨some 12, .binOp .geq 3 (.tmp 11) (.const (.int .i64 0)) 3, none, true⟩]
theorem k77_r2_e : type_of% (@Eo_of P pr N e σ Q _ _ k77_r2.eq_1) := Eo_of k77_r2.eq_1
def k77_r3 : List COp := [
  ⟨some 13, .move (.tmp 0), none, false⟩,
  ⟨some 14, .move (.tmp 7), none, false⟩,
  ⟨some 15, .slice 9 (.tmp 13) .none (some (.tmp 14)) .none, none, false⟩,
  ⟨some 16, .move (.tmp 0), none, false⟩,
  ⟨some 17, .move (.tmp 7), none, false⟩,
  ⟨some 18, .move (.tmp 1), none, false⟩,
  ⟨some 19, .call { callee := .builtin .len, args := #[.tmp 18], argTypes := #[9] }, none, false⟩,
  ⟨some 20, .binOp .add 3 (.tmp 17) (.tmp 19) 3, none, false⟩,
  ⟨some 21, .slice 9 (.tmp 16) (some (.tmp 20)) .none .none, none, false⟩,
  ⟨some 4, .assign (.tmp 15), none, true⟩,
  ⟨some 5, .assign (.tmp 21), none, true⟩,
  ⟨some 6, .assign (.const (.bool true)), none, true⟩]
theorem k77_r3_e : type_of% (@Eo_of P pr N e σ Q _ _ k77_r3.eq_1) := Eo_of k77_r3.eq_1
def k77_r4 : List COp := [
  ⟨some 22, .move (.tmp 0), none, true⟩,
  ⟨some 4, .assign (.tmp 22), none, true⟩,
  ⟨some 5, .assign (.const (.string { data := #[] })), none, true⟩,
  ⟨some 6, .assign (.const (.bool false)), none, true⟩]
theorem k77_r4_e : type_of% (@Eo_of P pr N e σ Q _ _ k77_r4.eq_1) := Eo_of k77_r4.eq_1
def k77 : CC := (.seq (.region k77_r0) (.seq (.seq (.region k77_r1) (.seq (.region k77_r2) (.cond (.tmp 12) (.seq (.region k77_r3) .ret) .skip))) (.seq (.region k77_r4) .ret)))
theorem k77_e : type_of% (@Ev_of P pr N e σ Q _ _ k77.eq_1) := Ev_of k77.eq_1
theorem k77_a : type_of% @k77_e ∧ type_of% @k77_r0_e ∧ type_of% @k77_r1_e ∧ type_of% @k77_r2_e ∧ type_of% @k77_r3_e ∧ type_of% @k77_r4_e := ⟨@k77_e, @k77_r0_e, @k77_r1_e, @k77_r2_e, @k77_r3_e, @k77_r4_e⟩
/-- internal/stringslite.Cut -/
theorem k77_is : FnIs Try.prog prims 77 23 [ResultVar.tmp 4, ResultVar.tmp 5, ResultVar.tmp 6] k77 := FnIs.of_fn Try.func77 (by kernel_rfl) rfl
def k59_r0 : List COp := [
  ⟨some 4, .assign (.const (.bool false)), none, true⟩]
theorem k59_r0_e : type_of% (@Eo_of P pr N e σ Q _ _ k59_r0.eq_1) := Eo_of k59_r0.eq_1
def k59_r1 : List COp := [
  ⟨some 5, .move (.tmp 0), none, true⟩,
  ⟨some 6, .move (.tmp 1), none, true⟩,
  ⟨some 7, .call { callee := .value (.func 70), args := #[.tmp 5, .tmp 6], argTypes := #[22, 88] }, none, true⟩,
  ⟨some 8, .binOp .geq 3 (.tmp 7) (.const (.int .i64 0)) 3, none, true⟩,
  ⟨some 4, .assign (.tmp 8), none, true⟩]
theorem k59_r1_e : type_of% (@Eo_of P pr N e σ Q _ _ k59_r1.eq_1) := Eo_of k59_r1.eq_1
def k59 : CC := (.seq (.region k59_r0) (.seq (.region k59_r1) .ret))
theorem k59_e : type_of% (@Ev_of P pr N e σ Q _ _ k59.eq_1) := Ev_of k59.eq_1
theorem k59_a : type_of% @k59_e ∧ type_of% @k59_r0_e ∧ type_of% @k59_r1_e := ⟨@k59_e, @k59_r0_e, @k59_r1_e⟩
/-- slices.ContainsFunc[[]quern/api.Value,quern/api.Value] -/
theorem k59_is : FnIs Try.prog prims 59 9 [ResultVar.tmp 4] k59 := FnIs.of_fn Try.func59 (by kernel_rfl) rfl
def k60_r0 : List COp := [
  ⟨some 2, .box 29 (.tmp 0), none, true⟩,
  ⟨some 3, .assign (.const (.bool false)), none, true⟩]
theorem k60_r0_e : type_of% (@Eo_of P pr N e σ Q _ _ k60_r0.eq_1) := Eo_of k60_r0.eq_1
def k60_r1 : List COp := [
  ⟨some 4, .load 29 (.tmp 2), none, true⟩,
  ⟨some 5, .load 9 (.tmp 1), none, true⟩,
  ⟨some 6, .call { callee := .value (.func 41), args := #[.tmp 4, .tmp 5], argTypes := #[29, 9] }, none, true⟩,
  ⟨some 7, .unOp .not 4 (.tmp 6), none, true⟩,
  ⟨some 3, .assign (.tmp 7), none, true⟩]
theorem k60_r1_e : type_of% (@Eo_of P pr N e σ Q _ _ k60_r1.eq_1) := Eo_of k60_r1.eq_1
def k60 : CC := (.seq (.region k60_r0) (.seq (.region k60_r1) .ret))
theorem k60_e : type_of% (@Ev_of P pr N e σ Q _ _ k60.eq_1) := Ev_of k60.eq_1
theorem k60_a : type_of% @k60_e ∧ type_of% @k60_r0_e ∧ type_of% @k60_r1_e := ⟨@k60_e, @k60_r0_e, @k60_r1_e⟩
/-- quern/value.fits$1 -/
theorem k60_is : FnIs Try.prog prims 60 8 [ResultVar.tmp 3] k60 := FnIs.of_fn Try.func60 (by kernel_rfl) rfl
def k78_r0 : List COp := [
  ⟨some 2, .assign (.const (.bool false)), none, true⟩]
theorem k78_r0_e : type_of% (@Eo_of P pr N e σ Q _ _ k78_r0.eq_1) := Eo_of k78_r0.eq_1
def k78_r1 : List COp := [
  ⟨some 3, .move (.tmp 0), none, true⟩,
  ⟨some 4, .move (.tmp 0), none, true⟩,
  ⟨some 5, .binOp .neq 3 (.tmp 3) (.tmp 4) 3, none, true⟩,
  ⟨some 2, .assign (.tmp 5), none, true⟩]
theorem k78_r1_e : type_of% (@Eo_of P pr N e σ Q _ _ k78_r1.eq_1) := Eo_of k78_r1.eq_1
def k78 : CC := (.seq (.region k78_r0) (.seq (.region k78_r1) .ret))
theorem k78_e : type_of% (@Ev_of P pr N e σ Q _ _ k78.eq_1) := Ev_of k78.eq_1
theorem k78_a : type_of% @k78_e ∧ type_of% @k78_r0_e ∧ type_of% @k78_r1_e := ⟨@k78_e, @k78_r0_e, @k78_r1_e⟩
/-- cmp.isNaN[int] -/
theorem k78_is : FnIs Try.prog prims 78 6 [ResultVar.tmp 2] k78 := FnIs.of_fn Try.func78 (by kernel_rfl) rfl
def k49_r0 : List COp := [
  ⟨some 4, .assign (.const (.slice .none 0 0)), none, true⟩]
theorem k49_r0_e : type_of% (@Eo_of P pr N e σ Q _ _ k49_r0.eq_1) := Eo_of k49_r0.eq_1
def k49_r1 : List COp := [
  ⟨some 8, .move (.tmp 0), none, true⟩,
  ⟨some 9, .call { callee := .builtin .len, args := #[.tmp 8], argTypes := #[41] }, none, true⟩,
  ⟨some 10, .move (.tmp 1), none, true⟩,
  ⟨some 11, .call { callee := .builtin .len, args := #[.tmp 10], argTypes := #[70] }, none, true⟩,
  ⟨some 12, .binOp .mul 3 (.const (.int .i64 2)) (.tmp 11) 3, none, true⟩,
  ⟨some 13, .binOp .add 3 (.tmp 9) (.tmp 12) 3, none, true⟩,
  ⟨some 14, .makeSlice 41 (.const (.int .i64 0)) (.tmp 13), none, true⟩,
  ⟨some 15, .move (.tmp 0), none, true⟩,
  ⟨some 16, .call { callee := .builtin .append, args := #[.tmp 14, .tmp 15], argTypes := #[41, 41] }, none, true⟩,
  ⟨some 5, .assign (.tmp 16), none, true⟩]
theorem k49_r1_e : type_of% (@Eo_of P pr N e σ Q _ _ k49_r1.eq_1) := Eo_of k49_r1.eq_1
def k49_r2 : List COp := [
  ⟨some 17, .move (.tmp 1), none, true⟩,
  ⟨some 18, .call { callee := .builtin .len, args := #[.tmp 17], argTypes := #[70] }, none, true⟩,
  ⟨some 19, .move (.const (.int .i64 0)), none, true⟩]
theorem k49_r2_e : type_of% (@Eo_of P pr N e σ Q _ _ k49_r2.eq_1) := Eo_of k49_r2.eq_1
def k49_r3 : List COp := [
  ⟨some 20, .binOp .lss 3 (.tmp 19) (.tmp 18) 3, none, true⟩]
theorem k49_r3_e : type_of% (@Eo_of P pr N e σ Q _ _ k49_r3.eq_1) := Eo_of k49_r3.eq_1
def k49_r4 : List COp := [
  ⟨some 21, .indexAddr 70 (.tmp 17) (.tmp 19), none, true⟩,
  ⟨some 22, .load 3 (.tmp 21), none, true⟩,
  ⟨some 7, .assign (.tmp 22), none, true⟩]
theorem k49_r4_e : type_of% (@Eo_of P pr N e σ Q _ _ k49_r4.eq_1) := Eo_of k49_r4.eq_1
def k49_r5 : List COp := [
  ⟨some 23, .move (.tmp 7), none, true⟩,
  ⟨some 24, .call { callee := .builtin .max, args := #[.tmp 23, .const (.int .i64 0)], argTypes := #[3, 3] }, none, true⟩,
  ⟨some 7, .assign (.tmp 24), none, true⟩]
theorem k49_r5_e : type_of% (@Eo_of P pr N e σ Q _ _ k49_r5.eq_1) := Eo_of k49_r5.eq_1
def k49_r6 : List COp := [
  ⟨some 25, .move (.tmp 7), none, true⟩,
  ⟨some 26, .binOp .gtr 3 (.tmp 25) (.const (.int .i64 127)) 3, none, true⟩]
theorem k49_r6_e : type_of% (@Eo_of P pr N e σ Q _ _ k49_r6.eq_1) := Eo_of k49_r6.eq_1
def k49_r8 : List COp := [
  ⟨some 29, .move (.tmp 5), none, true⟩,
  ⟨some 30, .move (.tmp 7), none, true⟩,
  ⟨some 31, .binOp .and 3 (.tmp 30) (.const (.int .i64 127)) 3, none, true⟩,
  ⟨some 32, .binOp .or 3 (.tmp 31) (.const (.int .i64 128)) 3, none, true⟩,
  ⟨some 33, .convert 3 5 (.tmp 32), none, true⟩,
  ⟨some 34, .buildSlice 41 1 #[(0, .tmp 33)], none, true⟩,
  ⟨some 35, .call { callee := .builtin .append, args := #[.tmp 29, .tmp 34], argTypes := #[41, 41] }, none, true⟩,
  ⟨some 5, .assign (.tmp 35), none, true⟩]
theorem k49_r8_e : type_of% (@Eo_of P pr N e σ Q _ _ k49_r8.eq_1) := Eo_of k49_r8.eq_1
def k49_r7 : List COp := [
  ⟨some 27, .move (.tmp 7), none, true⟩,
  ⟨some 28, .binOp .shr 3 (.tmp 27) (.const (.int .u64 7)) 97, none, true⟩,
  ⟨some 7, .assign (.tmp 28), none, true⟩]
theorem k49_r7_e : type_of% (@Eo_of P pr N e σ Q _ _ k49_r7.eq_1) := Eo_of k49_r7.eq_1
def k49_l1 : CC := (.seq (.seq (.region k49_r6) (.cond (.tmp 26) .skip (.exit 2))) (.seq (.block 3 (.region k49_r8)) (.region k49_r7)))
theorem k49_l1_e : type_of% (@Ev_of P pr N e σ Q _ _ k49_l1.eq_1) := Ev_of k49_l1.eq_1
def k49_r9 : List COp := [
  ⟨some 36, .move (.tmp 5), none, true⟩,
  ⟨some 37, .move (.tmp 7), none, true⟩,
  ⟨some 38, .convert 3 5 (.tmp 37), none, true⟩,
  ⟨some 39, .buildSlice 41 1 #[(0, .tmp 38)], none, true⟩,
  ⟨some 40, .call { callee := .builtin .append, args := #[.tmp 36, .tmp 39], argTypes := #[41, 41] }, none, true⟩,
  ⟨some 5, .assign (.tmp 40), none, true⟩]
theorem k49_r9_e : type_of% (@Eo_of P pr N e σ Q _ _ k49_r9.eq_1) := Eo_of k49_r9.eq_1
def k49_r10 : List COp := [
  ⟨some 41, .binOp .add 3 (.tmp 19) (.const (.int .i64 1)) 3, none, true⟩,
  ⟨some 19, .move (.tmp 41), none, true⟩]
theorem k49_r10_e : type_of% (@Eo_of P pr N e σ Q _ _ k49_r10.eq_1) := Eo_of k49_r10.eq_1
def k49_l0 : CC := (.seq (.region k49_r3) (.seq (.cond (.tmp 20) .skip (.exit 0)) (.seq (.block 1 (.seq (.region k49_r4) (.seq (.region k49_r5) (.seq (.block 2 (.loop k49_l1)) (.region k49_r9))))) (.region k49_r10))))
theorem k49_l0_e : type_of% (@Ev_of P pr N e σ Q _ _ k49_l0.eq_1) := Ev_of k49_l0.eq_1
def k49_r11 : List COp := [
  ⟨some 42, .move (.tmp 5), none, true⟩,
  ⟨some 4, .assign (.tmp 42), none, true⟩]
theorem k49_r11_e : type_of% (@Eo_of P pr N e σ Q _ _ k49_r11.eq_1) := Eo_of k49_r11.eq_1
def k49 : CC := (.seq (.region k49_r0) (.seq (.region k49_r1) (.seq (.seq (.region k49_r2) (.block 0 (.loop k49_l0))) (.seq (.region k49_r11) .ret))))
theorem k49_e : type_of% (@Ev_of P pr N e σ Q _ _ k49.eq_1) := Ev_of k49.eq_1
theorem k49_a : type_of% @k49_e ∧ type_of% @k49_r0_e ∧ type_of% @k49_r1_e ∧ type_of% @k49_r2_e ∧ type_of% @k49_r3_e ∧ type_of% @k49_r4_e ∧ type_of% @k49_r5_e ∧ type_of% @k49_r6_e ∧ type_of% @k49_r8_e ∧ type_of% @k49_r7_e ∧ type_of% @k49_l1_e ∧ type_of% @k49_r9_e ∧ type_of% @k49_r10_e ∧ type_of% @k49_l0_e ∧ type_of% @k49_r11_e := ⟨@k49_e, @k49_r0_e, @k49_r1_e, @k49_r2_e, @k49_r3_e, @k49_r4_e, @k49_r5_e, @k49_r6_e, @k49_r8_e, @k49_r7_e, @k49_l1_e, @k49_r9_e, @k49_r10_e, @k49_l0_e, @k49_r11_e⟩
/-- quern/pack.Put -/
theorem k49_is : FnIs Try.prog prims 49 43 [ResultVar.tmp 4] k49 := FnIs.of_fn Try.func49 (by kernel_rfl) rfl
def k68_r0 : List COp := [
  ⟨some 2, .assign (.const (.slice .none 0 0)), none, true⟩]
theorem k68_r0_e : type_of% (@Eo_of P pr N e σ Q _ _ k68_r0.eq_1) := Eo_of k68_r0.eq_1
def k68_r1 : List COp := [
  ⟨some 3, .move (.tmp 0), none, true⟩,
  ⟨some 4, .binOp .geq 3 (.tmp 3) (.const (.int .i64 0)) 3, none, true⟩]
theorem k68_r1_e : type_of% (@Eo_of P pr N e σ Q _ _ k68_r1.eq_1) := Eo_of k68_r1.eq_1
def k68_r2 : List COp := [
  ⟨some 5, .move (.tmp 0), none, true⟩,
  ⟨some 6, .buildSlice 70 2 #[(0, .const (.int .i64 0)), (1, .tmp 5)], none, true⟩,
  ⟨some 2, .assign (.tmp 6), none, true⟩]
theorem k68_r2_e : type_of% (@Eo_of P pr N e σ Q _ _ k68_r2.eq_1) := Eo_of k68_r2.eq_1
def k68_r3 : List COp := [
  ⟨some 7, .move (.tmp 0), none, true⟩,
  ⟨some 8, .binOp .add 3 (.tmp 7) (.const (.int .i64 1)) 3, none, true⟩,
  ⟨some 9, .unOp .neg 3 (.tmp 8), none, true⟩,
  ⟨some 10, .buildSlice 70 2 #[(0, .const (.int .i64 1)), (1, .tmp 9)], none, true⟩,
  ⟨some 2, .assign (.tmp 10), none, true⟩]
theorem k68_r3_e : type_of% (@Eo_of P pr N e σ Q _ _ k68_r3.eq_1) := Eo_of k68_r3.eq_1
def k68 : CC := (.seq (.region k68_r0) (.seq (.seq (.region k68_r1) (.cond (.tmp 4) (.seq (.region k68_r2) .ret) .skip)) (.seq (.region k68_r3) .ret)))
theorem k68_e : type_of% (@Ev_of P pr N e σ Q _ _ k68.eq_1) := Ev_of k68.eq_1
theorem k68_a : type_of% @k68_e ∧ type_of% @k68_r0_e ∧ type_of% @k68_r1_e ∧ type_of% @k68_r2_e ∧ type_of% @k68_r3_e := ⟨@k68_e, @k68_r0_e, @k68_r1_e, @k68_r2_e, @k68_r3_e⟩
/-- quern/value.zigzag -/
theorem k68_is : FnIs Try.prog prims 68 11 [ResultVar.tmp 2] k68 := FnIs.of_fn Try.func68 (by kernel_rfl) rfl
def k51_r0 : List COp := [
  ⟨some 4, .assign (.const (.slice .none 0 0)), none, true⟩]
theorem k51_r0_e : type_of% (@Eo_of P pr N e σ Q _ _ k51_r0.eq_1) := Eo_of k51_r0.eq_1
def k51_r1 : List COp := [
  ⟨some 6, .buildSlice 41 0 #[], none, true⟩,
  ⟨some 7, .move (.tmp 0), none, true⟩,
  ⟨some 8, .call { callee := .builtin .append, args := #[.tmp 6, .tmp 7], argTypes := #[41, 41] }, none, true⟩,
  ⟨some 5, .assign (.tmp 8), none, true⟩]
theorem k51_r1_e : type_of% (@Eo_of P pr N e σ Q _ _ k51_r1.eq_1) := Eo_of k51_r1.eq_1
def k51_r2 : List COp := [
  ⟨some 9, .move (.tmp 1), none, true⟩,
  ⟨some 10, .binOp .lss 3 (.tmp 9) (.const (.int .i64 0)) 3, none, true⟩]
theorem k51_r2_e : type_of% (@Eo_of P pr N e σ Q _ _ k51_r2.eq_1) := Eo_of k51_r2.eq_1
def k51_r3 : List COp := [
  ⟨some 1, .assign (.const (.int .i64 0)), none, true⟩]
theorem k51_r3_e : type_of% (@Eo_of P pr N e σ Q _ _ k51_r3.eq_1) := Eo_of k51_r3.eq_1
def k51_r4 : List COp := [
  ⟨some 11, .move (.tmp 1), none, true⟩,
  ⟨some 12, .binOp .geq 3 (.tmp 11) (.const (.int .i64 128)) 3, none, true⟩]
theorem k51_r4_e : type_of% (@Eo_of P pr N e σ Q _ _ k51_r4.eq_1) := Eo_of k51_r4.eq_1
def k51_r5 : List COp := [
  ⟨some 13, .move (.tmp 5), none, true⟩,
  ⟨some 14, .move (.tmp 1), none, true⟩,
  ⟨some 15, .binOp .rem 3 (.tmp 14) (.const (.int .i64 128)) 3, none, true⟩,
  ⟨some 16, .binOp .add 3 (.tmp 15) (.const (.int .i64 128)) 3, none, true⟩,
  ⟨some 17, .convert 3 5 (.tmp 16), none, true⟩,
  ⟨some 18, .buildSlice 41 1 #[(0, .tmp 17)], none, true⟩,
  ⟨some 19, .call { callee := .builtin .append, args := #[.tmp 13, .tmp 18], argTypes := #[41, 41] }, none, true⟩,
  ⟨some 5, .assign (.tmp 19), none, true⟩]
theorem k51_r5_e : type_of% (@Eo_of P pr N e σ Q _ _ k51_r5.eq_1) := Eo_of k51_r5.eq_1
def k51_r6 : List COp := [
  ⟨some 20, .move (.tmp 1), none, true⟩,
  ⟨some 21, .binOp .quo 3 (.tmp 20) (.const (.int .i64 128)) 3, none, true⟩,
  ⟨some 1, .assign (.tmp 21), none, true⟩]
theorem k51_r6_e : type_of% (@Eo_of P pr N e σ Q _ _ k51_r6.eq_1) := Eo_of k51_r6.eq_1
def k51_l0 : CC := (.seq (.seq (.region k51_r4) (.cond (.tmp 12) .skip (.exit 0))) (.block 1 (.seq (.region k51_r5) (.region k51_r6))))
theorem k51_l0_e : type_of% (@Ev_of P pr N e σ Q _ _ k51_l0.eq_1) := Ev_of k51_l0.eq_1
def k51_r7 : List COp := [
  ⟨some 22, .move (.tmp 5), none, true⟩,
  ⟨some 23, .move (.tmp 1), none, true⟩,
  ⟨some 24, .convert 3 5 (.tmp 23), none, true⟩,
  ⟨some 25, .buildSlice 41 1 #[(0, .tmp 24)], none, true⟩,
  ⟨some 26, .call { callee := .builtin .append, args := #[.tmp 22, .tmp 25], argTypes := #[41, 41] }, none, true⟩,
  ⟨some 4, .assign (.tmp 26), none, true⟩]
theorem k51_r7_e : type_of% (@Eo_of P pr N e σ Q _ _ k51_r7.eq_1) := Eo_of k51_r7.eq_1
def k51 : CC := (.seq (.region k51_r0) (.seq (.region k51_r1) (.seq (.seq (.region k51_r2) (.cond (.tmp 10) (.region k51_r3) .skip)) (.seq (.block 0 (.loop k51_l0)) (.seq (.region k51_r7) .ret)))))
theorem k51_e : type_of% (@Ev_of P pr N e σ Q _ _ k51.eq_1) := Ev_of k51.eq_1
theorem k51_a : type_of% @k51_e ∧ type_of% @k51_r0_e ∧ type_of% @k51_r1_e ∧ type_of% @k51_r2_e ∧ type_of% @k51_r3_e ∧ type_of% @k51_r4_e ∧ type_of% @k51_r5_e ∧ type_of% @k51_r6_e ∧ type_of% @k51_l0_e ∧ type_of% @k51_r7_e := ⟨@k51_e, @k51_r0_e, @k51_r1_e, @k51_r2_e, @k51_r3_e, @k51_r4_e, @k51_r5_e, @k51_r6_e, @k51_l0_e, @k51_r7_e⟩
/-- quern/quernref01.Put -/
theorem k51_is : FnIs Try.prog prims 51 27 [ResultVar.tmp 4] k51 := FnIs.of_fn Try.func51 (by kernel_rfl) rfl
def k32_r0 : List COp := [
  ⟨some 2, .assign (.const (.int .i64 0)), none, true⟩]
theorem k32_r0_e : type_of% (@Eo_of P pr N e σ Q _ _ k32_r0.eq_1) := Eo_of k32_r0.eq_1
def k32_r1 : List COp := [
  ⟨some 5, .move (.tmp 0), none, true⟩,
  ⟨some 6, .binOp .eql 57 (.tmp 5) (.const (.pointer .none)) 57, none, true⟩,
  ⟨some 7, .move (.tmp 6), none, true⟩,
  ⟨some 8, .move (.tmp 0), some (7, false), true⟩,
  ⟨some 9, .nilCheck (.tmp 8), some (7, false), true⟩,
  ⟨some 10, .fieldAddr 81 (.tmp 9) 1, some (7, false), true⟩,
  ⟨some 11, .load 4 (.tmp 10), some (7, false), true⟩,
  ⟨some 12, .pick (.tmp 7) (.const (.bool true)) (.tmp 11), none, true⟩]
theorem k32_r1_e : type_of% (@Eo_of P pr N e σ Q _ _ k32_r1.eq_1) := Eo_of k32_r1.eq_1
def k32_r2 : List COp := [
  ⟨some 2, .assign (.const (.int .i64 0)), none, true⟩]
theorem k32_r2_e : type_of% (@Eo_of P pr N e σ Q _ _ k32_r2.eq_1) := Eo_of k32_r2.eq_1
def k32_r3 : List COp := [
  ⟨some 14, .move (.tmp 0), none, true⟩,
  ⟨some 15, .nilCheck (.tmp 14), none, true⟩,
  ⟨some 16, .fieldAddr 81 (.tmp 15) 0, none, true⟩,
  ⟨some 17, .load 41 (.tmp 16), none, true⟩,
  ⟨some 18, .call { callee := .value (.func 53), args := #[.tmp 17], argTypes := #[41] }, none, true⟩,
  ⟨some 13, .move (.tmp 18), none, true⟩,
  ⟨some 19, .extract (.tmp 13) 0, none, true⟩,
  ⟨some 20, .extract (.tmp 13) 1, none, true⟩,
  ⟨some 3, .assign (.tmp 19), none, true⟩,
  ⟨some 4, .assign (.tmp 20), none, true⟩]
theorem k32_r3_e : type_of% (@Eo_of P pr N e σ Q _ _ k32_r3.eq_1) := Eo_of k32_r3.eq_1
def k32_r4 : List COp := [
  ⟨some 21, .move (.tmp 0), none, true⟩,
  ⟨some 22, .move (.tmp 4), none, true⟩,
  ⟨some 23, .binOp .eql 3 (.tmp 22) (.const (.int .i64 0)) 3, none, true⟩,
  ⟨some 24, .nilCheck (.tmp 21), none, true⟩,
  ⟨some 25, .fieldAddr 81 (.tmp 24) 1, none, true⟩,
  ⟨none, .store 4 (.tmp 25) (.tmp 23), none, true⟩]
theorem k32_r4_e : type_of% (@Eo_of P pr N e σ Q _ _ k32_r4.eq_1) := Eo_of k32_r4.eq_1
def k32_r5 : List COp := [
  ⟨some 26, .move (.tmp 0), none, true⟩,
  ⟨some 27, .move (.tmp 0), none, true⟩,
  ⟨some 28, .nilCheck (.tmp 27), none, true⟩,
  ⟨some 29, .fieldAddr 81 (.tmp 28) 0, none, true⟩,
  ⟨some 30, .load 41 (.tmp 29), none, true⟩,
  ⟨some 31, .move (.tmp 4), none, true⟩,
  ⟨some 32, .slice 41 (.tmp 30) (some (.tmp 31)) .none .none, none, true⟩,
  ⟨some 33, .nilCheck (.tmp 26), none, true⟩,
  ⟨some 34, .fieldAddr 81 (.tmp 33) 0, none, true⟩,
  ⟨none, .store 41 (.tmp 34) (.tmp 32), none, true⟩]
theorem k32_r5_e : type_of% (@Eo_of P pr N e σ Q _ _ k32_r5.eq_1) := Eo_of k32_r5.eq_1
def k32_r6 : List COp := [
  ⟨some 35, .move (.tmp 3), none, true⟩,
  ⟨some 2, .assign (.tmp 35), none, true⟩]
theorem k32_r6_e : type_of% (@Eo_of P pr N e σ Q _ _ k32_r6.eq_1) := Eo_of k32_r6.eq_1
def k32 : CC := (.seq (.region k32_r0) (.seq (.seq (.region k32_r1) (.cond (.tmp 12) (.seq (.region k32_r2) .ret) .skip)) (.seq (.region k32_r3) (.seq (.region k32_r4) (.seq (.region k32_r5) (.seq (.region k32_r6) .ret))))))
theorem k32_e : type_of% (@Ev_of P pr N e σ Q _ _ k32.eq_1) := Ev_of k32.eq_1
theorem k32_a : type_of% @k32_e ∧ type_of% @k32_r0_e ∧ type_of% @k32_r1_e ∧ type_of% @k32_r2_e ∧ type_of% @k32_r3_e ∧ type_of% @k32_r4_e ∧ type_of% @k32_r5_e ∧ type_of% @k32_r6_e := ⟨@k32_e, @k32_r0_e, @k32_r1_e, @k32_r2_e, @k32_r3_e, @k32_r4_e, @k32_r5_e, @k32_r6_e⟩
/-- (*quern/pack.Reader).Number -/
theorem k32_is : FnIs Try.prog prims 32 36 [ResultVar.tmp 2] k32 := FnIs.of_fn Try.func32 (by kernel_rfl) rfl
def k54_r0 : List COp := [
  ⟨some 4, .assign (.const (.slice .none 0 0)), none, true⟩]
theorem k54_r0_e : type_of% (@Eo_of P pr N e σ Q _ _ k54_r0.eq_1) := Eo_of k54_r0.eq_1
def k54_r1 : List COp := [
  ⟨some 6, .move (.tmp 0), none, true⟩,
  ⟨some 7, .binOp .eql 57 (.tmp 6) (.const (.pointer .none)) 57, none, true⟩,
  ⟨some 8, .move (.tmp 7), none, true⟩,
  ⟨some 9, .move (.tmp 0), some (8, false), true⟩,
  ⟨some 10, .nilCheck (.tmp 9), some (8, false), true⟩,
  ⟨some 11, .fieldAddr 81 (.tmp 10) 1, some (8, false), true⟩,
  ⟨some 12, .load 4 (.tmp 11), some (8, false), true⟩,
  ⟨some 13, .pick (.tmp 8) (.const (.bool true)) (.tmp 12), none, true⟩]
theorem k54_r1_e : type_of% (@Eo_of P pr N e σ Q _ _ k54_r1.eq_1) := Eo_of k54_r1.eq_1
def k54_r2 : List COp := [
  ⟨some 4, .assign (.const (.slice .none 0 0)), none, true⟩]
theorem k54_r2_e : type_of% (@Eo_of P pr N e σ Q _ _ k54_r2.eq_1) := Eo_of k54_r2.eq_1
def k54_r3 : List COp := [
  ⟨some 14, .move (.tmp 1), none, true⟩,
  ⟨some 15, .binOp .lss 3 (.tmp 14) (.const (.int .i64 0)) 3, none, true⟩,
  ⟨some 16, .move (.tmp 15), none, true⟩,
  ⟨some 17, .move (.tmp 1), some (16, false), true⟩,
  ⟨some 18, .move (.tmp 0), some (16, false), true⟩,
  ⟨some 19, .nilCheck (.tmp 18), some (16, false), true⟩,
  ⟨some 20, .fieldAddr 81 (.tmp 19) 0, some (16, false), true⟩,
  ⟨some 21, .load 41 (.tmp 20), some (16, false), true⟩,
  ⟨some 22, .call { callee := .builtin .len, args := #[.tmp 21], argTypes := #[41] }, some (16, false), true⟩,
  ⟨some 23, .binOp .gtr 3 (.tmp 17) (.tmp 22) 3, some (16, false), true⟩,
  ⟨some 24, .pick (.tmp 16) (.const (.bool true)) (.tmp 23), none, true⟩]
theorem k54_r3_e : type_of% (@Eo_of P pr N e σ Q _ _ k54_r3.eq_1) := Eo_of k54_r3.eq_1
def k54_r4 : List COp := [
  ⟨some 25, .move (.tmp 0), none, true⟩,
  ⟨some 26, .nilCheck (.tmp 25), none, true⟩,
  ⟨some 27, .fieldAddr 81 (.tmp 26) 1, none, true⟩,
  ⟨none, .store 4 (.tmp 27) (.const (.bool true)), none, true⟩]
theorem k54_r4_e : type_of% (@Eo_of P pr N e σ Q _ _ k54_r4.eq_1) := Eo_of k54_r4.eq_1
def k54_r5 : List COp := [
  ⟨some 4, .assign (.const (.slice .none 0 0)), none, true⟩]
theorem k54_r5_e : type_of% (@Eo_of P pr N e σ Q _ _ k54_r5.eq_1) := Eo_of k54_r5.eq_1
def k54_r6 : List COp := [
  ⟨some 28, .buildSlice 41 0 #[], none, true⟩,
  ⟨some 29, .move (.tmp 0), none, true⟩,
  ⟨some 30, .nilCheck (.tmp 29), none, true⟩,
  ⟨some 31, .fieldAddr 81 (.tmp 30) 0, none, true⟩,
  ⟨some 32, .load 41 (.tmp 31), none, true⟩,
  ⟨some 33, .move (.tmp 1), none, true⟩,
  ⟨some 34, .slice 41 (.tmp 32) .none (some (.tmp 33)) .none, none, true⟩,
  ⟨some 35, .call { callee := .builtin .append, args := #[.tmp 28, .tmp 34], argTypes := #[41, 41] }, none, true⟩,
  ⟨some 5, .assign (.tmp 35), none, true⟩]
theorem k54_r6_e : type_of% (@Eo_of P pr N e σ Q _ _ k54_r6.eq_1) := Eo_of k54_r6.eq_1
def k54_r7 : List COp := [
  ⟨some 36, .move (.tmp 0), none, true⟩,
  ⟨some 37, .move (.tmp 0), none, true⟩,
  ⟨some 38, .nilCheck (.tmp 37), none, true⟩,
  ⟨some 39, .fieldAddr 81 (.tmp 38) 0, none, true⟩,
  ⟨some 40, .load 41 (.tmp 39), none, true⟩,
  ⟨some 41, .move (.tmp 1), none, true⟩,
  ⟨some 42, .slice 41 (.tmp 40) (some (.tmp 41)) .none .none, none, true⟩,
  ⟨some 43, .nilCheck (.tmp 36), none, true⟩,
  ⟨some 44, .fieldAddr 81 (.tmp 43) 0, none, true⟩,
  ⟨none, .store 41 (.tmp 44) (.tmp 42), none, true⟩]
theorem k54_r7_e : type_of% (@Eo_of P pr N e σ Q _ _ k54_r7.eq_1) := Eo_of k54_r7.eq_1
def k54_r8 : List COp := [
  ⟨some 45, .move (.tmp 5), none, true⟩,
  ⟨some 4, .assign (.tmp 45), none, true⟩]
theorem k54_r8_e : type_of% (@Eo_of P pr N e σ Q _ _ k54_r8.eq_1) := Eo_of k54_r8.eq_1
def k54 : CC := (.seq (.region k54_r0) (.seq (.seq (.region k54_r1) (.cond (.tmp 13) (.seq (.region k54_r2) .ret) .skip)) (.seq (.seq (.region k54_r3) (.cond (.tmp 24) (.seq (.region k54_r4) (.seq (.region k54_r5) .ret)) .skip)) (.seq (.region k54_r6) (.seq (.region k54_r7) (.seq (.region k54_r8) .ret))))))
theorem k54_e : type_of% (@Ev_of P pr N e σ Q _ _ k54.eq_1) := Ev_of k54.eq_1
theorem k54_a : type_of% @k54_e ∧ type_of% @k54_r0_e ∧ type_of% @k54_r1_e ∧ type_of% @k54_r2_e ∧ type_of% @k54_r3_e ∧ type_of% @k54_r4_e ∧ type_of% @k54_r5_e ∧ type_of% @k54_r6_e ∧ type_of% @k54_r7_e ∧ type_of% @k54_r8_e := ⟨@k54_e, @k54_r0_e, @k54_r1_e, @k54_r2_e, @k54_r3_e, @k54_r4_e, @k54_r5_e, @k54_r6_e, @k54_r7_e, @k54_r8_e⟩
/-- (*quern/pack.Reader).Bytes -/
theorem k54_is : FnIs Try.prog prims 54 46 [ResultVar.tmp 4] k54 := FnIs.of_fn Try.func54 (by kernel_rfl) rfl
def k33_r0 : List COp := [
  ⟨some 2, .assign (.const (.bool false)), none, true⟩]
theorem k33_r0_e : type_of% (@Eo_of P pr N e σ Q _ _ k33_r0.eq_1) := Eo_of k33_r0.eq_1
def k33_r1 : List COp := [
  ⟨some 3, .move (.tmp 0), none, true⟩,
  ⟨some 4, .binOp .neq 57 (.tmp 3) (.const (.pointer .none)) 57, none, true⟩,
  ⟨some 5, .move (.tmp 4), none, true⟩,
  ⟨some 6, .move (.tmp 0), some (5, true), true⟩,
  ⟨some 7, .nilCheck (.tmp 6), some (5, true), true⟩,
  ⟨some 8, .fieldAddr 81 (.tmp 7) 1, some (5, true), true⟩,
  ⟨some 9, .load 4 (.tmp 8), some (5, true), true⟩,
  ⟨some 10, .pick (.tmp 5) (.tmp 9) (.const (.bool false)), none, true⟩,
  ⟨some 2, .assign (.tmp 10), none, true⟩]
theorem k33_r1_e : type_of% (@Eo_of P pr N e σ Q _ _ k33_r1.eq_1) := Eo_of k33_r1.eq_1
def k33 : CC := (.seq (.region k33_r0) (.seq (.region k33_r1) .ret))
theorem k33_e : type_of% (@Ev_of P pr N e σ Q _ _ k33.eq_1) := Ev_of k33.eq_1
theorem k33_a : type_of% @k33_e ∧ type_of% @k33_r0_e ∧ type_of% @k33_r1_e := ⟨@k33_e, @k33_r0_e, @k33_r1_e⟩
/-- (*quern/pack.Reader).Bad -/
theorem k33_is : FnIs Try.prog prims 33 11 [ResultVar.tmp 2] k33 := FnIs.of_fn Try.func33 (by kernel_rfl) rfl
def k36_r0 : List COp := [
  ⟨some 2, .assign (.const (.int .i64 0)), none, true⟩]
theorem k36_r0_e : type_of% (@Eo_of P pr N e σ Q _ _ k36_r0.eq_1) := Eo_of k36_r0.eq_1
def k36_r1 : List COp := [
  ⟨some 5, .move (.tmp 0), none, true⟩,
  ⟨some 6, .nilCheck (.tmp 5), none, true⟩,
  ⟨some 7, .fieldAddr 63 (.tmp 6) 1, none, true⟩,
  ⟨some 8, .load 4 (.tmp 7), none, true⟩]
theorem k36_r1_e : type_of% (@Eo_of P pr N e σ Q _ _ k36_r1.eq_1) := Eo_of k36_r1.eq_1
def k36_r2 : List COp := [
  ⟨some 2, .assign (.const (.int .i64 0)), none, true⟩]
theorem k36_r2_e : type_of% (@Eo_of P pr N e σ Q _ _ k36_r2.eq_1) := Eo_of k36_r2.eq_1
def k36_r3 : List COp := [
  ⟨some 10, .move (.tmp 0), none, true⟩,
  ⟨some 11, .nilCheck (.tmp 10), none, true⟩,
  ⟨some 12, .fieldAddr 63 (.tmp 11) 0, none, true⟩,
  ⟨some 13, .load 41 (.tmp 12), none, true⟩,
  ⟨some 14, .call { callee := .value (.func 55), args := #[.tmp 13], argTypes := #[41] }, none, true⟩,
  ⟨some 9, .move (.tmp 14), none, true⟩,
  ⟨some 15, .extract (.tmp 9) 0, none, true⟩,
  ⟨some 16, .extract (.tmp 9) 1, none, true⟩,
  ⟨some 3, .assign (.tmp 15), none, true⟩,
  ⟨some 4, .assign (.tmp 16), none, true⟩]
theorem k36_r3_e : type_of% (@Eo_of P pr N e σ Q _ _ k36_r3.eq_1) := Eo_of k36_r3.eq_1
def k36_r4 : List COp := [
  ⟨some 17, .move (.tmp 4), none, true⟩,
  ⟨some 18, .binOp .eql 3 (.tmp 17) (.const (.int .i64 0)) 3, none, true⟩]
theorem k36_r4_e : type_of% (@Eo_of P pr N e σ Q _ _ k36_r4.eq_1) := Eo_of k36_r4.eq_1
def k36_r5 : List COp := [
  ⟨some 19, .move (.tmp 0), none, true⟩,
  ⟨some 20, .nilCheck (.tmp 19), none, true⟩,
  ⟨some 21, .fieldAddr 63 (.tmp 20) 1, none, true⟩,
  ⟨none, .store 4 (.tmp 21) (.const (.bool true)), none, true⟩]
theorem k36_r5_e : type_of% (@Eo_of P pr N e σ Q _ _ k36_r5.eq_1) := Eo_of k36_r5.eq_1
def k36_r6 : List COp := [
  ⟨some 2, .assign (.const (.int .i64 0)), none, true⟩]
theorem k36_r6_e : type_of% (@Eo_of P pr N e σ Q _ _ k36_r6.eq_1) := Eo_of k36_r6.eq_1
def k36_r7 : List COp := [
  ⟨some 22, .move (.tmp 0), none, true⟩,
  ⟨some 23, .move (.tmp 0), none, true⟩,
  ⟨some 24, .nilCheck (.tmp 23), none, true⟩,
  ⟨some 25, .fieldAddr 63 (.tmp 24) 0, none, true⟩,
  ⟨some 26, .load 41 (.tmp 25), none, true⟩,
  ⟨some 27, .move (.tmp 4), none, true⟩,
  ⟨some 28, .slice 41 (.tmp 26) (some (.tmp 27)) .none .none, none, true⟩,
  ⟨some 29, .nilCheck (.tmp 22), none, true⟩,
  ⟨some 30, .fieldAddr 63 (.tmp 29) 0, none, true⟩,
  ⟨none, .store 41 (.tmp 30) (.tmp 28), none, true⟩]
theorem k36_r7_e : type_of% (@Eo_of P pr N e σ Q _ _ k36_r7.eq_1) := Eo_of k36_r7.eq_1
def k36_r8 : List COp := [
  ⟨some 31, .move (.tmp 3), none, true⟩,
  ⟨some 2, .assign (.tmp 31), none, true⟩]
theorem k36_r8_e : type_of% (@Eo_of P pr N e σ Q _ _ k36_r8.eq_1) := Eo_of k36_r8.eq_1
def k36 : CC := (.seq (.region k36_r0) (.seq (.seq (.region k36_r1) (.cond (.tmp 8) (.seq (.region k36_r2) .ret) .skip)) (.seq (.region k36_r3) (.seq (.seq (.region k36_r4) (.cond (.tmp 18) (.seq (.region k36_r5) (.seq (.region k36_r6) .ret)) .skip)) (.seq (.region k36_r7) (.seq (.region k36_r8) .ret))))))
theorem k36_e : type_of% (@Ev_of P pr N e σ Q _ _ k36.eq_1) := Ev_of k36.eq_1
theorem k36_a : type_of% @k36_e ∧ type_of% @k36_r0_e ∧ type_of% @k36_r1_e ∧ type_of% @k36_r2_e ∧ type_of% @k36_r3_e ∧ type_of% @k36_r4_e ∧ type_of% @k36_r5_e ∧ type_of% @k36_r6_e ∧ type_of% @k36_r7_e ∧ type_of% @k36_r8_e := ⟨@k36_e, @k36_r0_e, @k36_r1_e, @k36_r2_e, @k36_r3_e, @k36_r4_e, @k36_r5_e, @k36_r6_e, @k36_r7_e, @k36_r8_e⟩
/-- (*quern/quernref01.Reader).Number -/
theorem k36_is : FnIs Try.prog prims 36 32 [ResultVar.tmp 2] k36 := FnIs.of_fn Try.func36 (by kernel_rfl) rfl
def k37_r0 : List COp := [
  ⟨some 4, .assign (.const (.slice .none 0 0)), none, true⟩]
theorem k37_r0_e : type_of% (@Eo_of P pr N e σ Q _ _ k37_r0.eq_1) := Eo_of k37_r0.eq_1
def k37_r1 : List COp := [
  ⟨some 6, .move (.tmp 0), none, true⟩,
  ⟨some 7, .nilCheck (.tmp 6), none, true⟩,
  ⟨some 8, .fieldAddr 63 (.tmp 7) 1, none, true⟩,
  ⟨some 9, .load 4 (.tmp 8), none, true⟩,
  ⟨some 10, .move (.tmp 9), none, true⟩,
  ⟨some 11, .move (.tmp 1), some (10, false), true⟩,
  ⟨some 12, .binOp .lss 3 (.tmp 11) (.const (.int .i64 0)) 3, some (10, false), true⟩,
  ⟨some 13, .pick (.tmp 10) (.const (.bool true)) (.tmp 12), none, true⟩,
  ⟨some 14, .move (.tmp 13), none, true⟩,
  ⟨some 15, .move (.tmp 1), some (14, false), true⟩,
  ⟨some 16, .move (.tmp 0), some (14, false), true⟩,
  ⟨some 17, .nilCheck (.tmp 16), some (14, false), true⟩,
  ⟨some 18, .fieldAddr 63 (.tmp 17) 0, some (14, false), true⟩,
  ⟨some 19, .load 41 (.tmp 18), some (14, false), true⟩,
  ⟨some 20, .call { callee := .builtin .len, args := #[.tmp 19], argTypes := #[41] }, some (14, false), true⟩,
  ⟨some 21, .binOp .gtr 3 (.tmp 15) (.tmp 20) 3, some (14, false), true⟩,
  ⟨some 22, .pick (.tmp 14) (.const (.bool true)) (.tmp 21), none, true⟩]
theorem k37_r1_e : type_of% (@Eo_of P pr N e σ Q _ _ k37_r1.eq_1) := Eo_of k37_r1.eq_1
def k37_r2 : List COp := [
  ⟨some 23, .move (.tmp 0), none, true⟩,
  ⟨some 24, .nilCheck (.tmp 23), none, true⟩,
  ⟨some 25, .fieldAddr 63 (.tmp 24) 1, none, true⟩,
  ⟨none, .store 4 (.tmp 25) (.const (.bool true)), none, true⟩]
theorem k37_r2_e : type_of% (@Eo_of P pr N e σ Q _ _ k37_r2.eq_1) := Eo_of k37_r2.eq_1
def k37_r3 : List COp := [
  ⟨some 4, .assign (.const (.slice .none 0 0)), none, true⟩]
theorem k37_r3_e : type_of% (@Eo_of P pr N e σ Q _ _ k37_r3.eq_1) := Eo_of k37_r3.eq_1
def k37_r4 : List COp := [
  ⟨some 26, .buildSlice 41 0 #[], none, true⟩,
  ⟨some 27, .move (.tmp 0), none, true⟩,
  ⟨some 28, .nilCheck (.tmp 27), none, true⟩,
  ⟨some 29, .fieldAddr 63 (.tmp 28) 0, none, true⟩,
  ⟨some 30, .load 41 (.tmp 29), none, true⟩,
  ⟨some 31, .move (.tmp 1), none, true⟩,
  ⟨some 32, .slice 41 (.tmp 30) .none (some (.tmp 31)) .none, none, true⟩,
  ⟨some 33, .call { callee := .builtin .append, args := #[.tmp 26, .tmp 32], argTypes := #[41, 41] }, none, true⟩,
  ⟨some 5, .assign (.tmp 33), none, true⟩]
theorem k37_r4_e : type_of% (@Eo_of P pr N e σ Q _ _ k37_r4.eq_1) := Eo_of k37_r4.eq_1
def k37_r5 : List COp := [
  ⟨some 34, .move (.tmp 0), none, true⟩,
  ⟨some 35, .move (.tmp 0), none, true⟩,
  ⟨some 36, .nilCheck (.tmp 35), none, true⟩,
  ⟨some 37, .fieldAddr 63 (.tmp 36) 0, none, true⟩,
  ⟨some 38, .load 41 (.tmp 37), none, true⟩,
  ⟨some 39, .move (.tmp 1), none, true⟩,
  ⟨some 40, .slice 41 (.tmp 38) (some (.tmp 39)) .none .none, none, true⟩,
  ⟨some 41, .nilCheck (.tmp 34), none, true⟩,
  ⟨some 42, .fieldAddr 63 (.tmp 41) 0, none, true⟩,
  ⟨none, .store 41 (.tmp 42) (.tmp 40), none, true⟩]
theorem k37_r5_e : type_of% (@Eo_of P pr N e σ Q _ _ k37_r5.eq_1) := Eo_of k37_r5.eq_1
def k37_r6 : List COp := [
  ⟨some 43, .move (.tmp 5), none, true⟩,
  ⟨some 4, .assign (.tmp 43), none, true⟩]
theorem k37_r6_e : type_of% (@Eo_of P pr N e σ Q _ _ k37_r6.eq_1) := Eo_of k37_r6.eq_1
def k37 : CC := (.seq (.region k37_r0) (.seq (.seq (.region k37_r1) (.cond (.tmp 22) (.seq (.region k37_r2) (.seq (.region k37_r3) .ret)) .skip)) (.seq (.region k37_r4) (.seq (.region k37_r5) (.seq (.region k37_r6) .ret)))))
theorem k37_e : type_of% (@Ev_of P pr N e σ Q _ _ k37.eq_1) := Ev_of k37.eq_1
theorem k37_a : type_of% @k37_e ∧ type_of% @k37_r0_e ∧ type_of% @k37_r1_e ∧ type_of% @k37_r2_e ∧ type_of% @k37_r3_e ∧ type_of% @k37_r4_e ∧ type_of% @k37_r5_e ∧ type_of% @k37_r6_e := ⟨@k37_e, @k37_r0_e, @k37_r1_e, @k37_r2_e, @k37_r3_e, @k37_r4_e, @k37_r5_e, @k37_r6_e⟩
/-- (*quern/quernref01.Reader).Bytes -/
theorem k37_is : FnIs Try.prog prims 37 44 [ResultVar.tmp 4] k37 := FnIs.of_fn Try.func37 (by kernel_rfl) rfl
def k69_r0 : List COp := [
  ⟨some 4, .assign (.const (.string { data := #[] })), none, true⟩,
  ⟨some 5, .assign (.const (.bool false)), none, true⟩]
theorem k69_r0_e : type_of% (@Eo_of P pr N e σ Q _ _ k69_r0.eq_1) := Eo_of k69_r0.eq_1
def k69_r1 : List COp := [
  ⟨some 6, .move (.tmp 0), none, true⟩,
  ⟨some 7, .move (.tmp 1), none, true⟩,
  ⟨some 8, .call { callee := .value (.func 76), args := #[.tmp 6, .tmp 7], argTypes := #[9, 9] }, none, true⟩,
  ⟨some 9, .extract (.tmp 8) 0, none, true⟩,
  ⟨some 10, .extract (.tmp 8) 1, none, true⟩,
  ⟨some 4, .assign (.tmp 9), none, true⟩,
  ⟨some 5, .assign (.tmp 10), none, true⟩]
theorem k69_r1_e : type_of% (@Eo_of P pr N e σ Q _ _ k69_r1.eq_1) := Eo_of k69_r1.eq_1
def k69 : CC := (.seq (.region k69_r0) (.seq (.region k69_r1) .ret))
theorem k69_e : type_of% (@Ev_of P pr N e σ Q _ _ k69.eq_1) := Ev_of k69.eq_1
theorem k69_a : type_of% @k69_e ∧ type_of% @k69_r0_e ∧ type_of% @k69_r1_e := ⟨@k69_e, @k69_r0_e, @k69_r1_e⟩
/-- strings.CutPrefix -/
theorem k69_is : FnIs Try.prog prims 69 11 [ResultVar.tmp 4, ResultVar.tmp 5] k69 := FnIs.of_fn Try.func69 (by kernel_rfl) rfl
def k81_r0 : List COp := [
  ⟨some 4, .assign (.const (.int .i64 0)), none, true⟩]
theorem k81_r0_e : type_of% (@Eo_of P pr N e σ Q _ _ k81_r0.eq_1) := Eo_of k81_r0.eq_1
def k81_r1 : List COp := [
  ⟨some 14, .move (.tmp 1), none, true⟩,
  ⟨some 15, .call { callee := .builtin .len, args := #[.tmp 14], argTypes := #[9] }, none, true⟩,
  ⟨some 5, .assign (.tmp 15), none, true⟩]
theorem k81_r1_e : type_of% (@Eo_of P pr N e σ Q _ _ k81_r1.eq_1) := Eo_of k81_r1.eq_1
def k81_r2 : List COp := [
  ⟨some 17, .move (.tmp 5), none, true⟩,
  ⟨some 18, .binOp .eql 3 (.tmp 17) (.const (.int .i64 0)) 3, none, true⟩,
  ⟨some 19, .move (.tmp 18), none, true⟩,
  ⟨some 20, .move (.tmp 1), some (19, false), true⟩,
  ⟨some 21, .move (.tmp 0), some (19, false), true⟩,
  ⟨some 22, .binOp .eql 9 (.tmp 20) (.tmp 21) 9, some (19, false), true⟩,
  ⟨some 23, .pick (.tmp 19) (.const (.bool true)) (.tmp 22), none, true⟩,
  ⟨some 16, .assign (.tmp 23), none, true⟩]
theorem k81_r2_e : type_of% (@Eo_of P pr N e σ Q _ _ k81_r2.eq_1) := Eo_of k81_r2.eq_1
def k81_r3 : List COp := [
  ⟨some 4, .assign (.const (.int .i64 0)), none, true⟩]
theorem k81_r3_e : type_of% (@Eo_of P pr N e σ Q _ _ k81_r3.eq_1) := Eo_of k81_r3.eq_1
def k81_r4 : List COp := [
  ⟨some 25, .move (.tmp 5), none, true⟩,
  ⟨some 26, .binOp .eql 3 (.tmp 25) (.const (.int .i64 1)) 3, none, true⟩,
  ⟨some 24, .assign (.tmp 26), none, true⟩]
theorem k81_r4_e : type_of% (@Eo_of P pr N e σ Q _ _ k81_r4.eq_1) := Eo_of k81_r4.eq_1
def k81_r5 : List COp := [
  ⟨some 27, .move (.tmp 0), none, true⟩,
  ⟨some 28, .move (.tmp 1), none, true⟩,
  ⟨some 29, .index 9 (.tmp 28) (.const (.int .i64 0)), none, true⟩,
  ⟨some 30, .call { callee := .value (.func 83), args := #[.tmp 27, .tmp 29], argTypes := #[9, 5] }, none, true⟩,
  ⟨some 4, .assign (.tmp 30), none, true⟩]
theorem k81_r5_e : type_of% (@Eo_of P pr N e σ Q _ _ k81_r5.eq_1) := Eo_of k81_r5.eq_1
def k81_r6 : List COp := [
  ⟨some 32, .move (.tmp 5), none, true⟩,
  ⟨some 33, .move (.tmp 0), none, true⟩,
  ⟨some 34, .call { callee := .builtin .len, args := #[.tmp 33], argTypes := #[9] }, none, true⟩,
  ⟨some 35, .binOp .geq 3 (.tmp 32) (.tmp 34) 3, none, true⟩,
  ⟨some 31, .assign (.tmp 35), none, true⟩]
theorem k81_r6_e : type_of% (@Eo_of P pr N e σ Q _ _ k81_r6.eq_1) := Eo_of k81_r6.eq_1
def k81_r7 : List COp := [
  ⟨some 4, .assign (.const (.int .i64 (-1))), none, true⟩]
theorem k81_r7_e : type_of% (@Eo_of P pr N e σ Q _ _ k81_r7.eq_1) := Eo_of k81_r7.eq_1
def k81_r8 : List COp := [
  ⟨some 37, .move (.tmp 5), none, true⟩,
  ⟨some 38, .load 3 (.global 0), none, true⟩,
  ⟨some 39, .binOp .leq 3 (.tmp 37) (.tmp 38) 3, none, true⟩,
  ⟨some 40, .move (.tmp 39), none, true⟩,
  ⟨some 41, .move (.tmp 0), some (40, true), true⟩,
  ⟨some 42, .call { callee := .builtin .len, args := #[.tmp 41], argTypes := #[9] }, some (40, true), true⟩,
  ⟨some 43, .binOp .leq 3 (.tmp 42) (.const (.int .i64 64)) 3, some (40, true), true⟩,
  ⟨some 44, .pick (.tmp 40) (.tmp 43) (.const (.bool false)), none, true⟩,
  ⟨some 36, .assign (.tmp 44), none, true⟩]
theorem k81_r8_e : type_of% (@Eo_of P pr N e σ Q _ _ k81_r8.eq_1) := Eo_of k81_r8.eq_1
def k81_r9 : List COp := [
  ⟨some 45, .move (.tmp 0), none, true⟩,
  ⟨some 46, .move (.tmp 1), none, true⟩,
  ⟨some 47, .call { callee := .value (.func 84), args := #[.tmp 45, .tmp 46], argTypes := #[9, 9] }, none, true⟩,
  ⟨some 4, .assign (.tmp 47), none, true⟩]
theorem k81_r9_e : type_of% (@Eo_of P pr N e σ Q _ _ k81_r9.eq_1) := Eo_of k81_r9.eq_1
def k81_r10 : List COp := [
  ⟨some 48, .move (.tmp 1), none, true⟩,
  ⟨some 49, .index 9 (.tmp 48) (.const (.int .i64 0)), none, true⟩,
  ⟨some 6, .assign (.tmp 49), none, true⟩]
theorem k81_r10_e : type_of% (@Eo_of P pr N e σ Q _ _ k81_r10.eq_1) := Eo_of k81_r10.eq_1
def k81_r11 : List COp := [
  ⟨some 50, .move (.tmp 1), none, true⟩,
  ⟨some 51, .index 9 (.tmp 50) (.const (.int .i64 1)), none, true⟩,
  ⟨some 7, .assign (.tmp 51), none, true⟩]
theorem k81_r11_e : type_of% (@Eo_of P pr N e σ Q _ _ k81_r11.eq_1) := Eo_of k81_r11.eq_1
def k81_r12 : List COp := [
  ⟨some 8, .assign (.const (.int .i64 0)), none, true⟩]
theorem k81_r12_e : type_of% (@Eo_of P pr N e σ Q _ _ k81_r12.eq_1) := Eo_of k81_r12.eq_1
def k81_r13 : List COp := [
  ⟨some 52, .move (.tmp 0), none, true⟩,
  ⟨some 53, .call { callee := .builtin .len, args := #[.tmp 52], argTypes := #[9] }, none, true⟩,
  ⟨some 54, .move (.tmp 5), none, true⟩,
  ⟨some 55, .binOp .sub 3 (.tmp 53) (.tmp 54) 3, none, true⟩,
  ⟨some 56, .binOp .add 3 (.tmp 55) (.const (.int .i64 1)) 3, none, true⟩,
  ⟨some 9, .assign (.tmp 56), none, true⟩]
theorem k81_r13_e : type_of% (@Eo_of P pr N e σ Q _ _ k81_r13.eq_1) := Eo_of k81_r13.eq_1
def k81_r14 : List COp := [
  ⟨some 10, .assign (.const (.int .i64 0)), none, true⟩]
theorem k81_r14_e : type_of% (@Eo_of P pr N e σ Q _ _ k81_r14.eq_1) := Eo_of k81_r14.eq_1
def k81_r15 : List COp := [
  ⟨some 57, .move (.tmp 8), none, true⟩,
  ⟨some 58, .move (.tmp 9), none, true⟩,
  ⟨some 59, .binOp .lss 3 (.tmp 57) (.tmp 58) 3, none, true⟩]
theorem k81_r15_e : type_of% (@Eo_of P pr N e σ Q _ _ k81_r15.eq_1) := Eo_of k81_r15.eq_1
def k81_r16 : List COp := [
  ⟨some 60, .move (.tmp 0), none, true⟩,
  ⟨some 61, .move (.tmp 8), none, true⟩,
  ⟨some 62, .index 9 (.tmp 60) (.tmp 61), none, true⟩,
  ⟨some 63, .move (.tmp 6), none, true⟩,
  ⟨some 64, .binOp .neq 5 (.tmp 62) (.tmp 63) 5, none, true⟩]
theorem k81_r16_e : type_of% (@Eo_of P pr N e σ Q _ _ k81_r16.eq_1) := Eo_of k81_r16.eq_1
def k81_r17 : List COp := [
  ⟨some 65, .move (.tmp 0), none, true⟩,
  ⟨some 66, .move (.tmp 8), none, true⟩,
  ⟨some 67, .binOp .add 3 (.tmp 66) (.const (.int .i64 1)) 3, none, true⟩,
  ⟨some 68, .move (.tmp 9), none, true⟩,
  ⟨some 69, .slice 9 (.tmp 65) (some (.tmp 67)) (some (.tmp 68)) .none, none, true⟩,
  ⟨some 70, .move (.tmp 6), none, true⟩,
  ⟨some 71, .call { callee := .value (.func 83), args := #[.tmp 69, .tmp 70], argTypes := #[9, 5] }, none, true⟩,
  ⟨some 11, .assign (.tmp 71), none, true⟩]
theorem k81_r17_e : type_of% (@Eo_of P pr N e σ Q _ _ k81_r17.eq_1) := Eo_of k81_r17.eq_1
def k81_r18 : List COp := [
  ⟨some 72, .move (.tmp 11), none, true⟩,
  ⟨some 73, .binOp .lss 3 (.tmp 72) (.const (.int .i64 0)) 3, none, true⟩]
theorem k81_r18_e : type_of% (@Eo_of P pr N e σ Q _ _ k81_r18.eq_1) := Eo_of k81_r18.eq_1
def k81_r19 : List COp := [
  ⟨some 4, .assign (.const (.int .i64 (-1))), none, true⟩]
theorem k81_r19_e : type_of% (@Eo_of P pr N e σ Q _ _ k81_r19.eq_1) := Eo_of k81_r19.eq_1
def k81_r20 : List COp := [
  ⟨some 74, .move (.tmp 8), none, true⟩,
  ⟨some 75, .move (.tmp 11), none, true⟩,
  ⟨some 76, .binOp .add 3 (.tmp 75) (.const (.int .i64 1)) 3, none, true⟩,
  ⟨some 77, .binOp .add 3 (.tmp 74) (.tmp 76) 3, none, true⟩,
  ⟨some 8, .assign (.tmp 77), none, true⟩]
theorem k81_r20_e : type_of% (@Eo_of P pr N e σ Q _ _ k81_r20.eq_1) := Eo_of k81_r20.eq_1
def k81_r21 : List COp := [
  ⟨some 78, .move (.tmp 0), none, true⟩,
  ⟨some 79, .move (.tmp 8), none, true⟩,
  ⟨some 80, .binOp .add 3 (.tmp 79) (.const (.int .i64 1)) 3, none, true⟩,
  ⟨some 81, .index 9 (.tmp 78) (.tmp 80), none, true⟩,
  ⟨some 82, .move (.tmp 7), none, true⟩,
  ⟨some 83, .binOp .eql 5 (.tmp 81) (.tmp 82) 5, none, true⟩,
  ⟨some 84, .move (.tmp 83), none, true⟩,
  ⟨some 85, .move (.tmp 0), some (84, true), true⟩,
  ⟨some 86, .move (.tmp 8), some (84, true), true⟩,
  ⟨some 87, .move (.tmp 8), some (84, true), true⟩,
  ⟨some 88, .move (.tmp 5), some (84, true), true⟩,
  ⟨some 89, .binOp .add 3 (.tmp 87) (.tmp 88) 3, some (84, true), true⟩,
  ⟨some 90, .slice 9 (.tmp 85) (some (.tmp 86)) (some (.tmp 89)) .none, some (84, true), true⟩,
  ⟨some 91, .move (.tmp 1), some (84, true), true⟩,
  ⟨some 92, .binOp .eql 9 (.tmp 90) (.tmp 91) 9, some (84, true), true⟩,
  ⟨some 93, .pick (.tmp 84) (.tmp 92) (.const (.bool false)), none, true⟩]
theorem k81_r21_e : type_of% (@Eo_of P pr N e σ Q _ _ k81_r21.eq_1) := Eo_of k81_r21.eq_1
def k81_r22 : List COp := [
  ⟨some 94, .move (.tmp 8), none, true⟩,
  ⟨some 4, .assign (.tmp 94), none, true⟩]
theorem k81_r22_e : type_of% (@Eo_of P pr N e σ Q _ _ k81_r22.eq_1) := Eo_of k81_r22.eq_1
def k81_r23 : List COp := [
  ⟨some 95, .move (.tmp 8), none, true⟩,
  ⟨some 96, .binOp .add 3 (.tmp 95) (.const (.int .i64 1)) 3, none, true⟩,
  ⟨some 8, .assign (.tmp 96), none, true⟩]
theorem k81_r23_e : type_of% (@Eo_of P pr N e σ Q _ _ k81_r23.eq_1) := Eo_of k81_r23.eq_1
def k81_r24 : List COp := [
  ⟨some 97, .move (.tmp 10), none, true⟩,
  ⟨some 98, .binOp .add 3 (.tmp 97) (.const (.int .i64 1)) 3, none, true⟩,
  ⟨some 10, .assign (.tmp 98), none, true⟩]
theorem k81_r24_e : type_of% (@Eo_of P pr N e σ Q _ _ k81_r24.eq_1) := Eo_of k81_r24.eq_1
def k81_r25 : List COp := [
  ⟨some 99, .move (.tmp 5), none, true⟩,
  ⟨some 100, .load 3 (.global 0), none, true⟩,
  ⟨some 101, .binOp .leq 3 (.tmp 99) (.tmp 100) 3, none, true⟩,
  ⟨some 102, .move (.tmp 101), none, true⟩,
  ⟨some 103, .move (.tmp 10), some (102, true), true⟩,
  ⟨some 104, .move (.tmp 8), some (102, true), true⟩,
  ⟨some 105, .call { callee := .value (.func 85), args := #[.tmp 104], argTypes := #[3] }, some (102, true), true⟩,
  ⟨some 106, .binOp .gtr 3 (.tmp 103) (.tmp 105) 3, some (102, true), true⟩,
  ⟨some 107, .pick (.tmp 102) (.tmp 106) (.const (.bool false)), none, true⟩]
theorem k81_r25_e : type_of% (@Eo_of P pr N e σ Q _ _ k81_r25.eq_1) := Eo_of k81_r25.eq_1
def k81_r26 : List COp := [
  ⟨some 108, .move (.tmp 0), none, true⟩,
  ⟨some 109, .move (.tmp 8), none, true⟩,
  ⟨some 110, .slice 9 (.tmp 108) (some (.tmp 109)) .none .none, none, true⟩,
  ⟨some 111, .move (.tmp 1), none, true⟩,
  ⟨some 112, .call { callee := .value (.func 84), args := #[.tmp 110, .tmp 111], argTypes := #[9, 9] }, none, true⟩,
  ⟨some 12, .assign (.tmp 112), none, true⟩]
theorem k81_r26_e : type_of% (@Eo_of P pr N e σ Q _ _ k81_r26.eq_1) := Eo_of k81_r26.eq_1
def k81_r27 : List COp := [
  ⟨some 113, .move (.tmp 12), none, true⟩,
  ⟨some 114, .binOp .geq 3 (.tmp 113) (.const (.int .i64 0)) 3, none, true⟩]
theorem k81_r27_e : type_of% (@Eo_of P pr N e σ Q _ _ k81_r27.eq_1) := Eo_of k81_r27.eq_1
def k81_r28 : List COp := [
  ⟨some 115, .move (.tmp 12), none, true⟩,
  ⟨some 116, .move (.tmp 8), none, true⟩,
  ⟨some 117, .binOp .add 3 (.tmp 115) (.tmp 116) 3, none, true⟩,
  ⟨some 4, .assign (.tmp 117), none, true⟩]
theorem k81_r28_e : type_of% (@Eo_of P pr N e σ Q _ _ k81_r28.eq_1) := Eo_of k81_r28.eq_1
def k81_r29 : List COp := [
  ⟨some 4, .assign (.const (.int .i64 (-1))), none, true⟩]
theorem k81_r29_e : type_of% (@Eo_of P pr N e σ Q _ _ k81_r29.eq_1) := Eo_of k81_r29.eq_1
def k81_r30 : List COp := [
  ⟨some 118, .move (.tmp 5), none, true⟩,
  ⟨some 119, .load 3 (.global 0), none, true⟩,
  ⟨some 120, .binOp .gtr 3 (.tmp 118) (.tmp 119) 3, none, true⟩,
  ⟨some 121, .move (.tmp 120), none, true⟩,
  ⟨some 122, .move (.tmp 10), some (121, true), true⟩,
  ⟨some 123, .move (.tmp 8), some (121, true), true⟩,
  ⟨some 124, .binOp .shr 3 (.tmp 123) (.const (.int .u64 4)) 97, some (121, true), true⟩,
  ⟨some 125, .binOp .add 3 (.const (.int .i64 4)) (.tmp 124) 3, some (121, true), true⟩,
  ⟨some 126, .binOp .geq 3 (.tmp 122) (.tmp 125) 3, some (121, true), true⟩,
  ⟨some 127, .pick (.tmp 121) (.tmp 126) (.const (.bool false)), none, true⟩,
  ⟨some 128, .move (.tmp 127), none, true⟩,
  ⟨some 129, .move (.tmp 8), some (128, true), true⟩,
  ⟨some 130, .move (.tmp 9), some (128, true), true⟩,
  ⟨some 131, .binOp .lss 3 (.tmp 129) (.tmp 130) 3, some (128, true), true⟩,
  ⟨some 132, .pick (.tmp 128) (.tmp 131) (.const (.bool false)), none, true⟩]
theorem k81_r30_e : type_of% (@Eo_of P pr N e σ Q _ _ k81_r30.eq_1) := Eo_of k81_r30.eq_1
def k81_r31 : List COp := [
  ⟨some 133, .move (.tmp 0), none, true⟩,
  ⟨some 134, .move (.tmp 8), none, true⟩,
  ⟨some 135, .slice 9 (.tmp 133) (some (.tmp 134)) .none .none, none, true⟩,
  ⟨some 136, .move (.tmp 1), none, true⟩,
  ⟨some 137, .call { callee := .value (.func 86), args := #[.tmp 135, .tmp 136], argTypes := #[9, 9] }, none, true⟩,
  ⟨some 13, .assign (.tmp 137), none, true⟩]
theorem k81_r31_e : type_of% (@Eo_of P pr N e σ Q _ _ k81_r31.eq_1) := Eo_of k81_r31.eq_1
def k81_r32 : List COp := [
  ⟨some 138, .move (.tmp 13), none, true⟩,
  ⟨some 139, .binOp .lss 3 (.tmp 138) (.const (.int .i64 0)) 3, none, true⟩]
theorem k81_r32_e : type_of% (@Eo_of P pr N e σ Q _ _ k81_r32.eq_1) := Eo_of k81_r32.eq_1
def k81_r33 : List COp := [
  ⟨some 4, .assign (.const (.int .i64 (-1))), none, true⟩]
theorem k81_r33_e : type_of% (@Eo_of P pr N e σ Q _ _ k81_r33.eq_1) := Eo_of k81_r33.eq_1
def k81_r34 : List COp := [
  ⟨some 140, .move (.tmp 8), none, true⟩,
  ⟨some 141, .move (.tmp 13), none, true⟩,
  ⟨some 142, .binOp .add 3 (.tmp 140) (.tmp 141) 3, none, true⟩,
  ⟨some 4, .assign (.tmp 142), none, true⟩]
theorem k81_r34_e : type_of% (@Eo_of P pr N e σ Q _ _ k81_r34.eq_1) := Eo_of k81_r34.eq_1
def k81_l0 : CC := (.seq (.seq (.region k81_r15) (.cond (.tmp 59) .skip (.exit 1))) (.block 2 (.seq (.seq (.region k81_r16) (.cond (.tmp 64) (.seq (.region k81_r17) (.seq (.seq (.region k81_r18) (.cond (.tmp 73) (.seq (.region k81_r19) .ret) .skip)) (.region k81_r20))) .skip)) (.seq (.seq (.region k81_r21) (.cond (.tmp 93) (.seq (.region k81_r22) .ret) .skip)) (.seq (.region k81_r23) (.seq (.region k81_r24) (.seq (.region k81_r25) (.cond (.tmp 107) (.seq (.region k81_r26) (.seq (.seq (.region k81_r27) (.cond (.tmp 114) (.seq (.region k81_r28) .ret) .skip)) (.seq (.region k81_r29) .ret))) (.seq (.region k81_r30) (.cond (.tmp 132) (.seq (.region k81_r31) (.seq (.seq (.region k81_r32) (.cond (.tmp 139) (.seq (.region k81_r33) .ret) .skip)) (.seq (.region k81_r34) .ret))) .skip))))))))))
theorem k81_l0_e : type_of% (@Ev_of P pr N e σ Q _ _ k81_l0.eq_1) := Ev_of k81_l0.eq_1
def k81_r35 : List COp := [
  ⟨some 4, .assign (.const (.int .i64 (-1))), none, true⟩]
theorem k81_r35_e : type_of% (@Eo_of P pr N e σ Q _ _ k81_r35.eq_1) := Eo_of k81_r35.eq_1
def k81 : CC := (.seq (.region k81_r0) (.seq (.region k81_r1) (.seq (.block 0 (.seq (.region k81_r2) (.cond (.tmp 16) (.seq (.region k81_r3) .ret) (.seq (.region k81_r4) (.cond (.tmp 24) (.seq (.region k81_r5) .ret) (.seq (.region k81_r6) (.cond (.tmp 31) (.seq (.region k81_r7) .ret) (.seq (.region k81_r8) (.cond (.tmp 36) (.seq (.region k81_r9) .ret) .skip))))))))) (.seq (.region k81_r10) (.seq (.region k81_r11) (.seq (.region k81_r12) (.seq (.region k81_r13) (.seq (.region k81_r14) (.seq (.block 1 (.loop k81_l0)) (.seq (.region k81_r35) .ret))))))))))
theorem k81_e : type_of% (@Ev_of P pr N e σ Q _ _ k81.eq_1) := Ev_of k81.eq_1
theorem k81_a : type_of% @k81_e ∧ type_of% @k81_r0_e ∧ type_of% @k81_r1_e ∧ type_of% @k81_r2_e ∧ type_of% @k81_r3_e ∧ type_of% @k81_r4_e ∧ type_of% @k81_r5_e ∧ type_of% @k81_r6_e ∧ type_of% @k81_r7_e ∧ type_of% @k81_r8_e ∧ type_of% @k81_r9_e ∧ type_of% @k81_r10_e ∧ type_of% @k81_r11_e ∧ type_of% @k81_r12_e ∧ type_of% @k81_r13_e ∧ type_of% @k81_r14_e ∧ type_of% @k81_r15_e ∧ type_of% @k81_r16_e ∧ type_of% @k81_r17_e ∧ type_of% @k81_r18_e ∧ type_of% @k81_r19_e ∧ type_of% @k81_r20_e ∧ type_of% @k81_r21_e ∧ type_of% @k81_r22_e ∧ type_of% @k81_r23_e ∧ type_of% @k81_r24_e ∧ type_of% @k81_r25_e ∧ type_of% @k81_r26_e ∧ type_of% @k81_r27_e ∧ type_of% @k81_r28_e ∧ type_of% @k81_r29_e ∧ type_of% @k81_r30_e ∧ type_of% @k81_r31_e ∧ type_of% @k81_r32_e ∧ type_of% @k81_r33_e ∧ type_of% @k81_r34_e ∧ type_of% @k81_l0_e ∧ type_of% @k81_r35_e := ⟨@k81_e, @k81_r0_e, @k81_r1_e, @k81_r2_e, @k81_r3_e, @k81_r4_e, @k81_r5_e, @k81_r6_e, @k81_r7_e, @k81_r8_e, @k81_r9_e, @k81_r10_e, @k81_r11_e, @k81_r12_e, @k81_r13_e, @k81_r14_e, @k81_r15_e, @k81_r16_e, @k81_r17_e, @k81_r18_e, @k81_r19_e, @k81_r20_e, @k81_r21_e, @k81_r22_e, @k81_r23_e, @k81_r24_e, @k81_r25_e, @k81_r26_e, @k81_r27_e, @k81_r28_e, @k81_r29_e, @k81_r30_e, @k81_r31_e, @k81_r32_e, @k81_r33_e, @k81_r34_e, @k81_l0_e, @k81_r35_e⟩
/-- internal/stringslite.Index -/
theorem k81_is : FnIs Try.prog prims 81 143 [ResultVar.tmp 4] k81 := FnIs.of_fn Try.func81 (by kernel_rfl) rfl
def k70_r0 : List COp := [
  ⟨some 4, .assign (.const (.int .i64 0)), none, true⟩]
theorem k70_r0_e : type_of% (@Eo_of P pr N e σ Q _ _ k70_r0.eq_1) := Eo_of k70_r0.eq_1
def k70_r1 : List COp := [
  ⟨some 6, .move (.tmp 0), none, true⟩,
  ⟨some 7, .call { callee := .builtin .len, args := #[.tmp 6], argTypes := #[22] }, none, true⟩,
  ⟨some 8, .move (.const (.int .i64 0)), none, true⟩]
theorem k70_r1_e : type_of% (@Eo_of P pr N e σ Q _ _ k70_r1.eq_1) := Eo_of k70_r1.eq_1
def k70_r2 : List COp := [
  ⟨some 9, .binOp .lss 3 (.tmp 8) (.tmp 7) 3, none, true⟩]
theorem k70_r2_e : type_of% (@Eo_of P pr N e σ Q _ _ k70_r2.eq_1) := Eo_of k70_r2.eq_1
def k70_r3 : List COp := [
  ⟨some 10, .move (.tmp 8), none, true⟩,
  ⟨some 5, .assign (.tmp 10), none, true⟩]
theorem k70_r3_e : type_of% (@Eo_of P pr N e σ Q _ _ k70_r3.eq_1) := Eo_of k70_r3.eq_1
def k70_r4 : List COp := [
  ⟨some 11, .move (.tmp 1), none, true⟩,
  ⟨some 12, .move (.tmp 0), none, true⟩,
  ⟨some 13, .move (.tmp 5), none, true⟩,
  ⟨some 14, .indexAddr 22 (.tmp 12) (.tmp 13), none, true⟩,
  ⟨some 15, .load 29 (.tmp 14), none, true⟩,
  ⟨some 16, .call { callee := .value (.tmp 11), args := #[.tmp 15], argTypes := #[29] }, none, true⟩]
theorem k70_r4_e : type_of% (@Eo_of P pr N e σ Q _ _ k70_r4.eq_1) := Eo_of k70_r4.eq_1
def k70_r5 : List COp := [
  ⟨some 17, .move (.tmp 5), none, true⟩,
  ⟨some 4, .assign (.tmp 17), none, true⟩]
theorem k70_r5_e : type_of% (@Eo_of P pr N e σ Q _ _ k70_r5.eq_1) := Eo_of k70_r5.eq_1
def k70_r6 : List COp := [
  ⟨some 18, .binOp .add 3 (.tmp 8) (.const (.int .i64 1)) 3, none, true⟩,
  ⟨some 8, .move (.tmp 18), none, true⟩]
theorem k70_r6_e : type_of% (@Eo_of P pr N e σ Q _ _ k70_r6.eq_1) := Eo_of k70_r6.eq_1
def k70_l0 : CC := (.seq (.region k70_r2) (.seq (.cond (.tmp 9) .skip (.exit 0)) (.seq (.block 1 (.seq (.region k70_r3) (.seq (.region k70_r4) (.cond (.tmp 16) (.seq (.region k70_r5) .ret) .skip)))) (.region k70_r6))))
theorem k70_l0_e : type_of% (@Ev_of P pr N e σ Q _ _ k70_l0.eq_1) := Ev_of k70_l0.eq_1
def k70_r7 : List COp := [
  ⟨some 4, .assign (.const (.int .i64 (-1))), none, true⟩]
theorem k70_r7_e : type_of% (@Eo_of P pr N e σ Q _ _ k70_r7.eq_1) := Eo_of k70_r7.eq_1
def k70 : CC := (.seq (.region k70_r0) (.seq (.seq (.region k70_r1) (.block 0 (.loop k70_l0))) (.seq (.region k70_r7) .ret)))
theorem k70_e : type_of% (@Ev_of P pr N e σ Q _ _ k70.eq_1) := Ev_of k70.eq_1
theorem k70_a : type_of% @k70_e ∧ type_of% @k70_r0_e ∧ type_of% @k70_r1_e ∧ type_of% @k70_r2_e ∧ type_of% @k70_r3_e ∧ type_of% @k70_r4_e ∧ type_of% @k70_r5_e ∧ type_of% @k70_r6_e ∧ type_of% @k70_l0_e ∧ type_of% @k70_r7_e := ⟨@k70_e, @k70_r0_e, @k70_r1_e, @k70_r2_e, @k70_r3_e, @k70_r4_e, @k70_r5_e, @k70_r6_e, @k70_l0_e, @k70_r7_e⟩
/-- slices.IndexFunc[[]quern/api.Value,quern/api.Value] -/
theorem k70_is : FnIs Try.prog prims 70 19 [ResultVar.tmp 4] k70 := FnIs.of_fn Try.func70 (by kernel_rfl) rfl
def k53_r0 : List COp := [
  ⟨some 2, .assign (.const (.int .i64 0)), none, true⟩,
  ⟨some 3, .assign (.const (.int .i64 0)), none, true⟩]
theorem k53_r0_e : type_of% (@Eo_of P pr N e σ Q _ _ k53_r0.eq_1) := Eo_of k53_r0.eq_1
def k53_r1 : List COp := [
  ⟨some 4, .assign (.const (.int .i64 0)), none, true⟩]
theorem k53_r1_e : type_of% (@Eo_of P pr N e σ Q _ _ k53_r1.eq_1) := Eo_of k53_r1.eq_1
def k53_r2 : List COp := [
  ⟨some 5, .assign (.const (.int .i64 0)), none, true⟩]
theorem k53_r2_e : type_of% (@Eo_of P pr N e σ Q _ _ k53_r2.eq_1) := Eo_of k53_r2.eq_1
def k53_r3 : List COp := [
  ⟨some 6, .move (.tmp 5), none, true⟩,
  ⟨some 7, .move (.tmp 0), none, true⟩,
  ⟨some 8, .call { callee := .builtin .len, args := #[.tmp 7], argTypes := #[41] }, none, true⟩,
  ⟨some 9, .binOp .lss 3 (.tmp 6) (.tmp 8) 3, none, true⟩,
  ⟨some 10, .move (.tmp 9), none, true⟩,
  ⟨some 11, .move (.tmp 5), some (10, true), true⟩,
  ⟨some 12, .binOp .lss 3 (.tmp 11) (.const (.int .i64 9)) 3, some (10, true), true⟩,
  ⟨some 13, .pick (.tmp 10) (.tmp 12) (.const (.bool false)), none, true⟩]
theorem k53_r3_e : type_of% (@Eo_of P pr N e σ Q _ _ k53_r3.eq_1) := Eo_of k53_r3.eq_1
def k53_r5 : List COp := [
  ⟨some 16, .move (.tmp 4), none, true⟩,
  ⟨some 17, .move (.tmp 0), none, true⟩,
  ⟨some 18, .move (.tmp 5), none, true⟩,
  ⟨some 19, .indexAddr 41 (.tmp 17) (.tmp 18), none, true⟩,
  ⟨some 20, .load 5 (.tmp 19), none, true⟩,
  ⟨some 21, .binOp .and 5 (.tmp 20) (.const (.int .u8 127)) 5, none, true⟩,
  ⟨some 22, .convert 5 3 (.tmp 21), none, true⟩,
  ⟨some 23, .move (.tmp 5), none, true⟩,
  ⟨some 24, .binOp .mul 3 (.const (.int .i64 7)) (.tmp 23) 3, none, true⟩,
  ⟨some 25, .binOp .shl 3 (.tmp 22) (.tmp 24) 3, none, true⟩,
  ⟨some 26, .binOp .or 3 (.tmp 16) (.tmp 25) 3, none, true⟩,
  ⟨some 4, .assign (.tmp 26), none, true⟩]
theorem k53_r5_e : type_of% (@Eo_of P pr N e σ Q _ _ k53_r5.eq_1) := Eo_of k53_r5.eq_1
def k53_r6 : List COp := [
  ⟨some 27, .move (.tmp 0), none, true⟩,
  ⟨some 28, .move (.tmp 5), none, true⟩,
  ⟨some 29, .indexAddr 41 (.tmp 27) (.tmp 28), none, true⟩,
  ⟨some 30, .load 5 (.tmp 29), none, true⟩,
  ⟨some 31, .binOp .gtr 5 (.tmp 30) (.const (.int .u8 127)) 5, none, true⟩]
theorem k53_r6_e : type_of% (@Eo_of P pr N e σ Q _ _ k53_r6.eq_1) := Eo_of k53_r6.eq_1
def k53_r7 : List COp := [
  ⟨some 32, .move (.tmp 0), none, true⟩,
  ⟨some 33, .move (.tmp 5), none, true⟩,
  ⟨some 34, .indexAddr 41 (.tmp 32) (.tmp 33), none, true⟩,
  ⟨some 35, .load 5 (.tmp 34), none, true⟩,
  ⟨some 36, .binOp .eql 5 (.tmp 35) (.const (.int .u8 0)) 5, none, true⟩,
  ⟨some 37, .move (.tmp 36), none, true⟩,
  ⟨some 38, .move (.tmp 5), some (37, true), true⟩,
  ⟨some 39, .binOp .gtr 3 (.tmp 38) (.const (.int .i64 0)) 3, some (37, true), true⟩,
  ⟨some 40, .pick (.tmp 37) (.tmp 39) (.const (.bool false)), none, true⟩]
theorem k53_r7_e : type_of% (@Eo_of P pr N e σ Q _ _ k53_r7.eq_1) := Eo_of k53_r7.eq_1
def k53_r8 : List COp := [
  ⟨some 41, .move (.tmp 4), none, true⟩,
  ⟨some 42, .move (.tmp 5), none, true⟩,
  ⟨some 43, .binOp .add 3 (.tmp 42) (.const (.int .i64 1)) 3, none, true⟩,
  ⟨some 2, .assign (.tmp 41), none, true⟩,
  ⟨some 3, .assign (.tmp 43), none, true⟩]
theorem k53_r8_e : type_of% (@Eo_of P pr N e σ Q _ _ k53_r8.eq_1) := Eo_of k53_r8.eq_1
def k53_r4 : List COp := [
  ⟨some 14, .move (.tmp 5), none, true⟩,
  ⟨some 15, .binOp .add 3 (.tmp 14) (.const (.int .i64 1)) 3, none, true⟩,
  ⟨some 5, .assign (.tmp 15), none, true⟩]
theorem k53_r4_e : type_of% (@Eo_of P pr N e σ Q _ _ k53_r4.eq_1) := Eo_of k53_r4.eq_1
def k53_l0 : CC := (.seq (.seq (.region k53_r3) (.cond (.tmp 13) .skip (.exit 0))) (.seq (.block 1 (.seq (.region k53_r5) (.seq (.seq (.region k53_r6) (.cond (.tmp 31) (.exit 1) .skip)) (.seq (.seq (.region k53_r7) (.cond (.tmp 40) (.exit 0) .skip)) (.seq (.region k53_r8) .ret))))) (.region k53_r4)))
theorem k53_l0_e : type_of% (@Ev_of P pr N e σ Q _ _ k53_l0.eq_1) := Ev_of k53_l0.eq_1
def k53_r9 : List COp := [
  ⟨some 2, .assign (.const (.int .i64 0)), none, true⟩,
  ⟨some 3, .assign (.const (.int .i64 0)), none, true⟩]
theorem k53_r9_e : type_of% (@Eo_of P pr N e σ Q _ _ k53_r9.eq_1) := Eo_of k53_r9.eq_1
def k53 : CC := (.seq (.region k53_r0) (.seq (.region k53_r1) (.seq (.seq (.region k53_r2) (.block 0 (.loop k53_l0))) (.seq (.region k53_r9) .ret))))
theorem k53_e : type_of% (@Ev_of P pr N e σ Q _ _ k53.eq_1) := Ev_of k53.eq_1
theorem k53_a : type_of% @k53_e ∧ type_of% @k53_r0_e ∧ type_of% @k53_r1_e ∧ type_of% @k53_r2_e ∧ type_of% @k53_r3_e ∧ type_of% @k53_r5_e ∧ type_of% @k53_r6_e ∧ type_of% @k53_r7_e ∧ type_of% @k53_r8_e ∧ type_of% @k53_r4_e ∧ type_of% @k53_l0_e ∧ type_of% @k53_r9_e := ⟨@k53_e, @k53_r0_e, @k53_r1_e, @k53_r2_e, @k53_r3_e, @k53_r5_e, @k53_r6_e, @k53_r7_e, @k53_r8_e, @k53_r4_e, @k53_l0_e, @k53_r9_e⟩
/-- quern/pack.Take -/
theorem k53_is : FnIs Try.prog prims 53 44 [ResultVar.tmp 2, ResultVar.tmp 3] k53 := FnIs.of_fn Try.func53 (by kernel_rfl) rfl
def k55_r0 : List COp := [
  ⟨some 2, .assign (.const (.int .i64 0)), none, true⟩,
  ⟨some 3, .assign (.const (.int .i64 0)), none, true⟩]
theorem k55_r0_e : type_of% (@Eo_of P pr N e σ Q _ _ k55_r0.eq_1) := Eo_of k55_r0.eq_1
def k55_r1 : List COp := [
  ⟨some 4, .assign (.const (.int .i64 0)), none, true⟩]
theorem k55_r1_e : type_of% (@Eo_of P pr N e σ Q _ _ k55_r1.eq_1) := Eo_of k55_r1.eq_1
def k55_r2 : List COp := [
  ⟨some 7, .move (.tmp 4), none, true⟩,
  ⟨some 8, .move (.tmp 0), none, true⟩,
  ⟨some 9, .call { callee := .builtin .len, args := #[.tmp 8], argTypes := #[41] }, none, true⟩,
  ⟨some 10, .binOp .lss 3 (.tmp 7) (.tmp 9) 3, none, true⟩,
  ⟨some 11, .move (.tmp 10), none, true⟩,
  ⟨some 12, .move (.tmp 0), some (11, true), true⟩,
  ⟨some 13, .move (.tmp 4), some (11, true), true⟩,
  ⟨some 14, .indexAddr 41 (.tmp 12) (.tmp 13), some (11, true), true⟩,
  ⟨some 15, .load 5 (.tmp 14), some (11, true), true⟩,
  ⟨some 16, .binOp .geq 5 (.tmp 15) (.const (.int .u8 128)) 5, some (11, true), true⟩,
  ⟨some 17, .pick (.tmp 11) (.tmp 16) (.const (.bool false)), none, true⟩]
theorem k55_r2_e : type_of% (@Eo_of P pr N e σ Q _ _ k55_r2.eq_1) := Eo_of k55_r2.eq_1
def k55_r3 : List COp := [
  ⟨some 18, .move (.tmp 4), none, true⟩,
  ⟨some 19, .binOp .add 3 (.tmp 18) (.const (.int .i64 1)) 3, none, true⟩,
  ⟨some 4, .assign (.tmp 19), none, true⟩]
theorem k55_r3_e : type_of% (@Eo_of P pr N e σ Q _ _ k55_r3.eq_1) := Eo_of k55_r3.eq_1
def k55_l0 : CC := (.seq (.seq (.region k55_r2) (.cond (.tmp 17) .skip (.exit 0))) (.block 1 (.region k55_r3)))
theorem k55_l0_e : type_of% (@Ev_of P pr N e σ Q _ _ k55_l0.eq_1) := Ev_of k55_l0.eq_1
def k55_r4 : List COp := [
  ⟨some 20, .move (.tmp 4), none, true⟩,
  ⟨some 21, .move (.tmp 0), none, true⟩,
  ⟨some 22, .call { callee := .builtin .len, args := #[.tmp 21], argTypes := #[41] }, none, true⟩,
  ⟨some 23, .binOp .geq 3 (.tmp 20) (.tmp 22) 3, none, true⟩,
  ⟨some 24, .move (.tmp 23), none, true⟩,
  ⟨some 25, .move (.tmp 4), some (24, false), true⟩,
  ⟨some 26, .binOp .geq 3 (.tmp 25) (.const (.int .i64 9)) 3, some (24, false), true⟩,
  ⟨some 27, .pick (.tmp 24) (.const (.bool true)) (.tmp 26), none, true⟩,
  ⟨some 28, .move (.tmp 27), none, true⟩,
  ⟨some 29, .move (.tmp 4), some (28, false), true⟩,
  ⟨some 30, .binOp .gtr 3 (.tmp 29) (.const (.int .i64 0)) 3, some (28, false), true⟩,
  ⟨some 31, .move (.tmp 30), some (28, false), true⟩,
  ⟨some 32, .move (.tmp 0), some (31, true), true⟩,
  ⟨some 33, .move (.tmp 4), some (31, true), true⟩,
  ⟨some 34, .indexAddr 41 (.tmp 32) (.tmp 33), some (31, true), true⟩,
  ⟨some 35, .load 5 (.tmp 34), some (31, true), true⟩,
  ⟨some 36, .binOp .eql 5 (.tmp 35) (.const (.int .u8 0)) 5, some (31, true), true⟩,
  ⟨some 37, .pick (.tmp 31) (.tmp 36) (.const (.bool false)), some (28, false), true⟩,
  ⟨some 38, .pick (.tmp 28) (.const (.bool true)) (.tmp 37), none, true⟩]
theorem k55_r4_e : type_of% (@Eo_of P pr N e σ Q _ _ k55_r4.eq_1) := Eo_of k55_r4.eq_1
def k55_r5 : List COp := [
  ⟨some 2, .assign (.const (.int .i64 0)), none, true⟩,
  ⟨some 3, .assign (.const (.int .i64 0)), none, true⟩]
theorem k55_r5_e : type_of% (@Eo_of P pr N e σ Q _ _ k55_r5.eq_1) := Eo_of k55_r5.eq_1
def k55_r6 : List COp := [
  ⟨some 5, .assign (.const (.int .i64 0)), none, true⟩]
theorem k55_r6_e : type_of% (@Eo_of P pr N e σ Q _ _ k55_r6.eq_1) := Eo_of k55_r6.eq_1
def k55_r7 : List COp := [
  ⟨some 39, .move (.tmp 4), none, true⟩,
  ⟨some 6, .assign (.tmp 39), none, true⟩]
theorem k55_r7_e : type_of% (@Eo_of P pr N e σ Q _ _ k55_r7.eq_1) := Eo_of k55_r7.eq_1
def k55_r8 : List COp := [
  ⟨some 40, .move (.tmp 6), none, true⟩,
  ⟨some 41, .binOp .geq 3 (.tmp 40) (.const (.int .i64 0)) 3, none, true⟩]
theorem k55_r8_e : type_of% (@Eo_of P pr N e σ Q _ _ k55_r8.eq_1) := Eo_of k55_r8.eq_1
def k55_r10 : List COp := [
  ⟨some 44, .move (.tmp 5), none, true⟩,
  ⟨some 45, .binOp .mul 3 (.tmp 44) (.const (.int .i64 128)) 3, none, true⟩,
  ⟨some 46, .move (.tmp 0), none, true⟩,
  ⟨some 47, .move (.tmp 6), none, true⟩,
  ⟨some 48, .indexAddr 41 (.tmp 46) (.tmp 47), none, true⟩,
  ⟨some 49, .load 5 (.tmp 48), none, true⟩,
  ⟨some 50, .convert 5 3 (.tmp 49), none, true⟩,
  ⟨some 51, .binOp .rem 3 (.tmp 50) (.const (.int .i64 128)) 3, none, true⟩,
  ⟨some 52, .binOp .add 3 (.tmp 45) (.tmp 51) 3, none, true⟩,
  ⟨some 5, .assign (.tmp 52), none, true⟩]
theorem k55_r10_e : type_of% (@Eo_of P pr N e σ Q _ _ k55_r10.eq_1) := Eo_of k55_r10.eq_1
def k55_r9 : List COp := [
  ⟨some 42, .move (.tmp 6), none, true⟩,
  ⟨some 43, .binOp .sub 3 (.tmp 42) (.const (.int .i64 1)) 3, none, true⟩,
  ⟨some 6, .assign (.tmp 43), none, true⟩]
theorem k55_r9_e : type_of% (@Eo_of P pr N e σ Q _ _ k55_r9.eq_1) := Eo_of k55_r9.eq_1
def k55_l1 : CC := (.seq (.seq (.region k55_r8) (.cond (.tmp 41) .skip (.exit 2))) (.seq (.block 3 (.region k55_r10)) (.region k55_r9)))
theorem k55_l1_e : type_of% (@Ev_of P pr N e σ Q _ _ k55_l1.eq_1) := Ev_of k55_l1.eq_1
def k55_r11 : List COp := [
  ⟨some 53, .move (.tmp 5), none, true⟩,
  ⟨some 54, .move (.tmp 4), none, true⟩,
  ⟨some 55, .binOp .add 3 (.tmp 54) (.const (.int .i64 1)) 3, none, true⟩,
  ⟨some 2, .assign (.tmp 53), none, true⟩,
  ⟨some 3, .assign (.tmp 55), none, true⟩]
theorem k55_r11_e : type_of% (@Eo_of P pr N e σ Q _ _ k55_r11.eq_1) := Eo_of k55_r11.eq_1
def k55 : CC := (.seq (.region k55_r0) (.seq (.region k55_r1) (.seq (.block 0 (.loop k55_l0)) (.seq (.seq (.region k55_r4) (.cond (.tmp 38) (.seq (.region k55_r5) .ret) .skip)) (.seq (.region k55_r6) (.seq (.seq (.region k55_r7) (.block 2 (.loop k55_l1))) (.seq (.region k55_r11) .ret)))))))
theorem k55_e : type_of% (@Ev_of P pr N e σ Q _ _ k55.eq_1) := Ev_of k55.eq_1
theorem k55_a : type_of% @k55_e ∧ type_of% @k55_r0_e ∧ type_of% @k55_r1_e ∧ type_of% @k55_r2_e ∧ type_of% @k55_r3_e ∧ type_of% @k55_l0_e ∧ type_of% @k55_r4_e ∧ type_of% @k55_r5_e ∧ type_of% @k55_r6_e ∧ type_of% @k55_r7_e ∧ type_of% @k55_r8_e ∧ type_of% @k55_r10_e ∧ type_of% @k55_r9_e ∧ type_of% @k55_l1_e ∧ type_of% @k55_r11_e := ⟨@k55_e, @k55_r0_e, @k55_r1_e, @k55_r2_e, @k55_r3_e, @k55_l0_e, @k55_r4_e, @k55_r5_e, @k55_r6_e, @k55_r7_e, @k55_r8_e, @k55_r10_e, @k55_r9_e, @k55_l1_e, @k55_r11_e⟩
/-- quern/quernref01.Take -/
theorem k55_is : FnIs Try.prog prims 55 56 [ResultVar.tmp 2, ResultVar.tmp 3] k55 := FnIs.of_fn Try.func55 (by kernel_rfl) rfl
def k76_r0 : List COp := [
  ⟨some 4, .assign (.const (.string { data := #[] })), none, true⟩,
  ⟨some 5, .assign (.const (.bool false)), none, true⟩]
theorem k76_r0_e : type_of% (@Eo_of P pr N e σ Q _ _ k76_r0.eq_1) := Eo_of k76_r0.eq_1
def k76_r1 : List COp := [
  ⟨some 6, .move (.tmp 0), none, true⟩,
  ⟨some 7, .move (.tmp 1), none, true⟩,
  ⟨some 8, .call { callee := .value (.func 80), args := #[.tmp 6, .tmp 7], argTypes := #[9, 9] }, none, true⟩,
  ⟨some 9, .unOp .not 4 (.tmp 8), none, true⟩]
theorem k76_r1_e : type_of% (@Eo_of P pr N e σ Q _ _ k76_r1.eq_1) := Eo_of k76_r1.eq_1
def k76_r2 : List COp := [
  ⟨some 10, .move (.tmp 0), none, true⟩,
  ⟨some 4, .assign (.tmp 10), none, true⟩,
  ⟨some 5, .assign (.const (.bool false)), none, true⟩]
theorem k76_r2_e : type_of% (@Eo_of P pr N e σ Q _ _ k76_r2.eq_1) := Eo_of k76_r2.eq_1
def k76_r3 : List COp := [
  ⟨some 11, .move (.tmp 0), none, true⟩,
  ⟨some 12, .move (.tmp 1), none, true⟩,
  ⟨some 13, .call { callee := .builtin .len, args := #[.tmp 12], argTypes := #[9] }, none, true⟩,
  ⟨some 14, .slice 9 (.tmp 11) (some (.tmp 13)) .none .none, none, true⟩,
  ⟨some 4, .assign (.tmp 14), none, true⟩,
  ⟨some 5, .assign (.const (.bool true)), none, true⟩]
theorem k76_r3_e : type_of% (@Eo_of P pr N e σ Q _ _ k76_r3.eq_1) := Eo_of k76_r3.eq_1
def k76 : CC := (.seq (.region k76_r0) (.seq (.seq (.region k76_r1) (.cond (.tmp 9) (.seq (.region k76_r2) .ret) .skip)) (.seq (.region k76_r3) .ret)))
theorem k76_e : type_of% (@Ev_of P pr N e σ Q _ _ k76.eq_1) := Ev_of k76.eq_1
theorem k76_a : type_of% @k76_e ∧ type_of% @k76_r0_e ∧ type_of% @k76_r1_e ∧ type_of% @k76_r2_e ∧ type_of% @k76_r3_e := ⟨@k76_e, @k76_r0_e, @k76_r1_e, @k76_r2_e, @k76_r3_e⟩
/-- internal/stringslite.CutPrefix -/
theorem k76_is : FnIs Try.prog prims 76 15 [ResultVar.tmp 4, ResultVar.tmp 5] k76 := FnIs.of_fn Try.func76 (by kernel_rfl) rfl
def k80_r0 : List COp := [
  ⟨some 4, .assign (.const (.bool false)), none, true⟩]
theorem k80_r0_e : type_of% (@Eo_of P pr N e σ Q _ _ k80_r0.eq_1) := Eo_of k80_r0.eq_1
def k80_r1 : List COp := [
  ⟨some 5, .move (.tmp 0), none, true⟩,
  ⟨some 6, .call { callee := .builtin .len, args := #[.tmp 5], argTypes := #[9] }, none, true⟩,
  ⟨some 7, .move (.tmp 1), none, true⟩,
  ⟨some 8, .call { callee := .builtin .len, args := #[.tmp 7], argTypes := #[9] }, none, true⟩,
  ⟨some 9, .binOp .geq 3 (.tmp 6) (.tmp 8) 3, none, true⟩,
  ⟨some 10, .move (.tmp 9), none, true⟩,
  ⟨some 11, .move (.tmp 0), some (10, true), true⟩,
  ⟨some 12, .move (.tmp 1), some (10, true), true⟩,
  ⟨some 13, .call { callee := .builtin .len, args := #[.tmp 12], argTypes := #[9] }, some (10, true), true⟩,
  ⟨some 14, .slice 9 (.tmp 11) .none (some (.tmp 13)) .none, some (10, true), true⟩,
  ⟨some 15, .move (.tmp 1), some (10, true), true⟩,
  ⟨some 16, .binOp .eql 9 (.tmp 14) (.tmp 15) 9, some (10, true), true⟩,
  ⟨some 17, .pick (.tmp 10) (.tmp 16) (.const (.bool false)), none, true⟩,
  ⟨some 4, .assign (.tmp 17), none, true⟩]
theorem k80_r1_e : type_of% (@Eo_of P pr N e σ Q _ _ k80_r1.eq_1) := Eo_of k80_r1.eq_1
def k80 : CC := (.seq (.region k80_r0) (.seq (.region k80_r1) .ret))
theorem k80_e : type_of% (@Ev_of P pr N e σ Q _ _ k80.eq_1) := Ev_of k80.eq_1
theorem k80_a : type_of% @k80_e ∧ type_of% @k80_r0_e ∧ type_of% @k80_r1_e := ⟨@k80_e, @k80_r0_e, @k80_r1_e⟩
/-- internal/stringslite.HasPrefix -/
theorem k80_is : FnIs Try.prog prims 80 18 [ResultVar.tmp 4] k80 := FnIs.of_fn Try.func80 (by kernel_rfl) rfl
theorem noSB : isSB Try.prog 9 = false ∧ isSB Try.prog 25 = false ∧ isSB Try.prog 29 = false ∧ isSB Try.prog 37 = false ∧ isSB Try.prog 39 = false ∧ isSB Try.prog 51 = false ∧ True := ⟨by kernel_rfl, by kernel_rfl, by kernel_rfl, by kernel_rfl, by kernel_rfl, by kernel_rfl, trivial⟩
end Go.Proofs.Ytplhelapcpcncaa.Q

/- Objects: what pointers read and write. -/
set_option linter.unusedVariables false
set_option linter.unusedSimpArgs false
namespace Go.Proofs.Ytplhelapcpcncaa.Q
open Go Go.RowKit

theorem vcells_one {v : V} (h : one v = true) : vcells v = [v] := by
  cases v <;> first | rfl | cases h

theorem BtsV.one {v : V} {bs : List UInt8} (h : BtsV v bs) : one v = true := by
  rcases h with ⟨rfl, _⟩ | ⟨p, rfl⟩ <;> rfl

section
variable {P : Program}

theorem vload_obj {objs : List Ob} {r off : Nat} {cs : List V} {t : TypeId} (h : objs[r]? = some (.cells cs)) (ha : isAggT P t = some false) : vload P objs t (.optr r off) = cs[off]? := by
  simp [vload, vcellsAt, h, vpart, ha]

theorem vstore_obj {σ : St} {r off : Nat} {cs : List V} {t : TypeId} {v : V} (h : σ.objs[r]? = some (.cells cs)) (hs : sizeT P t = some 1) (h1 : one v = true) (hl : off < cs.length) : vstore P σ t (.optr r off) v = some ⟨σ.objs.set r (.cells (cs.set off v)), σ.toks⟩ := by
  have h2 : off + 1 ≤ cs.length := hl
  simp [vstore, h, hs, vcells_one h1, h1, h2, setAll]

theorem eql_nilp {t u : TypeId} {xo yo : Operand} (ht : P.underlying t = some (.pointer u)) : vbin P .eql t xo yo .nilp .nilp = some (.bool true) := by
  simp [vbin, bothSame, guardFree, aggEq, ht]
theorem eql_optr {t u : TypeId} {xo yo : Operand} {r o : Nat} (ht : P.underlying t = some (.pointer u)) : vbin P .eql t xo yo (.optr r o) .nilp = some (.bool false) := by
  simp [vbin, bothSame, guardFree, aggEq, ht]
theorem neq_nilp {t u : TypeId} {xo yo : Operand} (ht : P.underlying t = some (.pointer u)) : vbin P .neq t xo yo .nilp .nilp = some (.bool false) := by
  simp [vbin, bothSame, guardFree, aggEq, ht]
theorem neq_optr {t u : TypeId} {xo yo : Operand} {r o : Nat} (ht : P.underlying t = some (.pointer u)) : vbin P .neq t xo yo (.optr r o) .nilp = some (.bool true) := by
  simp [vbin, bothSame, guardFree, aggEq, ht]
end

theorem ofVal_nilp : ofVal (.pointer none) = some .nilp := rfl
theorem vnil_optr {r o : Nat} : vnil (.optr r o) = some (.optr r o) := rfl

/-- All objects but one, and all tokens, stay. -/
def KeepX (r : Nat) (σ σ' : St) : Prop := (∀ (q : Nat) (o : Ob), q ≠ r → σ.objs[q]? = some o → σ'.objs[q]? = some o) ∧ σ.toks.length ≤ σ'.toks.length ∧ ∀ k, tokLive σ.toks k = true → tokLive σ'.toks k = true

theorem Keep.x {σ σ' : St} (h : Keep σ σ') (r : Nat) : KeepX r σ σ' := ⟨fun q o _ ho => h.1 q o ho, h.2⟩
theorem KeepX.refl (r : Nat) (σ : St) : KeepX r σ σ := (Keep.refl σ).x r
theorem KeepX.trans {r : Nat} {a b c : St} (h : KeepX r a b) (h2 : KeepX r b c) : KeepX r a c := ⟨fun q o hq ho => h2.1 q o hq (h.1 q o hq ho), Nat.le_trans h.2.1 h2.2.1, fun k hk => h2.2.2 k (h.2.2 k hk)⟩
theorem KeepX.set (r : Nat) (o : Ob) (σ : St) : KeepX r σ ⟨σ.objs.set r o, σ.toks⟩ := ⟨fun q o' hq ho => by simp only; rw [List.getElem?_set_ne (Ne.symm hq)]; exact ho, Nat.le_refl _, fun _ h => h⟩

theorem obj_set {objs : List Ob} {r : Nat} {o o' : Ob} (h : objs[r]? = some o) : (objs.set r o')[r]? = some o' := by
  rw [List.getElem?_set_self (List.getElem?_eq_some_iff.1 h).1]

theorem KeepX.set_eq {σ σ' : St} {r : Nat} {o o' : Ob} (h : σ.objs[r]? = some o) (hs : σ' = ⟨σ.objs.set r o', σ.toks⟩) : KeepX r σ σ' ∧ σ'.objs[r]? = some o' := by
  subst hs
  exact ⟨KeepX.set r o' σ, obj_set h⟩
end Go.Proofs.Ytplhelapcpcncaa.Q

/- Rows whose elements have any number of cells; appended texts. -/
set_option linter.unusedVariables false
set_option linter.unusedSimpArgs false
namespace Go.Proofs.Ytplhelapcpcncaa.Q
open Go Go.RowKit

/-- v is a row of n elements of k cells each. -/
def RowV (k : Nat) (v : V) (cs : List V) (n : Nat) : Prop := cs.length = n * k ∧ ((v = .nils ∧ n = 0) ∨ ∃ p, v = .slice p k cs n)

theorem RowV.one {k n : Nat} {v : V} {cs : List V} (h : RowV k v cs n) : one v = true := by
  rcases h.2 with ⟨rfl, _⟩ | ⟨p, rfl⟩ <;> rfl
theorem RowV.nil (k : Nat) : RowV k .nils [] 0 := ⟨by simp, .inl ⟨rfl, rfl⟩⟩

section
variable {P : Program}

/-- What one must know of a row's types. -/
structure RowT (P : Program) (t e : TypeId) (k by_ : Nat) : Prop where
  u : P.underlying t = some (.slice e)
  s : sizeT P e = some k
  z : ∃ z, zeroT P e = some z ∧ (vcells z).length = k
  b : (P.info? e).map (·.bytes) = some by_
  k0 : 0 < k

theorem RowV.len {k n : Nat} {v : V} {cs : List V} (h : RowV k v cs n) {t e : TypeId} (ht : P.underlying t = some (.slice e)) : vlen P t v = some (.int .i64 n) := by
  rcases h.2 with ⟨rfl, rfl⟩ | ⟨p, rfl⟩ <;> simp [vlen, ht]

theorem RowV.addr {k n : Nat} {v : V} {cs : List V} (h : RowV k v cs n) {t e : TypeId} (ht : P.underlying t = some (.slice e)) (hs : sizeT P e = some k) (hk : 0 < k) {kk : IntKind} {i : Int} (h0 : 0 ≤ i) (h1 : i < n) : vindexAddr P t v (.int kk i) = some (.eptr cs (i.toNat * k)) := by
  rcases h.2 with ⟨rfl, rfl⟩ | ⟨p, rfl⟩
  · omega
  · have hne : cs ≠ [] := by
      rintro rfl
      have := h.1
      simp only [List.length_nil] at this
      have : 1 * 1 ≤ n * k := Nat.mul_le_mul (by omega) hk
      omega
    simp [vindexAddr, ht, hs, h0, h1, hne]

/-- A part of a row. -/
theorem RowV.slice {k n : Nat} {v : V} {cs : List V} (h : RowV k v cs n) {t e : TypeId} (ht : P.underlying t = some (.slice e)) (hs : sizeT P e = some k) {lo hi : Option V} {a b : Nat} (hb : vbounds n lo hi none = some (a, b, none)) (hab : a ≤ b) (hbl : b ≤ n) :
    ∃ v', vslice P t v lo hi none = some v' ∧ RowV k v' ((cs.drop (a * k)).take ((b - a) * k)) (b - a) := by
  have hl : ((cs.drop (a * k)).take ((b - a) * k)).length = (b - a) * k := by
    have h1 := h.1
    have h2 : b * k ≤ n * k := Nat.mul_le_mul_right k hbl
    have h3 : b * k = a * k + (b - a) * k := by rw [← Nat.add_mul]; congr 1; omega
    rw [List.length_take, List.length_drop]
    omega
  rcases h.2 with ⟨rfl, rfl⟩ | ⟨p, rfl⟩
  · exact ⟨.nils, by simp [vslice, ht, hs, hb], hl, .inl ⟨rfl, by omega⟩⟩
  · refine ⟨_, ?_, hl, .inr ⟨if p = Perm.exact ∧ b = n then Perm.exact else if a = 0 ∧ b = n then p else Perm.ro, rfl⟩⟩
    simp only [vslice, ht, hs, if_true, hb]

/-- v is such a row, and an append to it finds that nobody else has a part in what stands behind it; its token is not below m. -/
def OwnR (e : TypeId) (k m : Nat) (σ : St) (v : V) (cs : List V) (n : Nat) : Prop :=
  cs.length = n * k ∧ ((v = .nils ∧ n = 0) ∨ ∃ p, v = .slice p k cs n ∧ (p = .exact ∨ ∃ q, p = .tok q e ∧ tokLive σ.toks q = true ∧ m ≤ q))

theorem OwnR.row {e k m n : Nat} {σ : St} {v : V} {cs : List V} (h : OwnR e k m σ v cs n) : RowV k v cs n := by
  rcases h with ⟨h1, h | ⟨p, h, _⟩⟩
  · exact ⟨h1, .inl h⟩
  · exact ⟨h1, .inr ⟨p, h⟩⟩
theorem OwnR.nil {e k m : Nat} {σ : St} : OwnR e k m σ .nils [] 0 := ⟨by simp, .inl ⟨rfl, rfl⟩⟩

theorem OwnR.keep {e k m n : Nat} {σ σ' : St} {v : V} {cs : List V} (h : OwnR e k m σ v cs n) (hk : ∀ k, tokLive σ.toks k = true → tokLive σ'.toks k = true) : OwnR e k m σ' v cs n := by
  rcases h with ⟨h1, h | ⟨p, h, h2⟩⟩
  · exact ⟨h1, .inl h⟩
  · refine ⟨h1, .inr ⟨p, h, ?_⟩⟩
    rcases h2 with h2 | ⟨q, h2, h3, h4⟩
    · exact .inl h2
    · exact .inr ⟨q, h2, hk q h3, h4⟩

theorem OwnR.low {e k m m' n : Nat} {σ : St} {v : V} {cs : List V} (h : OwnR e k m σ v cs n) (hm : m' ≤ m) : OwnR e k m' σ v cs n := by
  rcases h with ⟨h1, h | ⟨p, h, h2⟩⟩
  · exact ⟨h1, .inl h⟩
  · refine ⟨h1, .inr ⟨p, h, ?_⟩⟩
    rcases h2 with h2 | ⟨q, h2, h3, h4⟩
    · exact .inl h2
    · exact .inr ⟨q, h2, h3, Nat.le_trans hm h4⟩

/-- An append to a row of one's own. -/
theorem OwnR.appendO {t t2 e : TypeId} {k by_ : Nat} (hT : RowT P t e k by_) {m : Nat} {σ0 σ : St} {v y : V} {cs ys : List V} {n l : Nat} (h : OwnR e k m σ v cs n) (hn : m = σ0.toks.length) (hk : Keep σ0 σ) (hnews : vnewsO P σ.objs t2 y k = some (ys, l)) (hyl : ys.length = l * k) (hone : ys.all one = true) (hl : n + l ≤ 140737488355328) (hb : (n + l) * by_ ≤ 140737488355328) :
    ∃ v' σ', vappend P σ t t2 v y = some (v', σ') ∧ OwnR e k m σ' v' (cs ++ ys) (n + l) ∧ Keep σ0 σ' ∧ σ'.objs = σ.objs := by
  obtain ⟨z, hz, hzl⟩ := hT.z
  have hk0 : ¬ k = 0 := by have := hT.k0; omega
  have hml : m ≤ σ.toks.length := by rw [hn]; exact hk.2.1
  have keep1 : Keep σ0 ⟨σ.objs, σ.toks ++ [true]⟩ := ⟨hk.1, by simp; have := hk.2.1; omega, fun k h => tokLive_app (hk.2.2 k h)⟩
  have hlen : (cs ++ ys).length = (n + l) * k := by rw [List.length_append, Nat.add_mul, h.1, hyl]
  by_cases hm : l = 0
  · subst hm
    have hys : ys = [] := List.length_eq_zero_iff.1 (by simpa using hyl)
    subst hys
    refine ⟨v, σ, ?_, by simpa using h, hk, rfl⟩
    rcases h.2 with ⟨rfl, rfl⟩ | ⟨p, rfl, _⟩
    · simp [vappend, hT.u, hT.b, hT.s, hz, hnews, hzl, hk0]
    · simp [vappend, hT.u, hT.b, hT.s, hz, hnews, hzl, hk0]
  · rcases h.2 with ⟨rfl, rfl⟩ | ⟨p, rfl, hp⟩
    · have hcs : cs = [] := List.length_eq_zero_iff.1 (by simpa using h.1)
      subst hcs
      refine ⟨_, _, ?_, ⟨hlen, .inr ⟨.tok σ.toks.length e, rfl, .inr ⟨_, rfl, tokLive_new _, hml⟩⟩⟩, keep1, rfl⟩
      simp only [Nat.zero_add] at hl hb
      simp [vappend, hT.u, hT.b, hT.s, hz, hnews, hzl, hk0, hm, hl, hb]
    · rcases hp with rfl | ⟨q, rfl, hlive, hnk⟩
      · refine ⟨_, _, ?_, ⟨hlen, .inr ⟨.tok σ.toks.length e, rfl, .inr ⟨_, rfl, tokLive_new _, hml⟩⟩⟩, keep1, rfl⟩
        simp [vappend, hT.u, hT.b, hT.s, hz, hnews, hzl, hk0, hm, hl, hb]
      · have hkl : (killTok σ.toks q).length = σ.toks.length := by simp [killTok]
        refine ⟨.slice (.tok σ.toks.length e) k (cs ++ ys) (n + l), ⟨σ.objs, killTok σ.toks q ++ [true]⟩, ?_, ⟨hlen, .inr ⟨.tok σ.toks.length e, rfl, .inr ⟨_, rfl, by have := tokLive_new (killTok σ.toks q); rwa [hkl] at this, hml⟩⟩⟩, ?_, rfl⟩
        · simp [vappend, hT.u, hT.b, hT.s, hz, hnews, hzl, hk0, hm, hl, hb, hlive, hone] at hone ⊢
          first | exact hone | done
        · refine ⟨hk.1, by simp [hkl]; have := hk.2.1; omega, fun j hj => ?_⟩
          refine tokLive_app (tokLive_kill_ne (hk.2.2 j hj) ?_)
          have := tokLive_lt hj
          omega

theorem OwnR.append {t t2 e : TypeId} {k by_ : Nat} (hT : RowT P t e k by_) {m : Nat} {σ0 σ : St} {v y : V} {cs ys : List V} {n l : Nat} (h : OwnR e k m σ v cs n) (hn : m = σ0.toks.length) (hk : Keep σ0 σ) (hnews : vnews P t2 y k = some (ys, l)) (hyl : ys.length = l * k) (hone : ys.all one = true) (hl : n + l ≤ 140737488355328) (hb : (n + l) * by_ ≤ 140737488355328) :
    ∃ v' σ', vappend P σ t t2 v y = some (v', σ') ∧ OwnR e k m σ' v' (cs ++ ys) (n + l) ∧ Keep σ0 σ' ∧ σ'.objs = σ.objs := h.appendO hT hn hk (vnewsO_of hnews) hyl hone hl hb

theorem OwnV.toR {e m : Nat} {σ : St} {v : V} {bs : List UInt8} (h : OwnV e m σ v bs) : OwnR e 1 m σ v (bs.map byteV) bs.length := by
  refine ⟨by simp, ?_⟩
  rcases h with ⟨h, rfl⟩ | h
  · exact .inl ⟨h, rfl⟩
  · exact .inr h
theorem OwnR.toV {e m n : Nat} {σ : St} {v : V} {bs : List UInt8} (h : OwnR e 1 m σ v (bs.map byteV) n) : OwnV e m σ v bs := by
  have hl : bs.length = n := by have := h.1; simpa using this
  subst hl
  rcases h.2 with ⟨h, h0⟩ | h
  · exact .inl ⟨h, List.length_eq_zero_iff.1 h0⟩
  · exact .inr h

theorem ByteT.row {t e : TypeId} (h : ByteT P t e) : RowT P t e 1 1 := ⟨h.u, h.s, ⟨_, h.z, rfl⟩, h.b, by omega⟩

/-- A text behind bytes. -/
theorem OwnV.appendS {t t2 e : TypeId} (hT : ByteT P t e) {m : Nat} {σ0 σ : St} {v : V} {bs ys : List UInt8} (h : OwnV e m σ v bs) (hn : m = σ0.toks.length) (hk : Keep σ0 σ) (ht2 : P.underlying t2 = some .string) (hl : bs.length + ys.length ≤ 140737488355328) :
    ∃ v' σ', vappend P σ t t2 v (.str ys) = some (v', σ') ∧ OwnV e m σ' v' (bs ++ ys) ∧ Keep σ0 σ' ∧ σ'.objs = σ.objs := by
  obtain ⟨v', σ', h1, h2, h3⟩ := h.toR.append hT.row hn hk (t2 := t2) (y := .str ys) (ys := ys.map byteV) (l := ys.length) (by simp [vnews, ht2]) (by simp) (byteV_one ys) hl (by omega)
  rw [← List.map_append] at h2
  exact ⟨v', σ', h1, h2.toV, h3⟩

/-- A row's elements, one behind the other. -/
theorem flat_drop {α : Type} {f : α → List V} {k : Nat} (hf : ∀ a, (f a).length = k) : ∀ (l : List α) (i : Nat), (l.flatMap f).drop (i * k) = (l.drop i).flatMap f
  | l, 0 => by simp
  | [], i + 1 => by simp
  | a :: l, i + 1 => by
    have : (i + 1) * k = (f a).length + i * k := by rw [hf, Nat.add_mul, Nat.one_mul, Nat.add_comm]
    rw [List.flatMap_cons, this, List.drop_length_add_append, List.drop_succ_cons]
    exact flat_drop hf l i

theorem flat_len {α : Type} {f : α → List V} {k : Nat} (hf : ∀ a, (f a).length = k) : ∀ (l : List α), (l.flatMap f).length = l.length * k
  | [] => by simp
  | a :: l => by rw [List.flatMap_cons, List.length_append, flat_len hf l, hf, List.length_cons, Nat.add_mul, Nat.one_mul, Nat.add_comm]

theorem flat_part {α : Type} {f : α → List V} {k : Nat} (hf : ∀ a, (f a).length = k) {l : List α} {i : Nat} (h : i < l.length) : ((l.flatMap f).drop (i * k)).take k = f l[i] := by
  rw [flat_drop hf, List.drop_eq_getElem_cons h, List.flatMap_cons]
  have := List.take_left (l₁ := f l[i]) (l₂ := (l.drop (i + 1)).flatMap f)
  rw [hf] at this
  exact this

/-- An element of a row. -/
theorem load_part {α : Type} {f : α → List V} {k : Nat} (hf : ∀ a, (f a).length = k) {l : List α} {i : Nat} (h : i < l.length) {e : TypeId} (ha : isAggT P e = some true) (hs : sizeT P e = some k) {objs : List Ob} : vload P objs e (.eptr (l.flatMap f) (i * k)) = some (.agg (f l[i])) := by
  have hl : i * k + k ≤ (l.flatMap f).length := by
    rw [flat_len hf]
    have : (i + 1) * k ≤ l.length * k := Nat.mul_le_mul_right k h
    rw [Nat.add_mul, Nat.one_mul] at this
    exact this
  simp only [vload, vcellsAt, vpart, ha, hs, if_pos hl, flat_part hf h]

/-- An object as a whole. -/
theorem vload_agg {objs : List Ob} {r : Nat} {cs : List V} {t : TypeId} (h : objs[r]? = some (.cells cs)) (ha : isAggT P t = some true) (hs : sizeT P t = some cs.length) : vload P objs t (.optr r 0) = some (.agg cs) := by
  simp [vload, vcellsAt, h, vpart, ha, hs]
/-- A part of it that is one itself. -/
theorem vload_sub {objs : List Ob} {r off n : Nat} {cs : List V} {t : TypeId} (h : objs[r]? = some (.cells cs)) (ha : isAggT P t = some true) (hs : sizeT P t = some n) (hl : off + n ≤ cs.length) : vload P objs t (.optr r off) = some (.agg ((cs.drop off).take n)) := by
  simp [vload, vcellsAt, h, vpart, ha, hs, hl]

theorem setAll_take : ∀ (vs : List V) (cs : List V) (off : Nat), off + vs.length ≤ cs.length → setAll cs off vs = cs.take off ++ vs ++ cs.drop (off + vs.length)
  | [], cs, off, h => by simp [setAll]
  | v :: vs, cs, off, h => by
    simp only [List.length_cons] at h
    rw [setAll, setAll_take vs _ _ (by simp; omega)]
    apply List.ext_getElem?
    intro i
    simp only [List.length_cons, List.getElem?_append, List.length_take, List.length_set, List.length_append, List.getElem?_drop, List.getElem?_take, List.getElem?_set]
    have e1 : min (off + 1) cs.length = off + 1 := by omega
    have e2 : min off cs.length = off := by omega
    rw [e1, e2]
    rcases Nat.lt_trichotomy i off with h1 | h1 | h1
    · simp [h1, show i < off + 1 by omega, show i < off + 1 + vs.length by omega, show i < off + (vs.length + 1) by omega, show off ≠ i by omega]
    · subst h1
      simp [show i < cs.length by omega]
      omega
    · by_cases h2 : i < off + 1 + vs.length
      · simp [show ¬ i < off by omega, show ¬ i < off + 1 by omega, h2, show i < off + (vs.length + 1) by omega]
        have : i - off = (i - (off + 1)) + 1 := by omega
        rw [this, List.getElem?_cons_succ]
      · simp [show ¬ i < off by omega, h2, show ¬ i < off + (vs.length + 1) by omega]
        have e3 : off + 1 + vs.length + (i - (off + 1 + vs.length)) = i := by omega
        have e4 : off + (vs.length + 1) + (i - (off + (vs.length + 1))) = i := by omega
        rw [e3, e4]
        simp [show off ≠ i by omega]

/-- A whole object is written. -/
theorem vstore_agg {σ : St} {r : Nat} {cs cs' : List V} {t : TypeId} (h : σ.objs[r]? = some (.cells cs)) (hs : sizeT P t = some cs'.length) (hl : cs'.length = cs.length) (h1 : cs'.all one = true) : vstore P σ t (.optr r 0) (.agg cs') = some ⟨σ.objs.set r (.cells cs'), σ.toks⟩ := by
  simp only [vstore, h, vcells]
  have h2 : setAll cs 0 cs' = cs' := by rw [setAll_take _ _ _ (by omega)]; simp [hl]
  have h3 : 0 + cs'.length ≤ cs.length := by omega
  simp only [hs, h3, h1, and_self, if_true, h2]

theorem Keep.push {σ0 σ : St} (h : Keep σ0 σ) (o : Ob) : Keep σ0 ⟨σ.objs ++ [o], σ.toks⟩ :=
  ⟨fun r o' ho => by
    have := h.1 r o' ho
    simp only
    rw [List.getElem?_append_left (List.getElem?_eq_some_iff.1 this).1]
    exact this, h.2⟩
/-- Objects of one's own may be written. -/
theorem Keep.setNew {σ0 σ : St} (h : Keep σ0 σ) {r : Nat} (hr : σ0.objs.length ≤ r) (o : Ob) : Keep σ0 ⟨σ.objs.set r o, σ.toks⟩ :=
  ⟨fun q o' ho => by
    have hq := (List.getElem?_eq_some_iff.1 ho).1
    simp only
    rw [List.getElem?_set_ne (by omega)]
    exact h.1 q o' ho, h.2⟩
theorem KeepX.setNew {q : Nat} {σ0 σ : St} (h : KeepX q σ0 σ) {r : Nat} (hr : σ0.objs.length ≤ r) (o : Ob) : KeepX q σ0 ⟨σ.objs.set r o, σ.toks⟩ :=
  ⟨fun i o' hi ho => by
    have hq := (List.getElem?_eq_some_iff.1 ho).1
    simp only
    rw [List.getElem?_set_ne (by omega)]
    exact h.1 i o' hi ho, h.2⟩
theorem KeepX.push {q : Nat} {σ0 σ : St} (h : KeepX q σ0 σ) (o : Ob) : KeepX q σ0 ⟨σ.objs ++ [o], σ.toks⟩ :=
  ⟨fun r o' hi ho => by
    have := h.1 r o' hi ho
    simp only
    rw [List.getElem?_append_left (List.getElem?_eq_some_iff.1 this).1]
    exact this, h.2⟩
theorem push_new (objs : List Ob) (o : Ob) : (objs ++ [o])[objs.length]? = some o := by simp
theorem keepX_of {q : Nat} {σ σ' : St} (h : KeepX q σ σ') (hq : σ.objs.length ≤ q) : Keep σ σ' :=
  ⟨fun r o ho => h.1 r o (by have := (List.getElem?_eq_some_iff.1 ho).1; omega) ho, h.2⟩

/-- Texts and bytes. -/
theorem BtsV.str {v : V} {bs : List UInt8} (h : BtsV v bs) {t t2 e : TypeId} (ht : P.underlying t = some (.slice e)) (he : isU8 P e = true) (ht2 : P.underlying t2 = some .string) : vconv P t t2 v = some (.str bs) := by
  have hb : ∀ l : List UInt8, bytesOf' (l.map byteV) = some l := by
    intro l
    induction l with
    | nil => rfl
    | cons b l ih =>
      have h1 : byteOf1 (.int .u8 (b.toNat : Int)) = some b := by
        have := b.toNat_lt
        simp [byteOf1]
      simp only [List.map_cons, bytesOf', byteV, ih, h1]
  rcases h with ⟨rfl, rfl⟩ | ⟨p, rfl⟩
  · simp [vconv, ht, ht2, he]
  · simp [vconv, ht, ht2, he, hb]
end
end Go.Proofs.Ytplhelapcpcncaa.Q

/- Structures are compared field by field. -/
set_option linter.unusedVariables false
set_option linter.unusedSimpArgs false
namespace Go.Proofs.Ytplhelapcpcncaa.Q
open Go Go.RowKit

section
variable {P : Program}
/-- A structure's fields: type and place. -/
def fieldsOf (P : Program) (t : TypeId) : List (TypeId × Nat) := match P.underlying t with
  | some (.struct fs) => if P.stoodInHeld t || fs.toList.any (fun f => decide (f.name = "_")) then [] else fs.toList.map fun f => (f.type, f.offset)
  | _ => []
def allEq (P : Program) (d : Nat) : List (TypeId × Nat) → List V → List V → Option Bool
  | [], _, _ => some true
  | f :: fs, xs, ys => match vpart P f.1 xs f.2, vpart P f.1 ys f.2 with
    | some a, some b => match aggEq P d f.1 a b with
      | some true => allEq P d fs xs ys
      | some false => some false
      | none => none
    | _, _ => none

theorem fieldsEq_all {d : Nat} : ∀ {fs : List Field} {xs ys : List V}, fs.any (fun f => decide (f.name = "_")) = false → aggEq.fieldsEq P d fs xs ys = allEq P d (fs.map fun f => (f.type, f.offset)) xs ys
  | [], xs, ys, _ => by simp [fieldsEq_nil, allEq]
  | f :: fs, xs, ys, h => by
    simp only [List.any_cons, Bool.or_eq_false_iff, decide_eq_false_iff_not] at h
    rw [fieldsEq_cons, if_pos h.1, List.map_cons, allEq]
    cases vpart P f.type xs f.offset <;> cases vpart P f.type ys f.offset <;> try rfl
    rename_i a b
    simp only
    cases aggEq P d f.type a b with
    | none => rfl
    | some r => cases r with
      | true => exact fieldsEq_all h.2
      | false => rfl

theorem aggEq_fields {t : TypeId} {d : Nat} {p : TypeId × Nat} {ps : List (TypeId × Nat)} {xs ys : List V} (h : fieldsOf P t = p :: ps) : aggEq P (d + 1) t (.agg xs) (.agg ys) = allEq P d (p :: ps) xs ys := by
  unfold fieldsOf at h
  split at h
  · rename_i fs hu
    split at h
    · cases h
    · rename_i hn
      cases h1 : P.stoodInHeld t with
      | true => rw [h1] at hn; simp at hn
      | false =>
        cases h2 : fs.toList.any (fun f => decide (f.name = "_")) with
        | true => rw [h1, h2] at hn; simp at hn
        | false =>
          rw [← h, ← fieldsEq_all h2]
          simp [aggEq, hu, h1, aggEq.fieldsEq]
  · cases h

theorem aggEq_int {t : TypeId} {k : IntKind} {d : Nat} {a b : Int} (h : P.underlying t = some (.int k)) : aggEq P (d + 1) t (.int k a) (.int k b) = some (decide (a = b)) := by
  simp [aggEq, h]
theorem aggEq_str {t : TypeId} {d : Nat} {a b : List UInt8} (h : P.underlying t = some .string) : aggEq P (d + 1) t (.str a) (.str b) = some (decide (a = b)) := by
  simp [aggEq, h]
theorem aggEq_bool {t : TypeId} {d : Nat} {a b : Bool} (h : P.underlying t = some .bool) : aggEq P (d + 1) t (.bool a) (.bool b) = some (a == b) := by
  simp [aggEq, h]
theorem vpart_one {t : TypeId} {cs : List V} {i : Nat} (h : isAggT P t = some false) : vpart P t cs i = cs[i]? := by simp [vpart, h]
theorem vpart_agg {t : TypeId} {cs : List V} {i n : Nat} (h : isAggT P t = some true) (hs : sizeT P t = some n) (hl : i + n ≤ cs.length) : vpart P t cs i = some (.agg ((cs.drop i).take n)) := by simp [vpart, h, hs, hl]

theorem vbin_aggneq {t : TypeId} {xo yo : Operand} {a b : List V} {r : Bool} (hg : P.eqGuardType P.depth t = false) (h : aggEq P 10000 t (.agg a) (.agg b) = some r) : vbin P .neq t xo yo (.agg a) (.agg b) = some (.bool (!r)) := by
  simp [vbin, bothSame, guardFree, hg, h]
theorem vbin_aggeql {t : TypeId} {xo yo : Operand} {a b : List V} {r : Bool} (hg : P.eqGuardType P.depth t = false) (h : aggEq P 10000 t (.agg a) (.agg b) = some r) : vbin P .eql t xo yo (.agg a) (.agg b) = some (.bool r) := by
  simp [vbin, bothSame, guardFree, hg, h]
/-- One more field. -/
theorem allEq_cons {d : Nat} {t : TypeId} {i : Nat} {fs : List (TypeId × Nat)} {xs ys : List V} {a b : V} {r : Bool} (h1 : vpart P t xs i = some a) (h2 : vpart P t ys i = some b) (h3 : aggEq P d t a b = some r) : allEq P d ((t, i) :: fs) xs ys = if r then allEq P d fs xs ys else some false := by
  simp only [allEq, h1, h2, h3]
  cases r <;> rfl
end
end Go.Proofs.Ytplhelapcpcncaa.Q

/- Arguments that are structures, and rows of them. -/
set_option linter.unusedVariables false
set_option linter.unusedSimpArgs false
namespace Go.Proofs.Ytplhelapcpcncaa.Q
open Go Go.RowKit

section
variable {P : Program}
theorem VT_int {k : Nat} {t : TypeId} {i : IntKind} {cs : List V} (hu : P.underlying t = some (.int i)) (h : VT P k t cs) : ∃ n, cs = [.int i n] ∧ (Lit.int i n).wf = true := by
  cases k with
  | zero => exact h.elim
  | succ k => simpa [VT, hu] using h
theorem VT_bool {k : Nat} {t : TypeId} {cs : List V} (hu : P.underlying t = some .bool) (h : VT P k t cs) : ∃ b, cs = [.bool b] := by
  cases k with
  | zero => exact h.elim
  | succ k => simpa [VT, hu] using h
theorem VT_str {k : Nat} {t : TypeId} {cs : List V} (hu : P.underlying t = some .string) (h : VT P k t cs) : ∃ l, cs = [.str l] ∧ l.length ≤ maxLen := by
  cases k with
  | zero => exact h.elim
  | succ k => simpa [VT, hu] using h
theorem VT_slice {k : Nat} {t e : TypeId} {cs : List V} (hu : P.underlying t = some (.slice e)) (h : VT P k t cs) : ∃ k', cs = [.nils] ∨ ∃ vs len, cs = [.slice .ro (P.cellsOf e) vs len] ∧ vs.length = len * P.cellsOf e ∧ len ≤ maxLen ∧ ∀ i, i < len → VT P k' e ((vs.drop (i * P.cellsOf e)).take (P.cellsOf e)) := by
  cases k with
  | zero => exact h.elim
  | succ k => exact ⟨k, by simpa [VT, hu] using h⟩
theorem VT_struct {k : Nat} {t : TypeId} {p : TypeId × Nat} {ps : List (TypeId × Nat)} {cs : List V} (hu : fieldsOf P t = p :: ps) (h : VT P k t cs) : ∃ k', cs.length = P.cellsOf t ∧ ∀ q ∈ p :: ps, VT P k' q.1 ((cs.drop q.2).take (P.cellsOf q.1)) := by
  cases k with
  | zero => exact h.elim
  | succ k =>
    unfold fieldsOf at hu
    split at hu
    · rename_i fs hf
      split at hu
      · cases hu
      · simp only [VT, hf] at h
        refine ⟨k, h.1, fun q hq => ?_⟩
        rw [← hu, List.mem_map] at hq
        obtain ⟨f, hfm, rfl⟩ := hq
        exact h.2 f hfm
    · cases hu

theorem ArgT_struct {t : TypeId} {p : TypeId × Nat} {ps : List (TypeId × Nat)} {x : V} (hu : fieldsOf P t = p :: ps) (h : ArgT P t x) : ∃ k vs, x = .agg vs ∧ VT P k t vs := by
  unfold fieldsOf at hu
  split at hu
  · rename_i fs hf
    unfold ArgT at h
    rw [hf] at h
    exact h
  · cases hu
end

theorem rows_of {α : Type} {f : α → List V} {R : α → Prop} {c : Nat} : ∀ (len : Nat) (vs : List V), vs.length = len * c → (∀ i, i < len → ∃ x, (vs.drop (i * c)).take c = f x ∧ R x) → ∃ l : List α, vs = l.flatMap f ∧ l.length = len ∧ ∀ x ∈ l, R x
  | 0, vs, hl, _ => ⟨[], by simpa using hl, rfl, by simp⟩
  | len + 1, vs, hl, h => by
    obtain ⟨x, hx, hr⟩ := h 0 (by omega)
    have hl' : (vs.drop c).length = len * c := by rw [List.length_drop, hl, Nat.add_mul]; omega
    obtain ⟨l, h1, h2, h3⟩ := rows_of len (vs.drop c) hl' fun i hi => by
      obtain ⟨y, hy, hry⟩ := h (i + 1) (by omega)
      have he : c + i * c = (i + 1) * c := by rw [Nat.add_mul]; omega
      exact ⟨y, by rw [List.drop_drop, he]; exact hy, hry⟩
    refine ⟨x :: l, ?_, by simp [h2], ?_⟩
    · rw [List.flatMap_cons, ← h1, ← hx]
      simp
    · intro y hy
      rcases List.mem_cons.1 hy with rfl | hy
      · exact hr
      · exact h3 y hy

theorem bulk_mem {α : Type} {f : α → List V} : ∀ {l : List α} {x : α}, x ∈ l → vbulks (f x) ≤ vbulks (l.flatMap f)
  | [], x, h => by cases h
  | a :: l, x, h => by
    rw [List.flatMap_cons, vbulks_append]
    rcases List.mem_cons.1 h with rfl | h
    · omega
    · have := bulk_mem (f := f) h
      omega

theorem bulk_len {α : Type} {f : α → List V} {k : Nat} (hf : ∀ a, (f a).length = k) (hk : 0 < k) (l : List α) : l.length ≤ vbulks (l.flatMap f) := by
  have h1 := vbulks_len (l.flatMap f)
  rw [flat_len hf] at h1
  have : l.length * 1 ≤ l.length * k := Nat.mul_le_mul_left _ hk
  omega
end Go.Proofs.Ytplhelapcpcncaa.Q

/- The rules of a walk, as one. -/
set_option linter.unusedVariables false
namespace Go.Proofs.Ytplhelapcpcncaa.Q
open Go Go.RowKit
theorem WK0 : type_of% @Ev_seq' ∧ type_of% @Ev_region ∧ type_of% @Ev_wregion ∧ type_of% @EoW_nil ∧ type_of% @EoW_cons ∧ type_of% @wC_normal ∧ type_of% @wC_pan ∧ type_of% @pushB_true ∧ type_of% @pushB_false ∧ type_of% @look_nil ∧ type_of% @look_cons ∧ type_of% @WOk_nil ∧ type_of% @WOk_cons ∧ type_of% @WV_some ∧ type_of% @WJ_nil ∧ type_of% @WJ_cons ∧ type_of% @KQ_some ∧ type_of% @wantC_none ∧ type_of% @wantC_tt ∧ type_of% @Ev_block' := ⟨@Ev_seq', @Ev_region, @Ev_wregion, @EoW_nil, @EoW_cons, @wC_normal, @wC_pan, @pushB_true, @pushB_false, @look_nil, @look_cons, @WOk_nil, @WOk_cons, @WV_some, @WJ_nil, @WJ_cons, @KQ_some, @wantC_none, @wantC_tt, @Ev_block'⟩
theorem WK1 : type_of% @Ev_skip' ∧ type_of% @Ev_exit' ∧ type_of% @Ev_ret' ∧ type_of% @Ev_if ∧ type_of% @Eo_nil ∧ type_of% @Eo_builtin ∧ type_of% @Eo_call ∧ type_of% @Eo_callv ∧ type_of% @Eo_panic ∧ type_of% @Eo_guard ∧ type_of% @Eo_move ∧ type_of% @Eo_assign ∧ type_of% @Eo_pick ∧ type_of% @Eo_alloc ∧ type_of% @Eo_box ∧ type_of% @Eo_build ∧ type_of% @Eo_buildSlice ∧ type_of% @Eo_load ∧ type_of% @Eo_store ∧ type_of% @Eo_nilCheck := ⟨@Ev_skip', @Ev_exit', @Ev_ret', @Ev_if, @Eo_nil, @Eo_builtin, @Eo_call, @Eo_callv, @Eo_panic, @Eo_guard, @Eo_move, @Eo_assign, @Eo_pick, @Eo_alloc, @Eo_box, @Eo_build, @Eo_buildSlice, @Eo_load, @Eo_store, @Eo_nilCheck⟩
theorem WK2 : type_of% @Eo_binOp ∧ type_of% @Eo_unOp ∧ type_of% @Eo_convert ∧ type_of% @Eo_makeInterface ∧ type_of% @Eo_makeFunc ∧ type_of% @Eo_makeSlice ∧ type_of% @Eo_slice ∧ type_of% @Eo_fieldAddr ∧ type_of% @Eo_field ∧ type_of% @Eo_indexAddr ∧ type_of% @Eo_index ∧ type_of% @Eo_typeAssert ∧ type_of% @Eo_extract ∧ type_of% @Kop_some ∧ type_of% @KB_true ∧ type_of% @KB_false ∧ type_of% @KI_some ∧ type_of% @KG_tt ∧ type_of% @KG_ff ∧ type_of% @KG_tf ∧ type_of% @KG_ft := ⟨@Eo_binOp, @Eo_unOp, @Eo_convert, @Eo_makeInterface, @Eo_makeFunc, @Eo_makeSlice, @Eo_slice, @Eo_fieldAddr, @Eo_field, @Eo_indexAddr, @Eo_index, @Eo_typeAssert, @Eo_extract, @Kop_some, @KB_true, @KB_false, @KI_some, @KG_tt, @KG_ff, @KG_tf, @KG_ft⟩
theorem WK3 : type_of% @KG_tup ∧ type_of% @KC_some ∧ type_of% @KF_some ∧ type_of% @KP_some ∧ type_of% @KR_some ∧ type_of% @seqC_normal ∧ type_of% @seqC_exit ∧ type_of% @seqC_ret ∧ type_of% @seqC_pan ∧ type_of% @loopC_normal ∧ type_of% @loopC_exit ∧ type_of% @loopC_ret ∧ type_of% @loopC_pan ∧ type_of% @blockK_normal ∧ type_of% @blockK_exit ∧ type_of% @blockK_exit_ne ∧ type_of% @blockK_ret ∧ type_of% @blockK_pan ∧ type_of% @fnK_normal ∧ type_of% @fnK_ret := ⟨@KG_tup, @KC_some, @KF_some, @KP_some, @KR_some, @seqC_normal, @seqC_exit, @seqC_ret, @seqC_pan, @loopC_normal, @loopC_exit, @loopC_ret, @loopC_pan, @blockK_normal, @blockK_exit, @blockK_exit_ne, @blockK_ret, @blockK_pan, @fnK_normal, @fnK_ret⟩
theorem WK4 : type_of% @fnK_pan ∧ type_of% @evs_env ∧ type_of% @evs_const ∧ type_of% @evs_func ∧ type_of% @ofVal_int ∧ type_of% @ofVal_bool ∧ type_of% @ofVal_nil ∧ type_of% @ofVal_nilp ∧ type_of% @vnil_optr ∧ type_of% @vbin_add ∧ type_of% @vbin_sub ∧ type_of% @vbin_mul ∧ type_of% @vbin_quo ∧ type_of% @vbin_rem ∧ type_of% @vbin_eql ∧ type_of% @vbin_neq ∧ type_of% @vbin_lss ∧ type_of% @vbin_leq ∧ type_of% @vbin_gtr ∧ type_of% @vbin_geq := ⟨@fnK_pan, @evs_env, @evs_const, @evs_func, @ofVal_int, @ofVal_bool, @ofVal_nil, @ofVal_nilp, @vnil_optr, @vbin_add, @vbin_sub, @vbin_mul, @vbin_quo, @vbin_rem, @vbin_eql, @vbin_neq, @vbin_lss, @vbin_leq, @vbin_gtr, @vbin_geq⟩
theorem WK5 : type_of% @vbin_and ∧ type_of% @vbin_or ∧ type_of% @vbin_xor ∧ type_of% @vbin_andNot ∧ type_of% @vbin_shl ∧ type_of% @vbin_shr ∧ type_of% @vbin_str ∧ type_of% @upd_some ∧ type_of% @upd_none ∧ type_of% @vresults_tmp ∧ type_of% @vresults_nil ∧ type_of% @vresults_cell ∧ type_of% @vtuple_0 ∧ type_of% @vtuple_1 ∧ type_of% @vtuple_2 := ⟨@vbin_and, @vbin_or, @vbin_xor, @vbin_andNot, @vbin_shl, @vbin_shr, @vbin_str, @upd_some, @upd_none, @vresults_tmp, @vresults_nil, @vresults_cell, @vtuple_0, @vtuple_1, @vtuple_2⟩
theorem WK6 : type_of% @true_implies ∧ type_of% @decide_true ∧ type_of% @decide_false ∧ type_of% @Bool.not_true ∧ type_of% @Bool.not_false ∧ type_of% @not_true_eq_false ∧ type_of% @not_false_eq_true ∧ type_of% @Bool.false_eq_true ∧ type_of% @and_self ∧ type_of% @and_true ∧ type_of% @true_and ∧ type_of% @Option.map_some.{0,0} ∧ type_of% @Option.map_none.{0,0} ∧ type_of% @List.append_nil.{0} ∧ type_of% @List.getElem?_cons_zero.{0} ∧ type_of% @List.getElem?_cons_succ.{0} ∧ type_of% @ne_eq.{1} ∧ type_of% @List.getD_cons_zero.{0} ∧ type_of% @List.getD_cons_succ.{0} := ⟨@true_implies, @decide_true, @decide_false, @Bool.not_true, @Bool.not_false, @not_true_eq_false, @not_false_eq_true, @Bool.false_eq_true, @and_self, @and_true, @true_and, @Option.map_some.{0,0}, @Option.map_none.{0,0}, @List.append_nil.{0}, @List.getElem?_cons_zero.{0}, @List.getElem?_cons_succ.{0}, @ne_eq.{1}, @List.getD_cons_zero.{0}, @List.getD_cons_succ.{0}⟩
theorem WK7 : type_of% @Ev_hreg ∧ type_of% @EoH_nil ∧ type_of% @EoH_cold ∧ type_of% @EoH_hot ∧ type_of% @hC_normal ∧ type_of% @hC_pan ∧ type_of% @KH_some ∧ type_of% @Eo_makeMap ∧ type_of% @Eo_insert ∧ type_of% @Eo_mapUpdate ∧ type_of% @Eo_lookup := ⟨@Ev_hreg, @EoH_nil, @EoH_cold, @EoH_hot, @hC_normal, @hC_pan, @KH_some, @Eo_makeMap, @Eo_insert, @Eo_mapUpdate, @Eo_lookup⟩
theorem WK : type_of% WK0 ∧ type_of% WK1 ∧ type_of% WK2 ∧ type_of% WK3 ∧ type_of% WK4 ∧ type_of% WK5 ∧ type_of% WK6 ∧ type_of% WK7 := ⟨WK0, WK1, WK2, WK3, WK4, WK5, WK6, WK7⟩
end Go.Proofs.Ytplhelapcpcncaa.Q

set_option linter.unusedVariables false
set_option linter.unusedSimpArgs false
namespace Go.Proofs.Ytplhelapcpcncaa.Q
open Go Go.RowKit Go.Proofs

theorem T22 : Try.prog.underlying 41 = some (.slice 5) := by kernel_rfl
theorem T5 : Try.prog.underlying 5 = some (.int .u8) := by kernel_rfl
theorem T3 : Try.prog.underlying 3 = some (.int .i64) := by kernel_rfl
theorem T4 : Try.prog.underlying 4 = some .bool := by kernel_rfl
theorem S5 : sizeT Try.prog 5 = some 1 := by kernel_rfl
theorem G5 : isAggT Try.prog 5 = some false := by kernel_rfl
theorem C5 : Try.prog.cellsOf 5 = 1 := by kernel_rfl
theorem G3 : isAggT Try.prog 3 = some false := by kernel_rfl
theorem G4 : isAggT Try.prog 4 = some false := by kernel_rfl
theorem S3 : sizeT Try.prog 3 = some 1 := by kernel_rfl
theorem S4 : sizeT Try.prog 4 = some 1 := by kernel_rfl
theorem G22 : isAggT Try.prog 41 = some false := by kernel_rfl
theorem S22 : sizeT Try.prog 41 = some 1 := by kernel_rfl
theorem BT : ByteT Try.prog 41 5 := ⟨T22, T5, S5, by kernel_rfl, by kernel_rfl, G5, C5⟩

def isTrue : Option (VRes × St) → Bool
  | some (.ret (.bool true), _) => true
  | _ => false
theorem isTrue_eq {o : Option (VRes × St)} (h : isTrue o = true) : ∃ σ, o = some (.ret (.bool true), σ) := by
  unfold isTrue at h
  split at h
  · exact ⟨_, rfl⟩
  · cases h
theorem wrap_nat {n : Nat} (h : n < 2 ^ 63) : IntKind.i64.wrap (n : Int) = n := wrap_i64 (by omega) (by omega)
end Go.Proofs.Ytplhelapcpcncaa.Q

/- Rows, written or not. -/
set_option linter.unusedVariables false
set_option linter.unusedSimpArgs false
set_option maxRecDepth 100000
namespace Go.Proofs.Ytplhelapcpcncaa.Q
open Go Go.RowKit Go.Proofs

/-- w is a row of n elements of k cells each; it may be a part of an object. -/
def RowS (σ : St) (k : Nat) (w : V) (cs : List V) (n : Nat) : Prop := RowV k w cs n ∨ (cs.length = n * k ∧ ∃ r off c, w = .hslice r off k n ∧ σ.objs[r]? = some (.cells c) ∧ off + n * k ≤ c.length ∧ (c.drop off).take (n * k) = cs)
section
variable {σ : St} {k n : Nat} {w : V} {cs : List V}
theorem RowS.keep {σ' : St} (h : RowS σ k w cs n) (hk : Keep σ σ') : RowS σ' k w cs n := by
  rcases h with h | ⟨h0, r, off, c, h1, h2, h3⟩
  · exact .inl h
  · exact .inr ⟨h0, r, off, c, h1, hk.1 _ _ h2, h3⟩
theorem RowS.size (h : RowS σ k w cs n) : cs.length = n * k := by
  rcases h with h | ⟨h0, _⟩
  · exact h.1
  · exact h0
theorem RowS.one (h : RowS σ k w cs n) : one w = true := by
  rcases h with h | ⟨h0, r, off, c, rfl, _⟩
  · exact h.one
  · rfl
theorem RowS.len (h : RowS σ k w cs n) {t e : TypeId} (ht : Try.prog.underlying t = some (.slice e)) : vlen Try.prog t w = some (.int .i64 (n : Nat)) := by
  rcases h with h | ⟨h0, r, off, c, rfl, _⟩
  · exact h.len ht
  · simp [vlen, ht]
/-- The place of an element: what may be read there. -/
def At (σ : St) (p : V) (c : List V) : Prop := (∃ cs o, p = .eptr cs o ∧ o + c.length ≤ cs.length ∧ (cs.drop o).take c.length = c) ∨ ∃ r o cs, p = .optr r o ∧ σ.objs[r]? = some (.cells cs) ∧ o + c.length ≤ cs.length ∧ (cs.drop o).take c.length = c
theorem RowS.at (h : RowS σ k w cs n) {t e : TypeId} (ht : Try.prog.underlying t = some (.slice e)) (hs : sizeT Try.prog e = some k) (hk : 0 < k) {i : Nat} (hi : i < n) {kk : IntKind} :
    ∃ p, vindexAddr Try.prog t w (.int kk (i : Int)) = some p ∧ At σ p ((cs.drop (i * k)).take k) := by
  have hsz := h.size
  have hle : i * k + k ≤ n * k := by
    have : (i + 1) * k ≤ n * k := Nat.mul_le_mul_right k hi
    rwa [Nat.add_mul, Nat.one_mul] at this
  have hpl : ((cs.drop (i * k)).take k).length = k := by rw [List.length_take, List.length_drop]; omega
  rcases h with h | ⟨h0, r, off, c, rfl, h2, h3, h4⟩
  · refine ⟨_, RowV.addr h ht hs hk (kk := kk) (i := (i : Int)) (by omega) (by omega), .inl ⟨cs, i * k, by rw [Int.toNat_natCast], by rw [hpl]; omega, by rw [hpl]⟩⟩
  · have hi' : (i : Int) < n := by omega
    refine ⟨.optr r (off + i * k), by simp [vindexAddr, ht, hs, hi'], .inr ⟨r, _, c, rfl, h2, by rw [hpl]; omega, ?_⟩⟩
    rw [hpl, ← h4, List.drop_take, List.drop_drop, List.take_take]
    congr 1
    omega
theorem At.keep {σ' : St} {p : V} {c : List V} (h : At σ p c) (hk : Keep σ σ') : At σ' p c := by
  rcases h with h | ⟨r, o, cs, h1, h2, h3⟩
  · exact .inl h
  · exact .inr ⟨r, o, cs, h1, hk.1 _ _ h2, h3⟩
theorem At.load {p : V} {c : List V} (h : At σ p c) {e : TypeId} (ha : isAggT Try.prog e = some true) (hs : sizeT Try.prog e = some c.length) : vload Try.prog σ.objs e p = some (.agg c) := by
  rcases h with ⟨cs, o, rfl, h1, h2⟩ | ⟨r, o, cs, rfl, hr, h1, h2⟩
  · simp only [vload, vcellsAt, vpart, ha, hs, if_pos h1, h2]
  · simp only [vload, vcellsAt, hr, vpart, ha, hs, if_pos h1, h2]
theorem At.load1 {p : V} {v : V} (h : At σ p [v]) {e : TypeId} (ha : isAggT Try.prog e = some false) : vload Try.prog σ.objs e p = some v := by
  have key : ∀ (cs : List V) (o : Nat), o + 1 ≤ cs.length → (cs.drop o).take 1 = [v] → cs[o]? = some v := by
    intro cs o h1 h2
    have := congrArg (·[0]?) h2
    simpa using this
  rcases h with ⟨cs, o, rfl, h1, h2⟩ | ⟨r, o, cs, rfl, hr, h1, h2⟩
  · simp only [vload, vcellsAt, vpart, ha]; exact key cs o h1 h2
  · simp only [vload, vcellsAt, hr, vpart, ha]; exact key cs o h1 h2
/-- A cell of what lies there. -/
theorem At.part {p : V} {c : List V} (h : At σ p c) {j m : Nat} (hj : j + m ≤ c.length) : ∃ p', (∀ (e : TypeId) (f : Nat), (∀ q o, vfieldAddr Try.prog e (.optr q o) f = some (.optr q (o + j))) → (∀ cs o, vfieldAddr Try.prog e (.eptr cs o) f = some (.eptr cs (o + j))) → vfieldAddr Try.prog e p f = some p') ∧ At σ p' ((c.drop j).take m) := by
  have hpl : ((c.drop j).take m).length = m := by rw [List.length_take, List.length_drop]; omega
  have cut : ∀ (cs : List V) (o : Nat), o + c.length ≤ cs.length → (cs.drop o).take c.length = c → (cs.drop (o + j)).take m = (c.drop j).take m := by
    intro cs o h1 h2
    have h3 : c.drop j = ((cs.drop o).take c.length).drop j := by rw [h2]
    rw [h3, List.drop_take, List.drop_drop, List.take_take]
    congr 1
    omega
  rcases h with ⟨cs, o, rfl, h1, h2⟩ | ⟨r, o, cs, rfl, hr, h1, h2⟩
  · exact ⟨.eptr cs (o + j), fun e f _ h => h cs o, .inl ⟨cs, o + j, rfl, by rw [hpl]; omega, by rw [hpl]; exact cut cs o h1 h2⟩⟩
  · exact ⟨.optr r (o + j), fun e f h _ => h r o, .inr ⟨r, o + j, cs, rfl, hr, by rw [hpl]; omega, by rw [hpl]; exact cut cs o h1 h2⟩⟩
end
end Go.Proofs.Ytplhelapcpcncaa.Q

set_option linter.unusedVariables false
set_option linter.unusedSimpArgs false
namespace Go.Proofs.Ytplhelapcpcncaa.Q
open Go Go.RowKit Go.Proofs

/-- A value: kind, number, text, parts. -/
inductive Val where
  | mk (kind num : Int) (text : List UInt8) (list : List Val)

mutual
/-- These cells are the value. -/
inductive ValC : Val → List V → Prop
  | mk {k n : Int} {t : List UInt8} {l : List Val} {w : V} : InI64 k → InI64 n → ValsW l w → ValC (.mk k n t l) [.int .i64 k, .int .i64 n, .str t, w]
/-- This slice is the list of values. -/
inductive ValsW : List Val → V → Prop
  | nil : ValsW [] .nils
  | row {l : List Val} {cs : List V} {p : Perm} : ValsC l cs → ValsW l (.slice p 4 cs l.length)
inductive ValsC : List Val → List V → Prop
  | nil : ValsC [] []
  | cons {v : Val} {c : List V} {l : List Val} {cs : List V} : ValC v c → ValsC l cs → ValsC (v :: l) (c ++ cs)
end

theorem ValC.inv {v : Val} {c : List V} (h : ValC v c) : ∃ k n t l w, v = .mk k n t l ∧ c = [.int .i64 k, .int .i64 n, .str t, w] ∧ ValsW l w ∧ InI64 k ∧ InI64 n := by
  cases h with
  | mk h1 h2 h3 => exact ⟨_, _, _, _, _, rfl, rfl, h3, h1, h2⟩
theorem ValC.len {v : Val} {c : List V} (h : ValC v c) : c.length = 4 := by
  obtain ⟨k, n, t, l, w, rfl, rfl, _⟩ := h.inv
  rfl
theorem ValsW.one {l : List Val} {w : V} (h : ValsW l w) : one w = true := by
  cases h <;> rfl
theorem ValC.one {v : Val} {c : List V} (h : ValC v c) : c.all one = true := by
  obtain ⟨k, n, t, l, w, rfl, rfl, hw, _⟩ := h.inv
  simp only [List.all_cons, List.all_nil, hw.one]
  rfl
theorem ValsC.len : ∀ {l : List Val} {cs : List V}, ValsC l cs → cs.length = l.length * 4
  | [], _, h => by cases h; rfl
  | v :: l, _, h => by
    cases h with
    | cons h1 h2 => rw [List.length_append, h1.len, h2.len, List.length_cons]; omega
theorem ValsC.get : ∀ {l : List Val} {cs : List V}, ValsC l cs → ∀ {i : Nat} (hi : i < l.length), ValC l[i] ((cs.drop (i * 4)).take 4)
  | [], _, h, i, hi => by simp at hi
  | v :: l, _, h, i, hi => by
    cases h with
    | @cons _ c _ cs h1 h2 =>
      cases i with
      | zero =>
        have : ((c ++ cs).drop (0 * 4)).take 4 = c := by
          rw [Nat.zero_mul, List.drop_zero, ← h1.len, List.take_left]
        rw [this]
        exact h1
      | succ i =>
        have : (c ++ cs).drop ((i + 1) * 4) = cs.drop (i * 4) := by
          rw [show (i + 1) * 4 = c.length + i * 4 by rw [h1.len]; omega, List.drop_length_add_append]
        rw [this]
        exact h2.get (by simpa using hi)

theorem VT22 : Try.prog.underlying 22 = some (.slice 29) := by kernel_rfl
theorem VS24 : sizeT Try.prog 29 = some 4 := by kernel_rfl
theorem VG24 : isAggT Try.prog 29 = some true := by kernel_rfl
theorem VG22 : isAggT Try.prog 22 = some false := by kernel_rfl
theorem VS22 : sizeT Try.prog 22 = some 1 := by kernel_rfl
theorem T9 : Try.prog.underlying 9 = some .string := by kernel_rfl
theorem G9 : isAggT Try.prog 9 = some false := by kernel_rfl
theorem S9 : sizeT Try.prog 9 = some 1 := by kernel_rfl
theorem FV0 (r n : Nat) : vfieldAddr Try.prog 29 (.optr r n) 0 = some (.optr r n) := by kernel_rfl
theorem FV1 (r n : Nat) : vfieldAddr Try.prog 29 (.optr r n) 1 = some (.optr r (n + 1)) := by kernel_rfl
theorem FV2 (r n : Nat) : vfieldAddr Try.prog 29 (.optr r n) 2 = some (.optr r (n + 2)) := by kernel_rfl
theorem FV3 (r n : Nat) : vfieldAddr Try.prog 29 (.optr r n) 3 = some (.optr r (n + 3)) := by kernel_rfl
def val0C : List V := [.int .i64 0, .int .i64 0, .str [], .nils]
theorem VZ24 : zeroT Try.prog 29 = some (.agg val0C) := by kernel_rfl
theorem vlen_str {t : TypeId} {s : List UInt8} (ht : Try.prog.underlying t = some .string) : vlen Try.prog t (.str s) = some (.int .i64 s.length) := by
  simp [vlen, ht]

theorem ValsW.len {l : List Val} {w : V} (h : ValsW l w) : vlen Try.prog 22 w = some (.int .i64 l.length) := by
  cases h <;> simp [vlen, VT22]
/-- A part of it. -/
theorem ValsW.get {l : List Val} {w : V} (h : ValsW l w) {i : Nat} (hi : i < l.length) : ∃ cs c, vindexAddr Try.prog 22 w (.int .i64 i) = some (.eptr cs (i * 4)) ∧ (∀ objs, vload Try.prog objs 29 (.eptr cs (i * 4)) = some (.agg c)) ∧ ValC l[i] c := by
  cases h with
  | nil => simp at hi
  | @row _ cs p h =>
    have hl := h.len
    have hne : cs ≠ [] := by
      rintro rfl
      simp only [List.length_nil] at hl
      omega
    refine ⟨cs, _, ?_, fun objs => ?_, h.get hi⟩
    · simp [vindexAddr, VT22, VS24, hi, hne]
    · have : i * 4 + 4 ≤ cs.length := by omega
      simp [vload, vcellsAt, vpart, VG24, VS24, this]

/-- An object that is a value. -/
def IsV (σ : St) (q : Nat) (c : List V) : Prop := σ.objs[q]? = some (.cells c)
section
variable {σ : St} {q : Nat} {k n : Int} {t : List UInt8} {w : V}
theorem IsV.kind (h : IsV σ q [.int .i64 k, .int .i64 n, .str t, w]) : vload Try.prog σ.objs 3 (.optr q 0) = some (.int .i64 k) := by rw [vload_obj h G3]; rfl
theorem IsV.num (h : IsV σ q [.int .i64 k, .int .i64 n, .str t, w]) : vload Try.prog σ.objs 3 (.optr q 1) = some (.int .i64 n) := by rw [vload_obj h G3]; rfl
theorem IsV.text (h : IsV σ q [.int .i64 k, .int .i64 n, .str t, w]) : vload Try.prog σ.objs 9 (.optr q 2) = some (.str t) := by rw [vload_obj h G9]; rfl
theorem IsV.list (h : IsV σ q [.int .i64 k, .int .i64 n, .str t, w]) : vload Try.prog σ.objs 22 (.optr q 3) = some w := by rw [vload_obj h VG22]; rfl
end
theorem IsV.load {σ : St} {q : Nat} {c : List V} (h : IsV σ q c) (hc : c.length = 4) : vload Try.prog σ.objs 29 (.optr q 0) = some (.agg c) := vload_agg h VG24 (by rw [hc]; exact VS24)
theorem IsV.new {σ : St} {o c : List V} (hc : c.length = 4) (ho : o.length = 4) (h1 : c.all one = true) : vstore Try.prog ⟨σ.objs ++ [Ob.cells o], σ.toks⟩ 29 (.optr σ.objs.length 0) (.agg c) = some ⟨(σ.objs ++ [Ob.cells o]).set σ.objs.length (Ob.cells c), σ.toks⟩ :=
  vstore_agg (push_new _ _) (by rw [hc]; exact VS24) (by rw [hc, ho]) h1
theorem IsV.made {σ : St} {o c : List V} : IsV ⟨(σ.objs ++ [Ob.cells o]).set σ.objs.length (Ob.cells c), σ.toks⟩ σ.objs.length c := obj_set (push_new _ _)
theorem Keep.madeV {σ0 σ : St} (h : Keep σ0 σ) (o c : List V) : Keep σ0 ⟨(σ.objs ++ [Ob.cells o]).set σ.objs.length (Ob.cells c), σ.toks⟩ :=
  h.trans (((Keep.refl σ).push (.cells o)).setNew (Nat.le_refl _) _)
theorem Keep.atV {σ σ' : St} (h : Keep σ σ') {q : Nat} {c : List V} (hq : IsV σ q c) : IsV σ' q c := h.1 _ _ hq

mutual
def weight : Val → Nat
  | .mk _ _ t l => 1 + t.length + weights l
def weights : List Val → Nat
  | [] => 0
  | v :: l => weight v + weights l
end
theorem weights_mem : ∀ {l : List Val} {v : Val}, v ∈ l → weight v ≤ weights l
  | [], v, h => by cases h
  | a :: l, v, h => by
    rw [weights]
    rcases List.mem_cons.1 h with rfl | h
    · omega
    · have := weights_mem h; omega
theorem weights_append (a b : List Val) : weights (a ++ b) = weights a + weights b := by
  induction a with
  | nil => simp [weights]
  | cons v a ih => rw [List.cons_append, weights, weights, ih]; omega
theorem weights_take_succ {l : List Val} {i : Nat} (h : i < l.length) : weights (l.take (i + 1)) = weights (l.take i) + weight l[i] := by
  rw [List.take_succ_eq_append_getElem h, weights_append]
  simp [weights]
theorem weights_take_le (l : List Val) (i : Nat) : weights (l.take i) ≤ weights l := by
  have := weights_append (l.take i) (l.drop i)
  rw [List.take_append_drop] at this
  omega
theorem weight_pos (v : Val) : 0 < weight v := by
  cases v; rw [weight]; omega
theorem weights_len : ∀ l : List Val, l.length ≤ weights l
  | [] => by simp
  | v :: l => by
    have := weights_len l
    have := weight_pos v
    rw [weights, List.length_cons]; omega

theorem ValC.bulk : ∀ (n : Nat) {v : Val} {c : List V}, weight v ≤ n → ValC v c → weight v ≤ vbulks c
  | 0, v, c, hn, h => by have := weight_pos v; omega
  | n + 1, v, c, hn, h => by
    obtain ⟨k, m, t, l, w, rfl, rfl, hw, _⟩ := h.inv
    rw [weight] at hn ⊢
    have rows : ∀ {l : List Val} {cs : List V}, weights l ≤ n → ValsC l cs → weights l ≤ vbulks cs := by
      intro l
      induction l with
      | nil => intro cs _ h; simp [weights]
      | cons v l ih =>
        intro cs hl h
        cases h with
        | cons h1 h2 =>
          rw [weights] at hl ⊢
          have h3 := ValC.bulk n (by omega) h1
          have h4 := ih (by omega) h2
          rw [vbulks_append]
          omega
    cases hw with
    | nil => simp [weights, vbulks, vbulk]; omega
    | row hc =>
      have := rows (by omega) hc
      simp only [vbulks, vbulk]
      omega

theorem FOV : fieldsOf Try.prog 29 = [(3, 0), (3, 1), (9, 2), (22, 3)] := by kernel_rfl
theorem CO3 : Try.prog.cellsOf 3 = 1 := by kernel_rfl
theorem CO9 : Try.prog.cellsOf 9 = 1 := by kernel_rfl
theorem CO22 : Try.prog.cellsOf 22 = 1 := by kernel_rfl
theorem CO24 : Try.prog.cellsOf 29 = 4 := by kernel_rfl
theorem one_of {cs : List V} {i : Nat} {v : V} (h : (cs.drop i).take 1 = [v]) : cs[i]? = some v := by
  have : ((cs.drop i).take 1)[0]? = some v := by rw [h]; rfl
  simpa using this

theorem list_ext4 {cs : List V} {a b c d : V} (hl : cs.length = 4) (h0 : cs[0]? = some a) (h1 : cs[1]? = some b) (h2 : cs[2]? = some c) (h3 : cs[3]? = some d) : cs = [a, b, c, d] := by
  match cs, hl with
  | [x0, x1, x2, x3], _ => simp at h0 h1 h2 h3; simp [h0, h1, h2, h3]
set_option maxRecDepth 100000 in
theorem val_VT' (K : Nat) : ∀ k, k ≤ K → ∀ {cs : List V}, VT Try.prog k 29 cs → ∃ v, ValC v cs := by
  induction K with
  | zero =>
    intro k hk cs h
    have : k = 0 := by omega
    subst this
    exact h.elim
  | succ K ihK =>
    intro k hk cs h
    cases k with
    | zero => exact h.elim
    | succ k =>
      have hS : cs.length = Try.prog.cellsOf 29 ∧ ∀ q ∈ [(3, 0), (3, 1), (9, 2), (22, 3)], VT Try.prog k q.1 ((cs.drop q.2).take (Try.prog.cellsOf q.1)) := by
        have hu := FOV
        unfold fieldsOf at hu
        split at hu
        · rename_i fs hf
          split at hu
          · cases hu
          · simp only [VT, hf] at h
            refine ⟨h.1, fun q hq => ?_⟩
            rw [← hu, List.mem_map] at hq
            obtain ⟨f, hfm, rfl⟩ := hq
            exact h.2 f hfm
        · cases hu
      obtain ⟨hl, hf⟩ := hS
      rw [CO24] at hl
      simp only [List.mem_cons, List.not_mem_nil, or_false, forall_eq_or_imp, forall_eq, CO3, CO9, CO22] at hf
      obtain ⟨f0, f1, f2, f3⟩ := hf
      obtain ⟨a, h0, w0⟩ := VT_int T3 f0
      obtain ⟨b, h1, w1⟩ := VT_int T3 f1
      obtain ⟨s, h2, w2⟩ := VT_str T9 f2
      have hlist : ∃ l w, (cs.drop 3).take 1 = [w] ∧ ValsW l w := by
        cases k with
        | zero => exact f3.elim
        | succ k =>
          simp only [VT, VT22, CO24] at f3
          rcases f3 with h | ⟨vs, len, h, h4, h5, h6⟩
          · exact ⟨[], .nils, h, .nil⟩
          · have rows : ∀ (len : Nat) (vs : List V), vs.length = len * 4 → (∀ i, i < len → VT Try.prog k 29 ((vs.drop (i * 4)).take 4)) → ∃ l, l.length = len ∧ ValsC l vs := by
              intro len
              induction len with
              | zero => 
                intro vs hv _
                have h0 : vs = [] := List.length_eq_zero_iff.1 (by simpa using hv)
                subst h0
                exact ⟨[], rfl, .nil⟩
              | succ len ih =>
                intro vs hv hi
                have hv0 := hi 0 (by omega)
                rw [Nat.zero_mul, List.drop_zero] at hv0
                obtain ⟨v, hvC⟩ := ihK k (by omega) hv0
                obtain ⟨l, hl, hlC⟩ := ih (vs.drop 4) (by rw [List.length_drop, hv]; omega) fun i hlt => by
                  have := hi (i + 1) (by omega)
                  rwa [show (i + 1) * 4 = 4 + i * 4 by omega, ← List.drop_drop] at this
                refine ⟨v :: l, by simp [hl], ?_⟩
                have := ValsC.cons hvC hlC
                rwa [List.take_append_drop] at this
            obtain ⟨l, hl, hlC⟩ := rows len vs h4 h6
            subst hl
            exact ⟨l, _, h, .row hlC⟩
      obtain ⟨l, w, h3, hw⟩ := hlist
      refine ⟨.mk a b s l, ?_⟩
      have : cs = [.int .i64 a, .int .i64 b, .str s, w] := list_ext4 hl (one_of h0) (one_of h1) (one_of h2) (one_of h3)
      rw [this]
      exact .mk (InI64_of w0) (InI64_of w1) hw

theorem val_VT (k : Nat) {cs : List V} (h : VT Try.prog k 29 cs) : ∃ v, ValC v cs := val_VT' k k (Nat.le_refl _) h

set_option maxRecDepth 100000 in
theorem val_arg {x : V} (h : ArgT Try.prog 29 x) : ∃ v c, x = .agg c ∧ ValC v c ∧ weight v ≤ vbulk x := by
  obtain ⟨k, cs, rfl, h0⟩ := ArgT_struct FOV h
  obtain ⟨v, hv⟩ := val_VT k h0
  refine ⟨v, cs, rfl, hv, ?_⟩
  have := hv.bulk _ (Nat.le_refl _)
  simp only [vbulk]
  omega
end Go.Proofs.Ytplhelapcpcncaa.Q

/- Modules of code as values; what an instruction pops and pushes. -/
set_option linter.unusedVariables false
set_option linter.unusedSimpArgs false
set_option maxRecDepth 100000
namespace Go.Proofs.Ytplhelapcpcncaa.Q
open Go Go.RowKit Go.Proofs

structure Ins where
  op : Int
  a : Int
  deriving DecidableEq
structure Fun where
  params : Int
  locals : Int
  zero : Int
  stack : Int
  code : List Ins
structure Mdl where
  consts : List Val
  funcs : List Fun

def insC (i : Ins) : List V := [.int .i64 i.op, .int .i64 i.a]
theorem insC_len (i : Ins) : (insC i).length = 2 := rfl
def CodeS (σ : St) (w : V) (l : List Ins) : Prop := RowS σ 2 w (l.flatMap insC) l.length
def FunS (σ : St) (f : Fun) (c : List V) : Prop := ∃ w, c = [.int .i64 f.params, .int .i64 f.locals, .int .i64 f.zero, .int .i64 f.stack, w] ∧ CodeS σ w f.code
def FunsS (σ : St) (w : V) (l : List Fun) : Prop := ∃ cs, RowS σ 5 w cs l.length ∧ ∀ (i : Nat) (h : i < l.length), FunS σ l[i] ((cs.drop (i * 5)).take 5)
def MdlS (σ : St) (m : Mdl) (c : List V) : Prop := ∃ w1 w2, c = [w1, w2] ∧ ValsW m.consts w1 ∧ FunsS σ w2 m.funcs
theorem FunS.keep {σ σ' : St} {f : Fun} {c : List V} (h : FunS σ f c) (hk : Keep σ σ') : FunS σ' f c := let ⟨w, h1, h2⟩ := h; ⟨w, h1, RowS.keep h2 hk⟩
theorem FunsS.keep {σ σ' : St} {w : V} {l : List Fun} (h : FunsS σ w l) (hk : Keep σ σ') : FunsS σ' w l := let ⟨cs, h1, h2⟩ := h; ⟨cs, h1.keep hk, fun i hi => (h2 i hi).keep hk⟩
theorem MdlS.keep {σ σ' : St} {m : Mdl} {c : List V} (h : MdlS σ m c) (hk : Keep σ σ') : MdlS σ' m c := let ⟨w1, w2, h1, h2, h3⟩ := h; ⟨w1, w2, h1, h2, h3.keep hk⟩
theorem FunS.len {σ : St} {f : Fun} {c : List V} (h : FunS σ f c) : c.length = 5 := by obtain ⟨w, rfl, _⟩ := h; rfl
theorem FunS.one {σ : St} {f : Fun} {c : List V} (h : FunS σ f c) : c.all one = true := by
  obtain ⟨w, rfl, h2⟩ := h
  simp only [List.all_cons, List.all_nil, RowS.one h2]
  rfl
theorem MdlS.len {σ : St} {m : Mdl} {c : List V} (h : MdlS σ m c) : c.length = 2 := by obtain ⟨w1, w2, rfl, _⟩ := h; rfl

theorem MS : sizeT Try.prog 25 = some 2 := by kernel_rfl
theorem MG : isAggT Try.prog 25 = some true := by kernel_rfl
theorem FS : sizeT Try.prog 37 = some 5 := by kernel_rfl
theorem FG : isAggT Try.prog 37 = some true := by kernel_rfl
theorem NS : sizeT Try.prog 39 = some 2 := by kernel_rfl
theorem NG : isAggT Try.prog 39 = some true := by kernel_rfl
theorem FT : Try.prog.underlying 23 = some (.slice 37) := by kernel_rfl
theorem NT : Try.prog.underlying 35 = some (.slice 39) := by kernel_rfl
theorem FsG : isAggT Try.prog 23 = some false := by kernel_rfl
theorem NsG : isAggT Try.prog 35 = some false := by kernel_rfl
theorem VsG : isAggT Try.prog 22 = some false := by kernel_rfl
theorem MF0 (r o : Nat) : vfieldAddr Try.prog 25 (.optr r o) 0 = some (.optr r o) := by kernel_rfl
theorem MF1 (r o : Nat) : vfieldAddr Try.prog 25 (.optr r o) 1 = some (.optr r (o + 1)) := by kernel_rfl
theorem NF0 (r o : Nat) : vfieldAddr Try.prog 39 (.optr r o) 0 = some (.optr r o) := by kernel_rfl
theorem NF1 (r o : Nat) : vfieldAddr Try.prog 39 (.optr r o) 1 = some (.optr r (o + 1)) := by kernel_rfl
theorem FFp (r o : Nat) : vfieldAddr Try.prog 37 (.optr r o) 0 = some (.optr r o) := by kernel_rfl
theorem FFe (cs : List V) (o : Nat) : vfieldAddr Try.prog 37 (.eptr cs o) 0 = some (.eptr cs o) := by kernel_rfl

/-- What an instruction pops and pushes. -/
def popS (m : Mdl) (i : Ins) : Int := if i.op ∈ ([3, 5, 6, 8, 10, 13, 14, 15, 16] : List Int) then 1 else if i.op ∈ ([12, 17, 18, 19, 21] : List Int) then 2 else if i.op = 20 then 3 else if i.op = 9 then ((m.funcs[i.a.toNat]?).map (·.params)).getD 0 else 0
def pushS (i : Ins) : Int := if i.op ∈ ([1, 2, 4, 9, 12, 13, 14, 15, 16, 17, 18, 19, 20, 21] : List Int) then 1 else 0

/-- A call's function is there. -/
def callOk (m : Mdl) (i : Ins) : Prop := i.op = 9 → 0 ≤ i.a ∧ i.a < m.funcs.length

theorem params_at {σ : St} {w : V} {l : List Fun} (h : FunsS σ w l) {a : Int} (h0 : 0 ≤ a) (h1 : a < l.length) : ∃ p, vindexAddr Try.prog 23 w (.int .i64 a) = some p ∧ vfieldAddr Try.prog 37 p 0 = some p ∧ ∀ σ', Keep σ σ' → vload Try.prog σ'.objs 3 p = some (.int .i64 (((l[a.toNat]?).map (·.params)).getD 0)) := by
  obtain ⟨cs, hr, hf⟩ := h
  obtain ⟨n, rfl⟩ : ∃ n : Nat, a = (n : Int) := ⟨a.toNat, by omega⟩
  have hn : n < l.length := by omega
  obtain ⟨p, hp, hat⟩ := hr.at FT FS (by omega) hn (kk := .i64)
  obtain ⟨w', hc, _⟩ := hf n hn
  obtain ⟨p', hp', hat'⟩ := hat.part (j := 0) (m := 1) (by rw [hc]; simp)
  have hpp := hp' 37 0 (fun q o => by rw [FFp]; rfl) (fun cs o => by rw [FFe]; rfl)
  have hself : vfieldAddr Try.prog 37 p 0 = some p := by
    rcases hat with ⟨cs2, o, rfl, _⟩ | ⟨r, o, cs2, rfl, _⟩
    · exact FFe _ _
    · exact FFp _ _
  have : p' = p := by rw [hself] at hpp; injection hpp with e; exact e.symm
  subst this
  refine ⟨p', hp, hself, fun σ' hk => ?_⟩
  rw [hc] at hat'
  have := (hat'.keep hk).load1 (v := .int .i64 (l[n]).params) G3
  rw [this, Int.toNat_natCast, List.getElem?_eq_getElem hn]
  rfl

theorem ins_cases {o : Int} (h : 1 ≤ o ∧ o ≤ 21) : o = 1 ∨ o = 2 ∨ o = 3 ∨ o = 4 ∨ o = 5 ∨ o = 6 ∨ o = 7 ∨ o = 8 ∨ o = 9 ∨ o = 10 ∨ o = 11 ∨ o = 12 ∨ o = 13 ∨ o = 14 ∨ o = 15 ∨ o = 16 ∨ o = 17 ∨ o = 18 ∨ o = 19 ∨ o = 20 ∨ o = 21 := by omega

set_option maxRecDepth 100000 in
theorem effect_does {σ : St} {m : Mdl} {c : List V} (hm : MdlS σ m c) (i : Ins) (hi : callOk m i) : ∃ σ', Does Try.prog prims 45 [.agg c, .agg (insC i)] σ (.ret (.tuple [.int .i64 (popS m i), .int .i64 (pushS i)])) σ' ∧ Keep σ σ' := by
  have key : ∃ q σ', Does Try.prog prims 45 [.agg c, .agg (insC i)] σ q σ' ∧ q = .ret (.tuple [.int .i64 (popS m i), .int .i64 (pushS i)]) ∧ Keep σ σ' := by
    apply k45_is.does (by simp)
    obtain ⟨w1, w2, hc, hv, hf⟩ := hm
    obtain ⟨s1, hs1⟩ : ∃ s1 : St, s1 = ⟨(σ.objs ++ [Ob.cells c]) ++ [Ob.cells (insC i)], σ.toks⟩ := ⟨_, rfl⟩
    have k1 : Keep σ s1 := by rw [hs1]; exact ((Keep.refl σ).push _).push _
    have o1 : s1.objs[σ.objs.length]? = some (.cells [w1, w2]) := by rw [hs1, ← hc]; simp
    have o2 : s1.objs[σ.objs.length + 1]? = some (.cells (insC i)) := by rw [hs1]; simp
    have ld0 : vload Try.prog s1.objs 3 (.optr (σ.objs.length + 1) 0) = some (.int .i64 i.op) := by rw [vload_obj o2 G3]; rfl
    have ld1 : vload Try.prog s1.objs 3 (.optr (σ.objs.length + 1) 1) = some (.int .i64 i.a) := by rw [vload_obj o2 G3]; rfl
    have ldf : vload Try.prog s1.objs 23 (.optr σ.objs.length 1) = some w2 := by rw [vload_obj o1 FsG]; rfl
    have hlen : (σ.objs ++ [Ob.cells c]).length = σ.objs.length + 1 := by simp
    obtain ⟨o, a⟩ := i
    by_cases ho : 1 ≤ o ∧ o ≤ 21
    · by_cases h9 : o = 9
      · subst h9
        obtain ⟨p, hp, hpf, hpl⟩ := params_at hf (hi rfl).1 (hi rfl).2
        have hl := hpl s1 k1
        simp only [k45_a, WK, vop, evAll, evOpt, evParts, vbuiltin, vun, vextract, Nat.reduceLT, Nat.reduceEqDiff, ↓reduceIte, reduceCtorEq, Nat.reduceAdd, Int.reduceLT, Int.reduceNeg, valloc_std, noSB, vhot, vbox, vcells, hlen, ← hs1, NF0, NF1, MF1, ld0, ld1, ldf, Int.reduceEq, hp, hpf, hl]
        refine ⟨?_, k1⟩
        simp [popS, pushS]
      · rcases ins_cases ho with rfl | rfl | rfl | rfl | rfl | rfl | rfl | rfl | rfl | rfl | rfl | rfl | rfl | rfl | rfl | rfl | rfl | rfl | rfl | rfl | rfl <;>
        first
        | exact absurd rfl h9
        | (simp only [k45_a, WK, vop, evAll, evOpt, evParts, vbuiltin, vun, vextract, Nat.reduceLT, Nat.reduceEqDiff, ↓reduceIte, reduceCtorEq, Nat.reduceAdd, Int.reduceLT, Int.reduceNeg, valloc_std, noSB, vhot, vbox, vcells, hlen, ← hs1, NF0, NF1, MF1, ld0, Int.reduceEq]
           refine ⟨?_, k1⟩
           simp [popS, pushS])
    · have ne : ∀ k : Int, 1 ≤ k → k ≤ 21 → (o = k) = False := fun k h1 h2 => eq_false fun e => ho (by omega)
      simp only [k45_a, WK, vop, evAll, evOpt, evParts, vbuiltin, vun, vextract, Nat.reduceLT, Nat.reduceEqDiff, ↓reduceIte, reduceCtorEq, Nat.reduceAdd, Int.reduceLT, Int.reduceNeg, valloc_std, noSB, vhot, vbox, vcells, hlen, ← hs1, NF0, NF1, MF1, ld0, ne 1 (by decide) (by decide), ne 2 (by decide) (by decide), ne 3 (by decide) (by decide), ne 4 (by decide) (by decide), ne 5 (by decide) (by decide), ne 6 (by decide) (by decide), ne 7 (by decide) (by decide), ne 8 (by decide) (by decide), ne 9 (by decide) (by decide), ne 10 (by decide) (by decide), ne 12 (by decide) (by decide), ne 13 (by decide) (by decide), ne 14 (by decide) (by decide), ne 15 (by decide) (by decide), ne 16 (by decide) (by decide), ne 17 (by decide) (by decide), ne 18 (by decide) (by decide), ne 19 (by decide) (by decide), ne 20 (by decide) (by decide), ne 21 (by decide) (by decide)]
      refine ⟨?_, k1⟩
      have e : ∀ l : List Int, (∀ x ∈ l, 1 ≤ x ∧ x ≤ 21) → ¬ o ∈ l := fun l h hm => ho (h o hm)
      simp only [popS, pushS]
      rw [if_neg (e _ (by decide)), if_neg (e _ (by decide)), if_neg (fun h => ho (by omega)), if_neg (fun h => ho (by omega)), if_neg (e _ (by decide))]
  obtain ⟨q, σ', h1, rfl, h2⟩ := key
  exact ⟨σ', h1, h2⟩
end Go.Proofs.Ytplhelapcpcncaa.Q

/- Maps from numbers to numbers; what the document says an instruction pops and pushes; which numbers are right. -/
set_option linter.unusedVariables false
set_option linter.unusedSimpArgs false
set_option maxRecDepth 100000
namespace Go.Proofs.Ytplhelapcpcncaa.Q
open Go Go.RowKit Go.Proofs

theorem pops_does {σ : St} {m : Mdl} {c : List V} (hm : MdlS σ m c) (i : Ins) (hi : callOk m i) : ∃ σ', Does Try.prog prims 46 [.agg c, .agg (insC i)] σ (.ret (.int .i64 (popS m i))) σ' ∧ Keep σ σ' := by
  have key : ∃ q σ', Does Try.prog prims 46 [.agg c, .agg (insC i)] σ q σ' ∧ q = .ret (.int .i64 (popS m i)) ∧ Keep σ σ' := by
    apply k46_is.does (by simp)
    obtain ⟨w1, w2, hc, hv, hf⟩ := hm
    obtain ⟨s1, hs1⟩ : ∃ s1 : St, s1 = ⟨(σ.objs ++ [Ob.cells c]) ++ [Ob.cells (insC i)], σ.toks⟩ := ⟨_, rfl⟩
    have k1 : Keep σ s1 := by rw [hs1]; exact ((Keep.refl σ).push _).push _
    have o1 : s1.objs[σ.objs.length]? = some (.cells [w1, w2]) := by rw [hs1, ← hc]; simp
    have o2 : s1.objs[σ.objs.length + 1]? = some (.cells (insC i)) := by rw [hs1]; simp
    have ld0 : vload Try.prog s1.objs 3 (.optr (σ.objs.length + 1) 0) = some (.int .i64 i.op) := by rw [vload_obj o2 G3]; rfl
    have ld1 : vload Try.prog s1.objs 3 (.optr (σ.objs.length + 1) 1) = some (.int .i64 i.a) := by rw [vload_obj o2 G3]; rfl
    have ldf : vload Try.prog s1.objs 23 (.optr σ.objs.length 1) = some w2 := by rw [vload_obj o1 FsG]; rfl
    have hlen : (σ.objs ++ [Ob.cells c]).length = σ.objs.length + 1 := by simp
    obtain ⟨o, a⟩ := i
    by_cases ho : 1 ≤ o ∧ o ≤ 21
    · by_cases h9 : o = 9
      · subst h9
        obtain ⟨p, hp, hpf, hpl⟩ := params_at hf (hi rfl).1 (hi rfl).2
        have hl := hpl s1 k1
        simp only [k46_a, WK, vop, evAll, evOpt, evParts, vbuiltin, vun, vextract, Nat.reduceLT, Nat.reduceEqDiff, ↓reduceIte, reduceCtorEq, Nat.reduceAdd, Int.reduceLT, Int.reduceNeg, valloc_std, noSB, vhot, vbox, vcells, hlen, ← hs1, NF0, NF1, MF1, ld0, ld1, ldf, Int.reduceEq, hp, hpf, hl]
        refine ⟨?_, k1⟩
        simp [popS]
      · rcases ins_cases ho with rfl | rfl | rfl | rfl | rfl | rfl | rfl | rfl | rfl | rfl | rfl | rfl | rfl | rfl | rfl | rfl | rfl | rfl | rfl | rfl | rfl <;>
        first
        | exact absurd rfl h9
        | (simp only [k46_a, WK, vop, evAll, evOpt, evParts, vbuiltin, vun, vextract, Nat.reduceLT, Nat.reduceEqDiff, ↓reduceIte, reduceCtorEq, Nat.reduceAdd, Int.reduceLT, Int.reduceNeg, valloc_std, noSB, vhot, vbox, vcells, hlen, ← hs1, NF0, NF1, MF1, ld0, Int.reduceEq]
           refine ⟨?_, k1⟩
           simp [popS])
    · have ne : ∀ k : Int, 1 ≤ k → k ≤ 21 → (o = k) = False := fun k h1 h2 => eq_false fun e => ho (by omega)
      simp only [k46_a, WK, vop, evAll, evOpt, evParts, vbuiltin, vun, vextract, Nat.reduceLT, Nat.reduceEqDiff, ↓reduceIte, reduceCtorEq, Nat.reduceAdd, Int.reduceLT, Int.reduceNeg, valloc_std, noSB, vhot, vbox, vcells, hlen, ← hs1, NF0, NF1, MF1, ld0, ne 3 (by decide) (by decide), ne 5 (by decide) (by decide), ne 6 (by decide) (by decide), ne 8 (by decide) (by decide), ne 9 (by decide) (by decide), ne 10 (by decide) (by decide), ne 12 (by decide) (by decide), ne 13 (by decide) (by decide), ne 14 (by decide) (by decide), ne 15 (by decide) (by decide), ne 16 (by decide) (by decide), ne 17 (by decide) (by decide), ne 18 (by decide) (by decide), ne 19 (by decide) (by decide), ne 20 (by decide) (by decide), ne 21 (by decide) (by decide)]
      refine ⟨?_, k1⟩
      have e : ∀ l : List Int, (∀ x ∈ l, 1 ≤ x ∧ x ≤ 21) → ¬ o ∈ l := fun l h hm => ho (h o hm)
      simp only [popS]
      rw [if_neg (e _ (by decide)), if_neg (e _ (by decide)), if_neg (fun h => ho (by omega)), if_neg (fun h => ho (by omega))]
  obtain ⟨q, σ', h1, rfl, h2⟩ := key
  exact ⟨σ', h1, h2⟩
theorem pushes_does (σ : St) (i : Ins) : ∃ σ', Does Try.prog prims 47 [.agg (insC i)] σ (.ret (.int .i64 (pushS i))) σ' ∧ Keep σ σ' := by
  have key : ∃ q σ', Does Try.prog prims 47 [.agg (insC i)] σ q σ' ∧ q = .ret (.int .i64 (pushS i)) ∧ Keep σ σ' := by
    apply k47_is.does (by simp)
    obtain ⟨s1, hs1⟩ : ∃ s1 : St, s1 = ⟨σ.objs ++ [Ob.cells (insC i)], σ.toks⟩ := ⟨_, rfl⟩
    have k1 : Keep σ s1 := by rw [hs1]; exact (Keep.refl σ).push _
    have o2 : s1.objs[σ.objs.length]? = some (.cells (insC i)) := by rw [hs1]; simp
    have ld0 : vload Try.prog s1.objs 3 (.optr σ.objs.length 0) = some (.int .i64 i.op) := by rw [vload_obj o2 G3]; rfl
    obtain ⟨o, a⟩ := i
    by_cases ho : 1 ≤ o ∧ o ≤ 21
    · rcases ins_cases ho with rfl | rfl | rfl | rfl | rfl | rfl | rfl | rfl | rfl | rfl | rfl | rfl | rfl | rfl | rfl | rfl | rfl | rfl | rfl | rfl | rfl <;>
      (simp only [k47_a, WK, vop, evAll, evOpt, evParts, vbuiltin, vun, vextract, Nat.reduceLT, Nat.reduceEqDiff, ↓reduceIte, reduceCtorEq, Nat.reduceAdd, Int.reduceLT, Int.reduceNeg, valloc_std, noSB, vhot, vbox, vcells, ← hs1, NF0, ld0, Int.reduceEq]
       refine ⟨?_, k1⟩
       simp [pushS])
    · have ne : ∀ k : Int, 1 ≤ k → k ≤ 21 → (o = k) = False := fun k h1 h2 => eq_false fun e => ho (by omega)
      simp only [k47_a, WK, vop, evAll, evOpt, evParts, vbuiltin, vun, vextract, Nat.reduceLT, Nat.reduceEqDiff, ↓reduceIte, reduceCtorEq, Nat.reduceAdd, Int.reduceLT, Int.reduceNeg, valloc_std, noSB, vhot, vbox, vcells, ← hs1, NF0, ld0, ne 1 (by decide) (by decide), ne 2 (by decide) (by decide), ne 4 (by decide) (by decide), ne 9 (by decide) (by decide), ne 12 (by decide) (by decide), ne 13 (by decide) (by decide), ne 14 (by decide) (by decide), ne 15 (by decide) (by decide), ne 16 (by decide) (by decide), ne 17 (by decide) (by decide), ne 18 (by decide) (by decide), ne 19 (by decide) (by decide), ne 20 (by decide) (by decide), ne 21 (by decide) (by decide)]
      refine ⟨?_, k1⟩
      have e : ∀ l : List Int, (∀ x ∈ l, 1 ≤ x ∧ x ≤ 21) → ¬ o ∈ l := fun l h hm => ho (h o hm)
      simp only [pushS]
      rw [if_neg (e _ (by decide))]
  obtain ⟨q, σ', h1, rfl, h2⟩ := key
  exact ⟨σ', h1, h2⟩

/-! ### A map from numbers to numbers -/
theorem MU : Try.prog.underlying 68 = some (.map 3 3) := by kernel_rfl
theorem MK : keyDesc Try.prog 3 = some (.int .i64) := by kernel_rfl
theorem MZ : zeroT Try.prog 3 = some (.int .i64 0) := by kernel_rfl
def mpE (l : List (Int × Int)) : List (V × V) := l.map fun p => (.int .i64 p.1, .int .i64 p.2)
def lookI (l : List (Int × Int)) (k : Int) : Option Int := match l with
  | [] => none
  | p :: l => if p.1 = k then some p.2 else lookI l k
theorem vfind_mpE (k : Int) : ∀ (l : List (Int × Int)) (i : Nat), match lookI l k with
    | some v => ∃ j, vfind (.int .i64) (.int .i64 k) (mpE l) i = some (some (j, .int .i64 v))
    | none => vfind (.int .i64) (.int .i64 k) (mpE l) i = some none
  | [], i => rfl
  | p :: l, i => by
    have ih := vfind_mpE k l (i + 1)
    unfold lookI
    by_cases h : p.1 = k
    · rw [if_pos h]
      exact ⟨i, by simp [mpE, vfind, keyEq, h]⟩
    · rw [if_neg h]
      have e : vfind (.int .i64) (.int .i64 k) (mpE (p :: l)) i = vfind (.int .i64) (.int .i64 k) (mpE l) (i + 1) := by
        have h' : ¬ k = p.1 := fun e => h e.symm
        simp [mpE, vfind, keyEq, h']
      rw [e]
      exact ih
def IsMp (σ : St) (r : Nat) (l : List (Int × Int)) : Prop := σ.objs[r]? = some (.mp (mpE l))
theorem IsMp.put {σ : St} {r : Nat} {l : List (Int × Int)} (h : IsMp σ r l) {k v : Int} (hk : lookI l k = none) : ∃ σ', vmapSet Try.prog σ 68 (.omap r) (.int .i64 k) (.int .i64 v) = some σ' ∧ IsMp σ' r (l ++ [(k, v)]) ∧ KeepX r σ σ' ∧ σ'.toks = σ.toks := by
  have hf := vfind_mpE k l 0
  rw [hk] at hf
  simp only at hf
  have e : mpE l ++ [(V.int .i64 k, V.int .i64 v)] = mpE (l ++ [(k, v)]) := by simp [mpE]
  obtain ⟨σ', hs⟩ : ∃ σ' : St, σ' = ⟨σ.objs.set r (.mp (mpE (l ++ [(k, v)]))), σ.toks⟩ := ⟨_, rfl⟩
  have hlt := (List.getElem?_eq_some_iff.1 h).1
  refine ⟨σ', by simp only [vmapSet, MU, show σ.objs[r]? = some (.mp (mpE l)) from h, MK, hf, hs, e], by rw [IsMp, hs]; simp [hlt], ⟨fun q o hq ho => ?_, by rw [hs]; exact Nat.le_refl _, fun _ h => by rw [hs]; exact h⟩, by rw [hs]⟩
  rw [hs]
  simp only
  rw [List.getElem?_set_ne (Ne.symm hq)]
  exact ho
theorem IsMp.look {σ : St} {r : Nat} {l : List (Int × Int)} (h : IsMp σ r l) (k : Int) : vlookup Try.prog σ.objs 68 (.omap r) (.int .i64 k) true = some (.tuple [.int .i64 ((lookI l k).getD 0), .bool (lookI l k).isSome]) := by
  have hf := vfind_mpE k l 0
  cases hk : lookI l k with
  | none =>
    rw [hk] at hf
    simp only at hf
    simp only [vlookup, MU, show σ.objs[r]? = some (.mp (mpE l)) from h, MK, MZ, hf, if_true]
    rfl
  | some v =>
    rw [hk] at hf
    obtain ⟨j, hf⟩ := hf
    simp only [vlookup, MU, show σ.objs[r]? = some (.mp (mpE l)) from h, MK, MZ, hf, if_true]
    rfl
end Go.Proofs.Ytplhelapcpcncaa.Q

set_option linter.unusedVariables false
set_option linter.unusedSimpArgs false
set_option maxRecDepth 100000
namespace Go.Proofs.Ytplhelapcpcncaa.Q
open Go Go.RowKit Go.Proofs

def limL (m : Mdl) (st : Int) (n : Nat) (f : Fun) : List (Int × Int) := [(1, (m.consts.length : Nat)), (2, f.locals), (3, f.locals), (4, st), (5, st), (7, (f.code.length : Nat)), (8, (f.code.length : Nat)), (9, (n : Nat)), (11, 1099511627777), (12, 14)]
def rightS (m : Mdl) (st : Int) (n : Nat) (f : Fun) (i : Ins) : Bool := match lookI (limL m st n f) i.op with
  | some l => (decide (0 ≤ i.a) && decide (i.a < l)) && (!decide (i.op = 12) || decide (3 ≤ i.a))
  | none => (decide (1 ≤ i.op) && decide (i.op ≤ 21)) && decide (i.a = 0)

theorem FZ : zeroT Try.prog 37 = some (.agg [.int .i64 0, .int .i64 0, .int .i64 0, .int .i64 0, .nils]) := by kernel_rfl
theorem FF1' (r o : Nat) : vfieldAddr Try.prog 37 (.optr r o) 1 = some (.optr r (o + 1)) := by kernel_rfl
theorem FF3' (r o : Nat) : vfieldAddr Try.prog 37 (.optr r o) 3 = some (.optr r (o + 3)) := by kernel_rfl
theorem FF4' (r o : Nat) : vfieldAddr Try.prog 37 (.optr r o) 4 = some (.optr r (o + 4)) := by kernel_rfl
theorem fun_load {σ : St} {w : V} {l : List Fun} (h : FunsS σ w l) {n : Nat} (hn : n < l.length) : ∃ p cf, vindexAddr Try.prog 23 w (.int .i64 (n : Int)) = some p ∧ FunS σ l[n] cf ∧ ∀ σ', Keep σ σ' → vload Try.prog σ'.objs 37 p = some (.agg cf) := by
  obtain ⟨cs, hr, hf⟩ := h
  obtain ⟨p, hp, hat⟩ := hr.at FT FS (by omega) hn (kk := .i64)
  have h5 := (hf n hn).len
  exact ⟨p, _, hp, hf n hn, fun σ' hk => (hat.keep hk).load FG (by rw [h5]; exact FS)⟩
/-- A variable of a function's kind that gets one. -/
theorem funmade (σ : St) {f : Fun} {cf : List V} {σ0 : St} (h : FunS σ0 f cf) (hk : Keep σ0 σ) : ∃ s1 s2 w : _, s1 = (⟨σ.objs ++ [Ob.cells [.int .i64 0, .int .i64 0, .int .i64 0, .int .i64 0, .nils]], σ.toks⟩ : St) ∧ vstore Try.prog s1 37 (.optr σ.objs.length 0) (.agg cf) = some s2 ∧ Keep σ s2 ∧ s2.objs[σ.objs.length]? = some (.cells [.int .i64 f.params, .int .i64 f.locals, .int .i64 f.zero, .int .i64 f.stack, w]) ∧ CodeS σ0 w f.code ∧ s2.objs.length = σ.objs.length + 1 := by
  obtain ⟨w, hc, hw⟩ := h
  obtain ⟨s1, hs1⟩ : ∃ s1 : St, s1 = ⟨σ.objs ++ [Ob.cells [.int .i64 0, .int .i64 0, .int .i64 0, .int .i64 0, .nils]], σ.toks⟩ := ⟨_, rfl⟩
  have k1 : Keep σ s1 := by rw [hs1]; exact (Keep.refl σ).push _
  have q1 : s1.objs[σ.objs.length]? = some (.cells [.int .i64 0, .int .i64 0, .int .i64 0, .int .i64 0, .nils]) := by rw [hs1]; exact push_new _ _
  obtain ⟨s2, e⟩ : ∃ s2 : St, s2 = ⟨s1.objs.set σ.objs.length (.cells cf), s1.toks⟩ := ⟨_, rfl⟩
  obtain ⟨k, hk2⟩ := KeepX.set_eq q1 e
  refine ⟨s1, s2, w, hs1, ?_, ⟨fun q o ho => k.1 q o (by have := (List.getElem?_eq_some_iff.1 ho).1; omega) (k1.1 q o ho), Nat.le_trans k1.2.1 k.2.1, fun j hj => k.2.2 j (k1.2.2 j hj)⟩, by rw [hk2, hc], hw, by rw [e, hs1]; simp⟩
  rw [vstore_agg (cs' := cf) q1 (by rw [hc]; exact FS) (by rw [hc]; rfl) (by rw [hc]; simp only [List.all_cons, List.all_nil, RowS.one hw]; rfl), e]

theorem right_does {σ : St} {m : Mdl} {c : List V} (hm : MdlS σ m c) (st : Int) {n : Nat} (hn : n < m.funcs.length) (i : Ins) :
    ∃ σ', Does Try.prog prims 23 [.agg c, .int .i64 st, .int .i64 (n : Int), .agg (insC i)] σ (.ret (.bool (rightS m st n m.funcs[n] i))) σ' ∧ Keep σ σ' := by
  have key : ∃ q σ', Does Try.prog prims 23 [.agg c, .int .i64 st, .int .i64 (n : Int), .agg (insC i)] σ q σ' ∧ q = .ret (.bool (rightS m st n m.funcs[n] i)) ∧ Keep σ σ' := by
    apply k23_is.does (by simp)
    obtain ⟨w1, w2, hc, hv, hf⟩ := hm
    obtain ⟨s1, hs1⟩ : ∃ s1 : St, s1 = ⟨(σ.objs ++ [Ob.cells c]) ++ [Ob.cells (insC i)], σ.toks⟩ := ⟨_, rfl⟩
    have k1 : Keep σ s1 := by rw [hs1]; exact ((Keep.refl σ).push _).push _
    have o1 : s1.objs[σ.objs.length]? = some (.cells [w1, w2]) := by rw [hs1, ← hc]; simp
    have o2 : s1.objs[σ.objs.length + 1]? = some (.cells (insC i)) := by rw [hs1]; simp
    have hlen : (σ.objs ++ [Ob.cells c]).length = σ.objs.length + 1 := by simp
    have hl1 : s1.objs.length = σ.objs.length + 2 := by rw [hs1]; simp
    obtain ⟨p, cf, hp, hF, hpl⟩ := fun_load hf hn
    obtain ⟨s2, s3, wc, hs2, st3, k3, o3, hcode, hl3⟩ := funmade s1 hF k1
    obtain ⟨f, hfe⟩ : ∃ f, f = m.funcs[n] := ⟨_, rfl⟩
    rw [← hfe] at hF o3 hcode ⊢
    obtain ⟨s4, hs4⟩ : ∃ s4 : St, s4 = ⟨s3.objs ++ [Ob.mp []], s3.toks⟩ := ⟨_, rfl⟩
    have k4 : Keep s3 s4 := by rw [hs4]; exact (Keep.refl s3).push _
    have hmk : vmakeMap s3 = (.omap s3.objs.length, s4) := by rw [hs4]; rfl
    have m0 : IsMp s4 s3.objs.length [] := by rw [IsMp, hs4]; exact push_new _ _
    have ldf : vload Try.prog s1.objs 23 (.optr σ.objs.length 1) = some w2 := by rw [vload_obj o1 FsG]; rfl
    have F : ∀ s', KeepX s3.objs.length s4 s' → vload Try.prog s'.objs 22 (.optr σ.objs.length 0) = some w1 ∧ vload Try.prog s'.objs 3 (.optr s1.objs.length 1) = some (.int .i64 f.locals) ∧ vload Try.prog s'.objs 35 (.optr s1.objs.length 4) = some wc ∧ vload Try.prog s'.objs 3 (.optr (σ.objs.length + 1) 0) = some (.int .i64 i.op) ∧ vload Try.prog s'.objs 3 (.optr (σ.objs.length + 1) 1) = some (.int .i64 i.a) := by
      intro s' hk
      have e1 := hk.1 _ _ (by omega) (k4.1 _ _ (k3.1 _ _ o1))
      have e2 := hk.1 _ _ (by omega) (k4.1 _ _ (k3.1 _ _ o2))
      have e3 := hk.1 _ _ (by omega) (k4.1 _ _ o3)
      exact ⟨by rw [vload_obj e1 VsG]; rfl, by rw [vload_obj e3 G3]; rfl, by rw [vload_obj e3 NsG]; rfl, by rw [vload_obj e2 G3]; rfl, by rw [vload_obj e2 G3]; rfl⟩
    have lv := hv.len
    have lc : vlen Try.prog 35 wc = some (.int .i64 (f.code.length : Nat)) := RowS.len hcode NT
    obtain ⟨a1, p1, m1, x1, _⟩ := m0.put (k := 1) (v := (m.consts.length : Nat)) rfl
    obtain ⟨a2, p2, m2, x2, _⟩ := m1.put (k := 2) (v := f.locals) rfl
    obtain ⟨a3, p3, m3, x3, _⟩ := m2.put (k := 3) (v := f.locals) rfl
    obtain ⟨a4, p4, m4, x4, _⟩ := m3.put (k := 4) (v := st) rfl
    obtain ⟨a5, p5, m5, x5, _⟩ := m4.put (k := 5) (v := st) rfl
    obtain ⟨a6, p6, m6, x6, _⟩ := m5.put (k := 7) (v := (f.code.length : Nat)) rfl
    obtain ⟨a7, p7, m7, x7, _⟩ := m6.put (k := 8) (v := (f.code.length : Nat)) rfl
    obtain ⟨a8, p8, m8, x8, _⟩ := m7.put (k := 9) (v := (n : Nat)) rfl
    obtain ⟨a9, p9, m9, x9, _⟩ := m8.put (k := 11) (v := 1099511627777) rfl
    obtain ⟨a10, p10, m10, x10, _⟩ := m9.put (k := 12) (v := 14) rfl
    have y1 := x1
    have y2 := y1.trans x2
    have y3 := y2.trans x3
    have y4 := y3.trans x4
    have y5 := y4.trans x5
    have y6 := y5.trans x6
    have y10 := (((y6.trans x7).trans x8).trans x9).trans x10
    obtain ⟨f0, _⟩ := F s4 (KeepX.refl _ _)
    obtain ⟨_, f1, _⟩ := F a1 y1
    obtain ⟨_, f2, _⟩ := F a2 y2
    obtain ⟨_, _, f5, _⟩ := F a5 y5
    obtain ⟨_, _, f6, _⟩ := F a6 y6
    obtain ⟨_, _, _, f9, f10⟩ := F a10 y10
    have lk := m10.look i.op
    have hlim : ([] ++ [((1 : Int), ((m.consts.length : Nat) : Int))] ++ [(2, f.locals)] ++ [(3, f.locals)] ++ [(4, st)] ++ [(5, st)] ++ [(7, ((f.code.length : Nat) : Int))] ++ [(8, ((f.code.length : Nat) : Int))] ++ [(9, ((n : Nat) : Int))] ++ [(11, 1099511627777)] ++ [(12, 14)]) = limL m st n f := rfl
    rw [hlim] at lk
    have kend : Keep σ a10 := by
      have := (k1.trans k3).trans k4
      exact ⟨fun q o ho => y10.1 q o (by have := (List.getElem?_eq_some_iff.1 ho).1; omega) (this.1 q o ho), Nat.le_trans this.2.1 y10.2.1, fun j hj => y10.2.2 j (this.2.2 j hj)⟩
    simp only [k23_a, WK, vop, evAll, evOpt, evParts, vbuiltin, vun, vextract, Nat.reduceLT, Nat.reduceEqDiff, ↓reduceIte, reduceCtorEq, Nat.reduceAdd, Int.reduceLT, Int.reduceNeg, valloc_std, noSB, vhot, vbox, vcells, hlen, ← hs1, MF1, MF0, ldf, hp, hpl s1 k1, FZ, ← hs2, st3, hmk, f0, lv, p1, FF1', f1, p2, f2, p3, p4, p5, FF4', f5, lc, p6, f6, p7, p8, p9, p10, NF0, NF1, f9, lk]
    have tf : ∀ p : Prop, p = True ∨ p = False := fun p => by by_cases h : p <;> simp [h]
    cases hk : lookI (limL m st n f) i.op with
    | some l =>
      have hR : rightS m st n f i = ((decide (0 ≤ i.a) && decide (i.a < l)) && (!decide (i.op = 12) || decide (3 ≤ i.a))) := by unfold rightS; rw [hk]
      rw [hR]
      simp only [Option.isSome_some, Option.getD_some]
      rcases tf (0 ≤ i.a) with h1 | h1 <;> rcases tf (i.a < l) with h2 | h2 <;> rcases tf (i.op = 12) with h3 | h3 <;> rcases tf (3 ≤ i.a) with h4 | h4 <;>
      (simp only [k23_a, WK, vop, evAll, evOpt, evParts, vbuiltin, vun, vextract, Nat.reduceLT, Nat.reduceEqDiff, ↓reduceIte, reduceCtorEq, Nat.reduceAdd, Int.reduceLT, Int.reduceNeg, valloc_std, noSB, vhot, NF0, NF1, f9, f10, h1, h2, h3, h4, Bool.true_and, Bool.false_and, Bool.true_or, Bool.false_or, Bool.and_true, Bool.and_false]
       exact kend)
    | none =>
      have hR : rightS m st n f i = ((decide (1 ≤ i.op) && decide (i.op ≤ 21)) && decide (i.a = 0)) := by unfold rightS; rw [hk]
      rw [hR]
      simp only [Option.isSome_none, Option.getD_none]
      rcases tf (1 ≤ i.op) with h1 | h1 <;> rcases tf (i.op ≤ 21) with h2 | h2 <;> rcases tf (i.a = 0) with h3 | h3 <;>
      (simp only [k23_a, WK, vop, evAll, evOpt, evParts, vbuiltin, vun, vextract, Nat.reduceLT, Nat.reduceEqDiff, ↓reduceIte, reduceCtorEq, Nat.reduceAdd, Int.reduceLT, Int.reduceNeg, valloc_std, noSB, vhot, NF0, NF1, f9, f10, h1, h2, h3, Bool.true_and, Bool.false_and, Bool.and_true, Bool.and_false]
       exact kend)
  obtain ⟨q, σ', h1, rfl, h2⟩ := key
  exact ⟨σ', h1, h2⟩
end Go.Proofs.Ytplhelapcpcncaa.Q

