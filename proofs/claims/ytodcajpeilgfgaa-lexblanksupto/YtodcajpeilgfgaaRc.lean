/- The code of some functions without its ornaments. Written by gen.py. -/
import Derived.Test.YtodcajpeilgfgaaQp
import Derived.Test.YtodcajpeilgfgaaQmd
import Derived.Test.YtodcajpeilgfgaaChecked
import Derived.Test.YtodcajpeilgfgaaPr
set_option maxRecDepth 100000
namespace Go.Proofs.Ytodcajpeilgfgaa.Q
open Go Go.RowKit Go.Proofs
variable {P : Program} {pr : Prim} {N : Nat} {e : Nat → V} {σ : St} {Q : VX → (Nat → V) → St → Prop} {QQ : QD} {SS : QS} {m : Pn}
def k7_r0 : List COp := [
  ⟨some 0, .assign (.const (.bool false)), none, true⟩]
theorem k7_r0_e : type_of% (@Eo_of P pr N e σ Q _ _ k7_r0.eq_1) := Eo_of k7_r0.eq_1
def k7_r1 : List COp := [
  ⟨some 8, .call { callee := .value (.func 8), args := #[.const (.string { data := #[97, 60, 61, 98] })], argTypes := #[9] }, none, true⟩,
  ⟨some 7, .move (.tmp 8), none, true⟩,
  ⟨some 9, .extract (.tmp 7) 0, none, true⟩,
  ⟨some 10, .extract (.tmp 7) 1, none, true⟩,
  ⟨some 11, .extract (.tmp 7) 2, none, true⟩,
  ⟨some 1, .assign (.tmp 9), none, true⟩,
  ⟨some 2, .assign (.tmp 10), none, true⟩,
  ⟨some 3, .assign (.tmp 11), none, true⟩]
theorem k7_r1_e : type_of% (@Eo_of P pr N e σ Q _ _ k7_r1.eq_1) := Eo_of k7_r1.eq_1
def k7_r2 : List COp := [
  ⟨some 13, .call { callee := .value (.func 8), args := #[.const (.string { data := #[108, 101, 116, 32, 120, 61, 48, 55] })], argTypes := #[9] }, none, true⟩,
  ⟨some 12, .move (.tmp 13), none, true⟩,
  ⟨some 14, .extract (.tmp 12) 0, none, true⟩,
  ⟨some 15, .extract (.tmp 12) 1, none, true⟩,
  ⟨some 16, .extract (.tmp 12) 2, none, true⟩,
  ⟨some 4, .assign (.tmp 14), none, true⟩,
  ⟨some 5, .assign (.tmp 15), none, true⟩,
  ⟨some 6, .assign (.tmp 16), none, true⟩]
theorem k7_r2_e : type_of% (@Eo_of P pr N e σ Q _ _ k7_r2.eq_1) := Eo_of k7_r2.eq_1
def k7_r3 : List COp := [
  ⟨some 17, .move (.tmp 3), none, true⟩,
  ⟨some 18, .binOp .eql 24 (.tmp 17) (.const (.int .i64 0)) 24, none, true⟩,
  ⟨some 19, .move (.tmp 18), none, true⟩,
  ⟨some 20, .move (.tmp 1), some (19, true), true⟩,
  ⟨some 21, .call { callee := .builtin .len, args := #[.tmp 20], argTypes := #[23] }, some (19, true), true⟩,
  ⟨some 22, .binOp .eql 3 (.tmp 21) (.const (.int .i64 4)) 3, some (19, true), true⟩,
  ⟨some 23, .pick (.tmp 19) (.tmp 22) (.const (.bool false)), none, true⟩,
  ⟨some 24, .move (.tmp 23), none, true⟩,
  ⟨some 25, .move (.tmp 1), some (24, true), true⟩,
  ⟨some 26, .indexAddr 23 (.tmp 25) (.const (.int .i64 1)), some (24, true), true⟩,
  ⟨some 27, .load 32 (.tmp 26), some (24, true), true⟩,
  ⟨some 28, .build 32 #[(0, .const (.int .i64 4)), (1, .const (.string { data := #[60, 61] })), (3, .const (.int .i64 1))], some (24, true), true⟩,
  ⟨some 29, .binOp .eql 32 (.tmp 27) (.tmp 28) 32, some (24, true), true⟩,
  ⟨some 30, .pick (.tmp 24) (.tmp 29) (.const (.bool false)), none, true⟩,
  ⟨some 31, .move (.tmp 30), none, true⟩,
  ⟨some 32, .move (.tmp 1), some (31, true), true⟩,
  ⟨some 33, .indexAddr 23 (.tmp 32) (.const (.int .i64 3)), some (31, true), true⟩,
  ⟨some 34, .load 32 (.tmp 33), some (31, true), true⟩,
  ⟨some 35, .build 32 #[(0, .const (.int .i64 5)), (3, .const (.int .i64 4))], some (31, true), true⟩,
  ⟨some 36, .binOp .eql 32 (.tmp 34) (.tmp 35) 32, some (31, true), true⟩,
  ⟨some 37, .pick (.tmp 31) (.tmp 36) (.const (.bool false)), none, true⟩,
  ⟨some 38, .move (.tmp 37), none, true⟩,
  ⟨some 39, .move (.tmp 5), some (38, true), true⟩,
  ⟨some 40, .binOp .eql 3 (.tmp 39) (.const (.int .i64 6)) 3, some (38, true), true⟩,
  ⟨some 41, .pick (.tmp 38) (.tmp 40) (.const (.bool false)), none, true⟩,
  ⟨some 42, .move (.tmp 41), none, true⟩,
  ⟨some 43, .move (.tmp 6), some (42, true), true⟩,
  ⟨some 44, .binOp .eql 24 (.tmp 43) (.const (.int .i64 30)) 24, some (42, true), true⟩,
  ⟨some 45, .pick (.tmp 42) (.tmp 44) (.const (.bool false)), none, true⟩,
  ⟨some 0, .assign (.tmp 45), none, true⟩]
theorem k7_r3_e : type_of% (@Eo_of P pr N e σ Q _ _ k7_r3.eq_1) := Eo_of k7_r3.eq_1
def k7 : CC := (.seq (.region k7_r0) (.seq (.region k7_r1) (.seq (.region k7_r2) (.seq (.region k7_r3) .ret))))
theorem k7_e : type_of% (@Ev_of P pr N e σ Q _ _ k7.eq_1) := Ev_of k7.eq_1
theorem k7_a : type_of% @k7_e ∧ type_of% @k7_r0_e ∧ type_of% @k7_r1_e ∧ type_of% @k7_r2_e ∧ type_of% @k7_r3_e := ⟨@k7_e, @k7_r0_e, @k7_r1_e, @k7_r2_e, @k7_r3_e⟩
/-- quern/quernlaw06.wakes -/
theorem k7_is : FnIs Try.prog prims 7 46 [ResultVar.tmp 0] k7 := FnIs.of_fn Try.func7 (by kernel_rfl) rfl
def k8_r0 : List COp := [
  ⟨some 2, .alloc 23, none, true⟩,
  ⟨some 3, .alloc 3, none, true⟩,
  ⟨some 4, .alloc 24, none, true⟩]
theorem k8_r0_e : type_of% (@Eo_of P pr N e σ Q _ _ k8_r0.eq_1) := Eo_of k8_r0.eq_1
def k8_r1 : List COp := [
  ⟨some 6, .move (.tmp 0), none, true⟩,
  ⟨some 7, .call { callee := .builtin .len, args := #[.tmp 6], argTypes := #[9] }, none, true⟩,
  ⟨some 8, .binOp .gtr 3 (.tmp 7) (.const (.int .i64 16384)) 3, none, true⟩]
theorem k8_r1_e : type_of% (@Eo_of P pr N e σ Q _ _ k8_r1.eq_1) := Eo_of k8_r1.eq_1
def k8_r2 : List COp := [
  ⟨none, .store 23 (.tmp 2) (.const (.slice .none 0 0)), none, true⟩,
  ⟨none, .store 3 (.tmp 3) (.const (.int .i64 16384)), none, true⟩,
  ⟨none, .store 24 (.tmp 4) (.const (.int .i64 3)), none, true⟩]
theorem k8_r2_e : type_of% (@Eo_of P pr N e σ Q _ _ k8_r2.eq_1) := Eo_of k8_r2.eq_1
def k8_r3 : List COp := [
  ⟨some 9, .makeFunc (.func 13) #[] #[.tmp 2, .tmp 3, .tmp 4], none, true⟩]
theorem k8_r3_e : type_of% (@Eo_of P pr N e σ Q _ _ k8_r3.eq_1) := Eo_of k8_r3.eq_1
def k8_r4 : List COp := [
  ⟨some 10, .move (.tmp 0), none, true⟩,
  ⟨some 11, .build 42 #[(0, .tmp 10)], none, true⟩,
  ⟨some 12, .box 42 (.tmp 11), none, true⟩,
  ⟨some 5, .assign (.tmp 12), none, true⟩]
theorem k8_r4_e : type_of% (@Eo_of P pr N e σ Q _ _ k8_r4.eq_1) := Eo_of k8_r4.eq_1
def k8_r5 : List COp := [
  ⟨some 13, .move (.tmp 5), none, true⟩,
  ⟨some 14, .call { callee := .value (.func 14), args := #[.tmp 13], argTypes := #[40] }, none, true⟩]
theorem k8_r5_e : type_of% (@Eo_of P pr N e σ Q _ _ k8_r5.eq_1) := Eo_of k8_r5.eq_1
def k8_r6 : List COp := [
  ⟨some 15, .move (.tmp 5), none, true⟩,
  ⟨some 16, .nilCheck (.tmp 15), none, true⟩,
  ⟨some 17, .fieldAddr 42 (.tmp 16) 1, none, true⟩,
  ⟨some 18, .load 3 (.tmp 17), none, true⟩,
  ⟨some 19, .move (.tmp 0), none, true⟩,
  ⟨some 20, .call { callee := .builtin .len, args := #[.tmp 19], argTypes := #[9] }, none, true⟩,
  ⟨some 21, .binOp .lss 3 (.tmp 18) (.tmp 20) 3, none, true⟩]
theorem k8_r6_e : type_of% (@Eo_of P pr N e σ Q _ _ k8_r6.eq_1) := Eo_of k8_r6.eq_1
def k8_r8 : List COp := [
  ⟨some 24, .move (.tmp 5), none, true⟩,
  ⟨some 25, .call { callee := .value (.func 15), args := #[.tmp 24], argTypes := #[40] }, none, true⟩]
theorem k8_r8_e : type_of% (@Eo_of P pr N e σ Q _ _ k8_r8.eq_1) := Eo_of k8_r8.eq_1
def k8_r7 : List COp := [
  ⟨some 22, .move (.tmp 5), none, true⟩,
  ⟨some 23, .call { callee := .value (.func 14), args := #[.tmp 22], argTypes := #[40] }, none, true⟩]
theorem k8_r7_e : type_of% (@Eo_of P pr N e σ Q _ _ k8_r7.eq_1) := Eo_of k8_r7.eq_1
def k8_l0 : CC := (.seq (.seq (.region k8_r6) (.cond (.tmp 21) .skip (.exit 0))) (.seq (.block 1 (.region k8_r8)) (.region k8_r7)))
theorem k8_l0_e : type_of% (@Ev_of P pr N e σ Q _ _ k8_l0.eq_1) := Ev_of k8_l0.eq_1
def k8_r9 : List COp := [
  ⟨some 26, .move (.tmp 5), none, true⟩,
  ⟨some 27, .build 32 #[(0, .const (.int .i64 5))], none, true⟩,
  ⟨some 28, .move (.tmp 5), none, true⟩,
  ⟨some 29, .nilCheck (.tmp 28), none, true⟩,
  ⟨some 30, .fieldAddr 42 (.tmp 29) 1, none, true⟩,
  ⟨some 31, .load 3 (.tmp 30), none, true⟩,
  ⟨some 32, .call { callee := .value (.func 16), args := #[.tmp 26, .tmp 27, .tmp 31], argTypes := #[40, 32, 3] }, none, true⟩]
theorem k8_r9_e : type_of% (@Eo_of P pr N e σ Q _ _ k8_r9.eq_1) := Eo_of k8_r9.eq_1
def k8_r10 : List COp := [
  ⟨some 33, .move (.tmp 5), none, true⟩,
  ⟨some 34, .nilCheck (.tmp 33), none, true⟩,
  ⟨some 35, .fieldAddr 42 (.tmp 34) 2, none, true⟩,
  ⟨some 36, .load 23 (.tmp 35), none, true⟩,
  ⟨none, .store 23 (.tmp 2) (.tmp 36), none, true⟩,
  ⟨none, .store 3 (.tmp 3) (.const (.int .i64 0)), none, true⟩,
  ⟨none, .store 24 (.tmp 4) (.const (.int .i64 0)), none, true⟩]
theorem k8_r10_e : type_of% (@Eo_of P pr N e σ Q _ _ k8_r10.eq_1) := Eo_of k8_r10.eq_1
def k8 : CD := (.seq (.code (.region k8_r0)) (.seq (.seq (.code (.region k8_r1)) (.cond (.tmp 8) (.seq (.code (.region k8_r2)) (.code .ret)) (.code .skip))) (.seq (.reg k8_r3 (.tmp 9) []) (.seq (.code (.region k8_r4)) (.seq (.seq (.code (.region k8_r5)) (.code (.block 0 (.loop k8_l0)))) (.seq (.code (.region k8_r9)) (.seq (.code (.region k8_r10)) (.code .ret))))))))
theorem k8_e : type_of% (@EvD_of P pr N e σ QQ _ _ k8.eq_1) := EvD_of k8.eq_1
theorem k8_a : type_of% @k8_e ∧ type_of% @k8_r0_e ∧ type_of% @k8_r1_e ∧ type_of% @k8_r2_e ∧ type_of% @k8_r3_e ∧ type_of% @k8_r4_e ∧ type_of% @k8_r5_e ∧ type_of% @k8_r6_e ∧ type_of% @k8_r8_e ∧ type_of% @k8_r7_e ∧ type_of% @k8_l0_e ∧ type_of% @k8_r9_e ∧ type_of% @k8_r10_e := ⟨@k8_e, @k8_r0_e, @k8_r1_e, @k8_r2_e, @k8_r3_e, @k8_r4_e, @k8_r5_e, @k8_r6_e, @k8_r8_e, @k8_r7_e, @k8_l0_e, @k8_r9_e, @k8_r10_e⟩
/-- quern/lex.Lex -/
theorem k8_is : FnD Try.prog prims 8 37 [ResultVar.cell 2 23, ResultVar.cell 3 3, ResultVar.cell 4 24] k8 := FnD.of_fn Try.func8 (by kernel_rfl) rfl
def k9_r0 : List COp := [
  ⟨some 2, .assign (.const (.slice .none 0 0)), none, true⟩,
  ⟨some 3, .assign (.const (.int .i64 0)), none, true⟩,
  ⟨some 4, .assign (.const (.int .i64 0)), none, true⟩]
theorem k9_r0_e : type_of% (@Eo_of P pr N e σ Q _ _ k9_r0.eq_1) := Eo_of k9_r0.eq_1
def k9_r1 : List COp := [
  ⟨some 10, .move (.tmp 0), none, true⟩,
  ⟨some 11, .call { callee := .builtin .len, args := #[.tmp 10], argTypes := #[9] }, none, true⟩,
  ⟨some 12, .binOp .gtr 3 (.tmp 11) (.const (.int .i64 16384)) 3, none, true⟩]
theorem k9_r1_e : type_of% (@Eo_of P pr N e σ Q _ _ k9_r1.eq_1) := Eo_of k9_r1.eq_1
def k9_r2 : List COp := [
  ⟨some 2, .assign (.const (.slice .none 0 0)), none, true⟩,
  ⟨some 3, .assign (.const (.int .i64 16384)), none, true⟩,
  ⟨some 4, .assign (.const (.int .i64 3)), none, true⟩]
theorem k9_r2_e : type_of% (@Eo_of P pr N e σ Q _ _ k9_r2.eq_1) := Eo_of k9_r2.eq_1
def k9_r3 : List COp := [
  ⟨some 5, .assign (.const (.slice .none 0 0)), none, true⟩]
theorem k9_r3_e : type_of% (@Eo_of P pr N e σ Q _ _ k9_r3.eq_1) := Eo_of k9_r3.eq_1
def k9_r4 : List COp := [
  ⟨some 13, .move (.tmp 0), none, true⟩,
  ⟨some 14, .call { callee := .value (.func 11), args := #[.tmp 13, .const (.int .i64 0)], argTypes := #[9, 3] }, none, true⟩,
  ⟨some 6, .assign (.tmp 14), none, true⟩]
theorem k9_r4_e : type_of% (@Eo_of P pr N e σ Q _ _ k9_r4.eq_1) := Eo_of k9_r4.eq_1
def k9_r5 : List COp := [
  ⟨some 15, .move (.tmp 6), none, true⟩,
  ⟨some 16, .move (.tmp 0), none, true⟩,
  ⟨some 17, .call { callee := .builtin .len, args := #[.tmp 16], argTypes := #[9] }, none, true⟩,
  ⟨some 18, .binOp .lss 3 (.tmp 15) (.tmp 17) 3, none, true⟩]
theorem k9_r5_e : type_of% (@Eo_of P pr N e σ Q _ _ k9_r5.eq_1) := Eo_of k9_r5.eq_1
def k9_r6 : List COp := [
  ⟨some 20, .move (.tmp 0), none, true⟩,
  ⟨some 21, .move (.tmp 6), none, true⟩,
  ⟨some 22, .call { callee := .value (.func 12), args := #[.tmp 20, .tmp 21], argTypes := #[9, 3] }, none, true⟩,
  ⟨some 19, .move (.tmp 22), none, true⟩,
  ⟨some 23, .extract (.tmp 19) 0, none, true⟩,
  ⟨some 24, .extract (.tmp 19) 1, none, true⟩,
  ⟨some 25, .extract (.tmp 19) 2, none, true⟩,
  ⟨some 7, .alloc 32, none, true⟩,
  ⟨none, .store 32 (.tmp 7) (.tmp 23), none, true⟩,
  ⟨some 8, .assign (.tmp 24), none, true⟩,
  ⟨some 9, .assign (.tmp 25), none, true⟩]
theorem k9_r6_e : type_of% (@Eo_of P pr N e σ Q _ _ k9_r6.eq_1) := Eo_of k9_r6.eq_1
def k9_r7 : List COp := [
  ⟨some 26, .move (.tmp 9), none, true⟩,
  ⟨some 27, .binOp .neq 24 (.tmp 26) (.const (.int .i64 0)) 24, none, true⟩]
theorem k9_r7_e : type_of% (@Eo_of P pr N e σ Q _ _ k9_r7.eq_1) := Eo_of k9_r7.eq_1
def k9_r8 : List COp := [
  ⟨some 28, .move (.tmp 8), none, true⟩,
  ⟨some 29, .move (.tmp 9), none, true⟩,
  ⟨some 2, .assign (.const (.slice .none 0 0)), none, true⟩,
  ⟨some 3, .assign (.tmp 28), none, true⟩,
  ⟨some 4, .assign (.tmp 29), none, true⟩]
theorem k9_r8_e : type_of% (@Eo_of P pr N e σ Q _ _ k9_r8.eq_1) := Eo_of k9_r8.eq_1
def k9_r9 : List COp := [
  ⟨some 30, .move (.tmp 5), none, true⟩,
  ⟨some 31, .call { callee := .builtin .len, args := #[.tmp 30], argTypes := #[23] }, none, true⟩,
  ⟨some 32, .binOp .geq 3 (.tmp 31) (.const (.int .i64 4096)) 3, none, true⟩]
theorem k9_r9_e : type_of% (@Eo_of P pr N e σ Q _ _ k9_r9.eq_1) := Eo_of k9_r9.eq_1
def k9_r10 : List COp := [
  ⟨some 33, .move (.tmp 6), none, true⟩,
  ⟨some 2, .assign (.const (.slice .none 0 0)), none, true⟩,
  ⟨some 3, .assign (.tmp 33), none, true⟩,
  ⟨some 4, .assign (.const (.int .i64 36)), none, true⟩]
theorem k9_r10_e : type_of% (@Eo_of P pr N e σ Q _ _ k9_r10.eq_1) := Eo_of k9_r10.eq_1
def k9_r11 : List COp := [
  ⟨some 34, .move (.tmp 5), none, true⟩,
  ⟨some 35, .load 32 (.tmp 7), none, true⟩,
  ⟨some 36, .buildSlice 23 1 #[(0, .tmp 35)], none, true⟩,
  ⟨some 37, .call { callee := .builtin .append, args := #[.tmp 34, .tmp 36], argTypes := #[23, 23] }, none, true⟩,
  ⟨some 5, .assign (.tmp 37), none, true⟩]
theorem k9_r11_e : type_of% (@Eo_of P pr N e σ Q _ _ k9_r11.eq_1) := Eo_of k9_r11.eq_1
def k9_r12 : List COp := [
  ⟨some 38, .move (.tmp 0), none, true⟩,
  ⟨some 39, .move (.tmp 8), none, true⟩,
  ⟨some 40, .call { callee := .value (.func 11), args := #[.tmp 38, .tmp 39], argTypes := #[9, 3] }, none, true⟩,
  ⟨some 6, .assign (.tmp 40), none, true⟩]
theorem k9_r12_e : type_of% (@Eo_of P pr N e σ Q _ _ k9_r12.eq_1) := Eo_of k9_r12.eq_1
def k9_l0 : CC := (.seq (.seq (.region k9_r5) (.cond (.tmp 18) .skip (.exit 0))) (.block 1 (.seq (.region k9_r6) (.seq (.seq (.region k9_r7) (.cond (.tmp 27) (.seq (.region k9_r8) .ret) .skip)) (.seq (.seq (.region k9_r9) (.cond (.tmp 32) (.seq (.region k9_r10) .ret) .skip)) (.seq (.region k9_r11) (.region k9_r12)))))))
theorem k9_l0_e : type_of% (@Ev_of P pr N e σ Q _ _ k9_l0.eq_1) := Ev_of k9_l0.eq_1
def k9_r13 : List COp := [
  ⟨some 41, .move (.tmp 5), none, true⟩,
  ⟨some 42, .call { callee := .builtin .len, args := #[.tmp 41], argTypes := #[23] }, none, true⟩,
  ⟨some 43, .binOp .geq 3 (.tmp 42) (.const (.int .i64 4096)) 3, none, true⟩]
theorem k9_r13_e : type_of% (@Eo_of P pr N e σ Q _ _ k9_r13.eq_1) := Eo_of k9_r13.eq_1
def k9_r14 : List COp := [
  ⟨some 44, .move (.tmp 6), none, true⟩,
  ⟨some 2, .assign (.const (.slice .none 0 0)), none, true⟩,
  ⟨some 3, .assign (.tmp 44), none, true⟩,
  ⟨some 4, .assign (.const (.int .i64 36)), none, true⟩]
theorem k9_r14_e : type_of% (@Eo_of P pr N e σ Q _ _ k9_r14.eq_1) := Eo_of k9_r14.eq_1
def k9_r15 : List COp := [
  ⟨some 45, .move (.tmp 5), none, true⟩,
  ⟨some 46, .move (.tmp 6), none, true⟩,
  ⟨some 47, .build 32 #[(0, .const (.int .i64 5)), (3, .tmp 46)], none, true⟩,
  ⟨some 48, .buildSlice 23 1 #[(0, .tmp 47)], none, true⟩,
  ⟨some 49, .call { callee := .builtin .append, args := #[.tmp 45, .tmp 48], argTypes := #[23, 23] }, none, true⟩,
  ⟨some 2, .assign (.tmp 49), none, true⟩,
  ⟨some 3, .assign (.const (.int .i64 0)), none, true⟩,
  ⟨some 4, .assign (.const (.int .i64 0)), none, true⟩]
theorem k9_r15_e : type_of% (@Eo_of P pr N e σ Q _ _ k9_r15.eq_1) := Eo_of k9_r15.eq_1
def k9 : CC := (.seq (.region k9_r0) (.seq (.seq (.region k9_r1) (.cond (.tmp 12) (.seq (.region k9_r2) .ret) .skip)) (.seq (.region k9_r3) (.seq (.region k9_r4) (.seq (.block 0 (.loop k9_l0)) (.seq (.seq (.region k9_r13) (.cond (.tmp 43) (.seq (.region k9_r14) .ret) .skip)) (.seq (.region k9_r15) .ret)))))))
theorem k9_e : type_of% (@Ev_of P pr N e σ Q _ _ k9.eq_1) := Ev_of k9.eq_1
theorem k9_a : type_of% @k9_e ∧ type_of% @k9_r0_e ∧ type_of% @k9_r1_e ∧ type_of% @k9_r2_e ∧ type_of% @k9_r3_e ∧ type_of% @k9_r4_e ∧ type_of% @k9_r5_e ∧ type_of% @k9_r6_e ∧ type_of% @k9_r7_e ∧ type_of% @k9_r8_e ∧ type_of% @k9_r9_e ∧ type_of% @k9_r10_e ∧ type_of% @k9_r11_e ∧ type_of% @k9_r12_e ∧ type_of% @k9_l0_e ∧ type_of% @k9_r13_e ∧ type_of% @k9_r14_e ∧ type_of% @k9_r15_e := ⟨@k9_e, @k9_r0_e, @k9_r1_e, @k9_r2_e, @k9_r3_e, @k9_r4_e, @k9_r5_e, @k9_r6_e, @k9_r7_e, @k9_r8_e, @k9_r9_e, @k9_r10_e, @k9_r11_e, @k9_r12_e, @k9_l0_e, @k9_r13_e, @k9_r14_e, @k9_r15_e⟩
/-- quern/quernref06.Lex -/
theorem k9_is : FnIs Try.prog prims 9 50 [ResultVar.tmp 2, ResultVar.tmp 3, ResultVar.tmp 4] k9 := FnIs.of_fn Try.func9 (by kernel_rfl) rfl
def k10_r0 : List COp := [
  ⟨some 4, .assign (.const (.bool false)), none, true⟩]
theorem k10_r0_e : type_of% (@Eo_of P pr N e σ Q _ _ k10_r0.eq_1) := Eo_of k10_r0.eq_1
def k10_r1 : List COp := [
  ⟨some 6, .move (.tmp 0), none, true⟩,
  ⟨some 7, .call { callee := .builtin .len, args := #[.tmp 6], argTypes := #[23] }, none, true⟩,
  ⟨some 8, .move (.tmp 1), none, true⟩,
  ⟨some 9, .call { callee := .builtin .len, args := #[.tmp 8], argTypes := #[23] }, none, true⟩,
  ⟨some 10, .binOp .neq 3 (.tmp 7) (.tmp 9) 3, none, true⟩]
theorem k10_r1_e : type_of% (@Eo_of P pr N e σ Q _ _ k10_r1.eq_1) := Eo_of k10_r1.eq_1
def k10_r2 : List COp := [
  ⟨some 4, .assign (.const (.bool false)), none, true⟩]
theorem k10_r2_e : type_of% (@Eo_of P pr N e σ Q _ _ k10_r2.eq_1) := Eo_of k10_r2.eq_1
def k10_r3 : List COp := [
  ⟨some 11, .move (.tmp 0), none, true⟩,
  ⟨some 12, .call { callee := .builtin .len, args := #[.tmp 11], argTypes := #[23] }, none, true⟩,
  ⟨some 13, .move (.const (.int .i64 0)), none, true⟩]
theorem k10_r3_e : type_of% (@Eo_of P pr N e σ Q _ _ k10_r3.eq_1) := Eo_of k10_r3.eq_1
def k10_r4 : List COp := [
  ⟨some 14, .binOp .lss 3 (.tmp 13) (.tmp 12) 3, none, true⟩]
theorem k10_r4_e : type_of% (@Eo_of P pr N e σ Q _ _ k10_r4.eq_1) := Eo_of k10_r4.eq_1
def k10_r5 : List COp := [
  ⟨some 15, .move (.tmp 13), none, true⟩,
  ⟨some 5, .assign (.tmp 15), none, true⟩]
theorem k10_r5_e : type_of% (@Eo_of P pr N e σ Q _ _ k10_r5.eq_1) := Eo_of k10_r5.eq_1
def k10_r6 : List COp := [
  ⟨some 16, .move (.tmp 0), none, false⟩,
  ⟨some 17, .move (.tmp 5), none, false⟩,
  ⟨some 18, .indexAddr 23 (.tmp 16) (.tmp 17), none, false⟩,
  ⟨some 19, .load 32 (.tmp 18), none, false⟩,
  ⟨some 20, .move (.tmp 1), none, false⟩,
  ⟨some 21, .move (.tmp 5), none, true⟩,
  ⟨some 22, .indexAddr 23 (.tmp 20) (.tmp 21), none, true⟩,
  ⟨some 23, .load 32 (.tmp 22), none, true⟩,
  ⟨some 24, .binOp .neq 32 (.tmp 19) (.tmp 23) 32, none, true⟩]
theorem k10_r6_e : type_of% (@Eo_of P pr N e σ Q _ _ k10_r6.eq_1) := Eo_of k10_r6.eq_1
def k10_r7 : List COp := [
  ⟨some 4, .assign (.const (.bool false)), none, true⟩]
theorem k10_r7_e : type_of% (@Eo_of P pr N e σ Q _ _ k10_r7.eq_1) := Eo_of k10_r7.eq_1
def k10_r8 : List COp := [
  ⟨some 25, .binOp .add 3 (.tmp 13) (.const (.int .i64 1)) 3, none, true⟩,
  ⟨some 13, .move (.tmp 25), none, true⟩]
theorem k10_r8_e : type_of% (@Eo_of P pr N e σ Q _ _ k10_r8.eq_1) := Eo_of k10_r8.eq_1
def k10_l0 : CC := (.seq (.region k10_r4) (.seq (.cond (.tmp 14) .skip (.exit 0)) (.seq (.block 1 (.seq (.region k10_r5) (.seq (.region k10_r6) (.cond (.tmp 24) (.seq (.region k10_r7) .ret) .skip)))) (.region k10_r8))))
theorem k10_l0_e : type_of% (@Ev_of P pr N e σ Q _ _ k10_l0.eq_1) := Ev_of k10_l0.eq_1
def k10_r9 : List COp := [
  ⟨some 4, .assign (.const (.bool true)), none, true⟩]
theorem k10_r9_e : type_of% (@Eo_of P pr N e σ Q _ _ k10_r9.eq_1) := Eo_of k10_r9.eq_1
def k10 : CC := (.seq (.region k10_r0) (.seq (.seq (.region k10_r1) (.cond (.tmp 10) (.seq (.region k10_r2) .ret) .skip)) (.seq (.seq (.region k10_r3) (.block 0 (.loop k10_l0))) (.seq (.region k10_r9) .ret))))
theorem k10_e : type_of% (@Ev_of P pr N e σ Q _ _ k10.eq_1) := Ev_of k10.eq_1
theorem k10_a : type_of% @k10_e ∧ type_of% @k10_r0_e ∧ type_of% @k10_r1_e ∧ type_of% @k10_r2_e ∧ type_of% @k10_r3_e ∧ type_of% @k10_r4_e ∧ type_of% @k10_r5_e ∧ type_of% @k10_r6_e ∧ type_of% @k10_r7_e ∧ type_of% @k10_r8_e ∧ type_of% @k10_l0_e ∧ type_of% @k10_r9_e := ⟨@k10_e, @k10_r0_e, @k10_r1_e, @k10_r2_e, @k10_r3_e, @k10_r4_e, @k10_r5_e, @k10_r6_e, @k10_r7_e, @k10_r8_e, @k10_l0_e, @k10_r9_e⟩
/-- quern/quernref06.Same -/
theorem k10_is : FnIs Try.prog prims 10 26 [ResultVar.tmp 4] k10 := FnIs.of_fn Try.func10 (by kernel_rfl) rfl
def k11_r0 : List COp := [
  ⟨some 4, .assign (.const (.int .i64 0)), none, true⟩]
theorem k11_r0_e : type_of% (@Eo_of P pr N e σ Q _ _ k11_r0.eq_1) := Eo_of k11_r0.eq_1
def k11_r1 : List COp := [
  ⟨some 5, .move (.tmp 1), none, true⟩,
  ⟨some 6, .move (.tmp 0), none, true⟩,
  ⟨some 7, .call { callee := .builtin .len, args := #[.tmp 6], argTypes := #[9] }, none, true⟩,
  ⟨some 8, .binOp .lss 3 (.tmp 5) (.tmp 7) 3, none, true⟩]
theorem k11_r1_e : type_of% (@Eo_of P pr N e σ Q _ _ k11_r1.eq_1) := Eo_of k11_r1.eq_1
def k11_r2 : List COp := [
  ⟨some 9, .move (.tmp 0), none, true⟩,
  ⟨some 10, .move (.tmp 1), none, true⟩,
  ⟨some 11, .index 9 (.tmp 9) (.tmp 10), none, true⟩,
  ⟨some 12, .call { callee := .value (.func 17), args := #[.tmp 11], argTypes := #[5] }, none, true⟩]
theorem k11_r2_e : type_of% (@Eo_of P pr N e σ Q _ _ k11_r2.eq_1) := Eo_of k11_r2.eq_1
def k11_r3 : List COp := [
  ⟨some 13, .move (.tmp 1), none, true⟩,
  ⟨some 14, .binOp .add 3 (.tmp 13) (.const (.int .i64 1)) 3, none, true⟩,
  ⟨some 1, .assign (.tmp 14), none, true⟩]
theorem k11_r3_e : type_of% (@Eo_of P pr N e σ Q _ _ k11_r3.eq_1) := Eo_of k11_r3.eq_1
def k11_r4 : List COp := [
  ⟨some 15, .move (.tmp 0), none, true⟩,
  ⟨some 16, .move (.tmp 1), none, true⟩,
  ⟨some 17, .index 9 (.tmp 15) (.tmp 16), none, true⟩,
  ⟨some 18, .binOp .neq 5 (.tmp 17) (.const (.int .u8 35)) 5, none, true⟩]
theorem k11_r4_e : type_of% (@Eo_of P pr N e σ Q _ _ k11_r4.eq_1) := Eo_of k11_r4.eq_1
def k11_r5 : List COp := [
  ⟨some 19, .move (.tmp 1), none, true⟩,
  ⟨some 4, .assign (.tmp 19), none, true⟩]
theorem k11_r5_e : type_of% (@Eo_of P pr N e σ Q _ _ k11_r5.eq_1) := Eo_of k11_r5.eq_1
def k11_r6 : List COp := [
  ⟨some 20, .move (.tmp 1), none, true⟩,
  ⟨some 21, .move (.tmp 0), none, true⟩,
  ⟨some 22, .call { callee := .builtin .len, args := #[.tmp 21], argTypes := #[9] }, none, true⟩,
  ⟨some 23, .binOp .lss 3 (.tmp 20) (.tmp 22) 3, none, true⟩,
  ⟨some 24, .move (.tmp 23), none, true⟩,
  ⟨some 25, .move (.tmp 0), some (24, true), true⟩,
  ⟨some 26, .move (.tmp 1), some (24, true), true⟩,
  ⟨some 27, .index 9 (.tmp 25) (.tmp 26), some (24, true), true⟩,
  ⟨some 28, .binOp .neq 5 (.tmp 27) (.const (.int .u8 10)) 5, some (24, true), true⟩,
  ⟨some 29, .pick (.tmp 24) (.tmp 28) (.const (.bool false)), none, true⟩]
theorem k11_r6_e : type_of% (@Eo_of P pr N e σ Q _ _ k11_r6.eq_1) := Eo_of k11_r6.eq_1
def k11_r7 : List COp := [
  ⟨some 30, .move (.tmp 1), none, true⟩,
  ⟨some 31, .binOp .add 3 (.tmp 30) (.const (.int .i64 1)) 3, none, true⟩,
  ⟨some 1, .assign (.tmp 31), none, true⟩]
theorem k11_r7_e : type_of% (@Eo_of P pr N e σ Q _ _ k11_r7.eq_1) := Eo_of k11_r7.eq_1
def k11_l1 : CC := (.seq (.seq (.region k11_r6) (.cond (.tmp 29) .skip (.exit 2))) (.block 3 (.region k11_r7)))
theorem k11_l1_e : type_of% (@Ev_of P pr N e σ Q _ _ k11_l1.eq_1) := Ev_of k11_l1.eq_1
def k11_l0 : CC := (.seq (.seq (.region k11_r1) (.cond (.tmp 8) .skip (.exit 0))) (.block 1 (.seq (.seq (.region k11_r2) (.cond (.tmp 12) (.seq (.region k11_r3) (.exit 1)) .skip)) (.seq (.seq (.region k11_r4) (.cond (.tmp 18) (.seq (.region k11_r5) .ret) .skip)) (.block 2 (.loop k11_l1))))))
theorem k11_l0_e : type_of% (@Ev_of P pr N e σ Q _ _ k11_l0.eq_1) := Ev_of k11_l0.eq_1
def k11_r8 : List COp := [
  ⟨some 32, .move (.tmp 1), none, true⟩,
  ⟨some 4, .assign (.tmp 32), none, true⟩]
theorem k11_r8_e : type_of% (@Eo_of P pr N e σ Q _ _ k11_r8.eq_1) := Eo_of k11_r8.eq_1
def k11 : CC := (.seq (.region k11_r0) (.seq (.block 0 (.loop k11_l0)) (.seq (.region k11_r8) .ret)))
theorem k11_e : type_of% (@Ev_of P pr N e σ Q _ _ k11.eq_1) := Ev_of k11.eq_1
theorem k11_a : type_of% @k11_e ∧ type_of% @k11_r0_e ∧ type_of% @k11_r1_e ∧ type_of% @k11_r2_e ∧ type_of% @k11_r3_e ∧ type_of% @k11_r4_e ∧ type_of% @k11_r5_e ∧ type_of% @k11_r6_e ∧ type_of% @k11_r7_e ∧ type_of% @k11_l1_e ∧ type_of% @k11_l0_e ∧ type_of% @k11_r8_e := ⟨@k11_e, @k11_r0_e, @k11_r1_e, @k11_r2_e, @k11_r3_e, @k11_r4_e, @k11_r5_e, @k11_r6_e, @k11_r7_e, @k11_l1_e, @k11_l0_e, @k11_r8_e⟩
/-- quern/quernref06.Skip -/
theorem k11_is : FnIs Try.prog prims 11 33 [ResultVar.tmp 4] k11 := FnIs.of_fn Try.func11 (by kernel_rfl) rfl
def k12_r0 : List COp := [
  ⟨some 4, .alloc 32, none, true⟩,
  ⟨some 5, .assign (.const (.int .i64 0)), none, true⟩,
  ⟨some 6, .assign (.const (.int .i64 0)), none, true⟩]
theorem k12_r0_e : type_of% (@Eo_of P pr N e σ Q _ _ k12_r0.eq_1) := Eo_of k12_r0.eq_1
def k12_r1 : List COp := [
  ⟨some 9, .move (.tmp 0), none, true⟩,
  ⟨some 10, .move (.tmp 1), none, true⟩,
  ⟨some 11, .index 9 (.tmp 9) (.tmp 10), none, true⟩,
  ⟨some 7, .assign (.tmp 11), none, true⟩]
theorem k12_r1_e : type_of% (@Eo_of P pr N e σ Q _ _ k12_r1.eq_1) := Eo_of k12_r1.eq_1
def k12_r2 : List COp := [
  ⟨some 12, .move (.tmp 7), none, true⟩,
  ⟨some 13, .call { callee := .value (.func 18), args := #[.tmp 12], argTypes := #[5] }, none, true⟩]
theorem k12_r2_e : type_of% (@Eo_of P pr N e σ Q _ _ k12_r2.eq_1) := Eo_of k12_r2.eq_1
def k12_r3 : List COp := [
  ⟨some 14, .move (.tmp 1), none, true⟩,
  ⟨some 8, .assign (.tmp 14), none, true⟩]
theorem k12_r3_e : type_of% (@Eo_of P pr N e σ Q _ _ k12_r3.eq_1) := Eo_of k12_r3.eq_1
def k12_r4 : List COp := [
  ⟨some 15, .move (.tmp 8), none, true⟩,
  ⟨some 16, .move (.tmp 0), none, true⟩,
  ⟨some 17, .call { callee := .builtin .len, args := #[.tmp 16], argTypes := #[9] }, none, true⟩,
  ⟨some 18, .binOp .lss 3 (.tmp 15) (.tmp 17) 3, none, true⟩,
  ⟨some 19, .move (.tmp 18), none, true⟩,
  ⟨some 20, .move (.tmp 0), some (19, true), true⟩,
  ⟨some 21, .move (.tmp 8), some (19, true), true⟩,
  ⟨some 22, .index 9 (.tmp 20) (.tmp 21), some (19, true), true⟩,
  ⟨some 23, .call { callee := .value (.func 18), args := #[.tmp 22], argTypes := #[5] }, some (19, true), true⟩,
  ⟨some 24, .move (.tmp 23), some (19, true), true⟩,
  ⟨some 25, .move (.tmp 0), some (24, false), true⟩,
  ⟨some 26, .move (.tmp 8), some (24, false), true⟩,
  ⟨some 27, .index 9 (.tmp 25) (.tmp 26), some (24, false), true⟩,
  ⟨some 28, .call { callee := .value (.func 19), args := #[.tmp 27], argTypes := #[5] }, some (24, false), true⟩,
  ⟨some 29, .pick (.tmp 24) (.const (.bool true)) (.tmp 28), some (19, true), true⟩,
  ⟨some 30, .pick (.tmp 19) (.tmp 29) (.const (.bool false)), none, true⟩]
theorem k12_r4_e : type_of% (@Eo_of P pr N e σ Q _ _ k12_r4.eq_1) := Eo_of k12_r4.eq_1
def k12_r5 : List COp := [
  ⟨some 31, .move (.tmp 8), none, true⟩,
  ⟨some 32, .binOp .add 3 (.tmp 31) (.const (.int .i64 1)) 3, none, true⟩,
  ⟨some 8, .assign (.tmp 32), none, true⟩]
theorem k12_r5_e : type_of% (@Eo_of P pr N e σ Q _ _ k12_r5.eq_1) := Eo_of k12_r5.eq_1
def k12_l0 : CC := (.seq (.seq (.region k12_r4) (.cond (.tmp 30) .skip (.exit 0))) (.block 1 (.region k12_r5)))
theorem k12_l0_e : type_of% (@Ev_of P pr N e σ Q _ _ k12_l0.eq_1) := Ev_of k12_l0.eq_1
def k12_r6 : List COp := [
  ⟨some 33, .move (.tmp 8), none, true⟩,
  ⟨some 34, .move (.tmp 1), none, true⟩,
  ⟨some 35, .binOp .sub 3 (.tmp 33) (.tmp 34) 3, none, true⟩,
  ⟨some 36, .binOp .gtr 3 (.tmp 35) (.const (.int .i64 16)) 3, none, true⟩]
theorem k12_r6_e : type_of% (@Eo_of P pr N e σ Q _ _ k12_r6.eq_1) := Eo_of k12_r6.eq_1
def k12_r7 : List COp := [
  ⟨some 37, .build 32 #[], none, true⟩,
  ⟨some 38, .move (.tmp 1), none, true⟩,
  ⟨none, .store 32 (.tmp 4) (.tmp 37), none, true⟩,
  ⟨some 5, .assign (.tmp 38), none, true⟩,
  ⟨some 6, .assign (.const (.int .i64 3)), none, true⟩]
theorem k12_r7_e : type_of% (@Eo_of P pr N e σ Q _ _ k12_r7.eq_1) := Eo_of k12_r7.eq_1
def k12_r8 : List COp := [
  ⟨some 39, .move (.tmp 0), none, true⟩,
  ⟨some 40, .move (.tmp 1), none, true⟩,
  ⟨some 41, .move (.tmp 8), none, true⟩,
  ⟨some 42, .slice 9 (.tmp 39) (some (.tmp 40)) (some (.tmp 41)) .none, none, true⟩,
  ⟨some 43, .move (.tmp 1), none, true⟩,
  ⟨some 44, .build 32 #[(0, .const (.int .i64 1)), (1, .tmp 42), (3, .tmp 43)], none, true⟩,
  ⟨some 45, .move (.tmp 8), none, true⟩,
  ⟨none, .store 32 (.tmp 4) (.tmp 44), none, true⟩,
  ⟨some 5, .assign (.tmp 45), none, true⟩,
  ⟨some 6, .assign (.const (.int .i64 0)), none, true⟩]
theorem k12_r8_e : type_of% (@Eo_of P pr N e σ Q _ _ k12_r8.eq_1) := Eo_of k12_r8.eq_1
def k12_r9 : List COp := [
  ⟨some 46, .move (.tmp 7), none, true⟩,
  ⟨some 47, .call { callee := .value (.func 19), args := #[.tmp 46], argTypes := #[5] }, none, true⟩]
theorem k12_r9_e : type_of% (@Eo_of P pr N e σ Q _ _ k12_r9.eq_1) := Eo_of k12_r9.eq_1
def k12_r10 : List COp := [
  ⟨some 48, .move (.tmp 0), none, true⟩,
  ⟨some 49, .move (.tmp 1), none, true⟩,
  ⟨some 50, .call { callee := .value (.func 20), args := #[.tmp 48, .tmp 49], argTypes := #[9, 3] }, none, true⟩,
  ⟨some 51, .extract (.tmp 50) 0, none, true⟩,
  ⟨some 52, .extract (.tmp 50) 1, none, true⟩,
  ⟨some 53, .extract (.tmp 50) 2, none, true⟩,
  ⟨none, .store 32 (.tmp 4) (.tmp 51), none, true⟩,
  ⟨some 5, .assign (.tmp 52), none, true⟩,
  ⟨some 6, .assign (.tmp 53), none, true⟩]
theorem k12_r10_e : type_of% (@Eo_of P pr N e σ Q _ _ k12_r10.eq_1) := Eo_of k12_r10.eq_1
def k12_r11 : List COp := [
  ⟨some 54, .move (.tmp 7), none, true⟩,
  ⟨some 55, .binOp .eql 5 (.tmp 54) (.const (.int .u8 34)) 5, none, true⟩]
theorem k12_r11_e : type_of% (@Eo_of P pr N e σ Q _ _ k12_r11.eq_1) := Eo_of k12_r11.eq_1
def k12_r12 : List COp := [
  ⟨some 56, .move (.tmp 0), none, true⟩,
  ⟨some 57, .move (.tmp 1), none, true⟩,
  ⟨some 58, .call { callee := .value (.func 21), args := #[.tmp 56, .tmp 57], argTypes := #[9, 3] }, none, true⟩,
  ⟨some 59, .extract (.tmp 58) 0, none, true⟩,
  ⟨some 60, .extract (.tmp 58) 1, none, true⟩,
  ⟨some 61, .extract (.tmp 58) 2, none, true⟩,
  ⟨none, .store 32 (.tmp 4) (.tmp 59), none, true⟩,
  ⟨some 5, .assign (.tmp 60), none, true⟩,
  ⟨some 6, .assign (.tmp 61), none, true⟩]
theorem k12_r12_e : type_of% (@Eo_of P pr N e σ Q _ _ k12_r12.eq_1) := Eo_of k12_r12.eq_1
def k12_r13 : List COp := [
  ⟨some 62, .move (.tmp 0), none, true⟩,
  ⟨some 63, .move (.tmp 1), none, true⟩,
  ⟨some 64, .call { callee := .value (.func 22), args := #[.tmp 62, .tmp 63], argTypes := #[9, 3] }, none, true⟩,
  ⟨some 65, .extract (.tmp 64) 0, none, true⟩,
  ⟨some 66, .extract (.tmp 64) 1, none, true⟩,
  ⟨some 67, .extract (.tmp 64) 2, none, true⟩,
  ⟨none, .store 32 (.tmp 4) (.tmp 65), none, true⟩,
  ⟨some 5, .assign (.tmp 66), none, true⟩,
  ⟨some 6, .assign (.tmp 67), none, true⟩]
theorem k12_r13_e : type_of% (@Eo_of P pr N e σ Q _ _ k12_r13.eq_1) := Eo_of k12_r13.eq_1
def k12 : CC := (.seq (.region k12_r0) (.seq (.region k12_r1) (.seq (.seq (.region k12_r2) (.cond (.tmp 13) (.seq (.region k12_r3) (.seq (.block 0 (.loop k12_l0)) (.seq (.seq (.region k12_r6) (.cond (.tmp 36) (.seq (.region k12_r7) .ret) .skip)) (.seq (.region k12_r8) .ret)))) .skip)) (.seq (.seq (.region k12_r9) (.cond (.tmp 47) (.seq (.region k12_r10) .ret) .skip)) (.seq (.seq (.region k12_r11) (.cond (.tmp 55) (.seq (.region k12_r12) .ret) .skip)) (.seq (.region k12_r13) .ret))))))
theorem k12_e : type_of% (@Ev_of P pr N e σ Q _ _ k12.eq_1) := Ev_of k12.eq_1
theorem k12_a : type_of% @k12_e ∧ type_of% @k12_r0_e ∧ type_of% @k12_r1_e ∧ type_of% @k12_r2_e ∧ type_of% @k12_r3_e ∧ type_of% @k12_r4_e ∧ type_of% @k12_r5_e ∧ type_of% @k12_l0_e ∧ type_of% @k12_r6_e ∧ type_of% @k12_r7_e ∧ type_of% @k12_r8_e ∧ type_of% @k12_r9_e ∧ type_of% @k12_r10_e ∧ type_of% @k12_r11_e ∧ type_of% @k12_r12_e ∧ type_of% @k12_r13_e := ⟨@k12_e, @k12_r0_e, @k12_r1_e, @k12_r2_e, @k12_r3_e, @k12_r4_e, @k12_r5_e, @k12_l0_e, @k12_r6_e, @k12_r7_e, @k12_r8_e, @k12_r9_e, @k12_r10_e, @k12_r11_e, @k12_r12_e, @k12_r13_e⟩
/-- quern/quernref06.Next -/
theorem k12_is : FnIs Try.prog prims 12 68 [ResultVar.cell 4 32, ResultVar.tmp 5, ResultVar.tmp 6] k12 := FnIs.of_fn Try.func12 (by kernel_rfl) rfl
def k13_r0 : List COp := [
]
theorem k13_r0_e : type_of% (@Eo_of P pr N e σ Q _ _ k13_r0.eq_1) := Eo_of k13_r0.eq_1
def k13_r3 : List COp := [
  ⟨some 8, .binOp .eql 20 (.tmp 6) (.const .nilIface) 20, none, true⟩]
theorem k13_r3_e : type_of% (@Eo_of P pr N e σ Q _ _ k13_r3.eq_1) := Eo_of k13_r3.eq_1
def k13_r4 : List COp := [
  ⟨some 3, .assign (.tmp 6), none, true⟩]
theorem k13_r4_e : type_of% (@Eo_of P pr N e σ Q _ _ k13_r4.eq_1) := Eo_of k13_r4.eq_1
def k13_r5 : List COp := [
  ⟨some 9, .typeAssert (.tmp 6) 20 39 true, none, true⟩,
  ⟨some 10, .extract (.tmp 9) 1, none, true⟩,
  ⟨some 11, .extract (.tmp 9) 0, none, true⟩]
theorem k13_r5_e : type_of% (@Eo_of P pr N e σ Q _ _ k13_r5.eq_1) := Eo_of k13_r5.eq_1
def k13_r6 : List COp := [
  ⟨some 4, .alloc 39, none, true⟩,
  ⟨none, .store 39 (.tmp 4) (.tmp 11), none, true⟩]
theorem k13_r6_e : type_of% (@Eo_of P pr N e σ Q _ _ k13_r6.eq_1) := Eo_of k13_r6.eq_1
def k13_r7 : CC := (.wregion [
  (true, ⟨some 12, .fieldAddr 39 (.tmp 4) 0, none, false⟩),
  (true, ⟨some 13, .load 3 (.tmp 12), none, false⟩),
  (false, ⟨some 14, .fieldAddr 39 (.tmp 4) 1, none, false⟩),
  (true, ⟨some 15, .load 24 (.tmp 14), none, false⟩),
  (false, ⟨none, .store 23 (.tmp 0) (.const (.slice .none 0 0)), none, true⟩),
  (true, ⟨none, .store 3 (.tmp 1) (.tmp 13), none, true⟩),
  (true, ⟨none, .store 24 (.tmp 2) (.tmp 15), none, true⟩)] false [(1, ⟨some 13, .load 3 (.tmp 12), none, false⟩, [0, 5]), (3, ⟨some 15, .load 24 (.tmp 14), none, false⟩, [0, 5, 6])])
theorem k13_r7_e : type_of% (@Ev_of P pr N e σ Q _ _ k13_r7.eq_1) := Ev_of k13_r7.eq_1
def k13_r1 : List COp := [
  ⟨some 5, .assign (.tmp 6), none, true⟩]
theorem k13_r1_e : type_of% (@Eo_of P pr N e σ Q _ _ k13_r1.eq_1) := Eo_of k13_r1.eq_1
def k13_r2 : List COp := [
  ⟨some 7, .move (.tmp 5), none, true⟩,
  ⟨none, .panic (.tmp 7), none, true⟩]
theorem k13_r2_e : type_of% (@Eo_of P pr N e σ Q _ _ k13_r2.eq_1) := Eo_of k13_r2.eq_1
def k13 : CS := (.seq (.reg (some 6) k13_r0) (.code (.block 0 (.seq (.region k13_r3) (.cond (.tmp 8) (.region k13_r4) (.seq (.region k13_r5) (.cond (.tmp 10) (.seq (.region k13_r6) k13_r7) (.seq (.region k13_r1) (.region k13_r2)))))))))
theorem k13_e : type_of% (@EvS_of P pr N e m σ SS _ _ k13.eq_1) := EvS_of k13.eq_1
theorem k13_a : type_of% @k13_e ∧ type_of% @k13_r0_e ∧ type_of% @k13_r3_e ∧ type_of% @k13_r4_e ∧ type_of% @k13_r5_e ∧ type_of% @k13_r6_e ∧ type_of% @k13_r7_e ∧ type_of% @k13_r1_e ∧ type_of% @k13_r2_e := ⟨@k13_e, @k13_r0_e, @k13_r3_e, @k13_r4_e, @k13_r5_e, @k13_r6_e, @k13_r7_e, @k13_r1_e, @k13_r2_e⟩
/-- quern/lex.Lex$1 -/
theorem k13_is : FnS Try.prog 13 16 [] k13 := FnS.of_fn Try.func13 (by kernel_rfl)
def k14_r0 : List COp := [
  ⟨some 3, .move (.tmp 0), none, true⟩,
  ⟨some 4, .move (.tmp 0), none, true⟩,
  ⟨some 5, .call { callee := .value (.func 23), args := #[.tmp 4, .const (.string { data := #[32, 10, 9] })], argTypes := #[40, 9] }, none, true⟩,
  ⟨some 6, .nilCheck (.tmp 3), none, true⟩,
  ⟨some 7, .fieldAddr 42 (.tmp 6) 1, none, true⟩,
  ⟨none, .store 3 (.tmp 7) (.tmp 5), none, true⟩]
theorem k14_r0_e : type_of% (@Eo_of P pr N e σ Q _ _ k14_r0.eq_1) := Eo_of k14_r0.eq_1
def k14_r1 : List COp := [
  ⟨some 8, .move (.tmp 0), none, false⟩,
  ⟨some 9, .nilCheck (.tmp 8), none, false⟩,
  ⟨some 10, .fieldAddr 42 (.tmp 9) 1, none, false⟩,
  ⟨some 11, .load 3 (.tmp 10), none, false⟩,
  ⟨some 12, .move (.tmp 0), none, true⟩,
  ⟨some 13, .nilCheck (.tmp 12), none, true⟩,
  ⟨some 14, .fieldAddr 42 (.tmp 13) 0, none, true⟩,
  ⟨some 15, .load 9 (.tmp 14), none, true⟩,
  ⟨some 16, .call { callee := .builtin .len, args := #[.tmp 15], argTypes := #[9] }, none, true⟩,
  ⟨some 17, .binOp .geq 3 (.tmp 11) (.tmp 16) 3, none, true⟩,
  ⟨some 18, .move (.tmp 17), none, true⟩,
  ⟨some 19, .move (.tmp 0), some (18, false), false⟩,
  ⟨some 20, .nilCheck (.tmp 19), some (18, false), false⟩,
  ⟨some 21, .fieldAddr 42 (.tmp 20) 0, some (18, false), false⟩,
  ⟨some 22, .load 9 (.tmp 21), some (18, false), false⟩,
  ⟨some 23, .move (.tmp 0), some (18, false), true⟩,
  ⟨some 24, .nilCheck (.tmp 23), some (18, false), true⟩,
  ⟨some 25, .fieldAddr 42 (.tmp 24) 1, some (18, false), true⟩,
  ⟨some 26, .load 3 (.tmp 25), some (18, false), true⟩,
  ⟨some 27, .index 9 (.tmp 22) (.tmp 26), some (18, false), true⟩,
  ⟨some 28, .binOp .neq 5 (.tmp 27) (.const (.int .u8 35)) 5, some (18, false), true⟩,
  ⟨some 29, .pick (.tmp 18) (.const (.bool true)) (.tmp 28), none, true⟩]
theorem k14_r1_e : type_of% (@Eo_of P pr N e σ Q _ _ k14_r1.eq_1) := Eo_of k14_r1.eq_1
def k14_r2 : List COp := [
  ⟨some 30, .move (.tmp 0), none, false⟩,
  ⟨some 31, .nilCheck (.tmp 30), none, false⟩,
  ⟨some 32, .fieldAddr 42 (.tmp 31) 0, none, false⟩,
  ⟨some 33, .load 9 (.tmp 32), none, false⟩,
  ⟨some 34, .move (.tmp 0), none, true⟩,
  ⟨some 35, .nilCheck (.tmp 34), none, true⟩,
  ⟨some 36, .fieldAddr 42 (.tmp 35) 1, none, true⟩,
  ⟨some 37, .load 3 (.tmp 36), none, true⟩,
  ⟨some 38, .slice 9 (.tmp 33) (some (.tmp 37)) .none .none, none, true⟩,
  ⟨some 39, .call { callee := .value (.func 24), args := #[.tmp 38, .const (.int .u8 10)], argTypes := #[9, 5] }, none, true⟩,
  ⟨some 2, .assign (.tmp 39), none, true⟩]
theorem k14_r2_e : type_of% (@Eo_of P pr N e σ Q _ _ k14_r2.eq_1) := Eo_of k14_r2.eq_1
def k14_r3 : List COp := [
  ⟨some 40, .move (.tmp 2), none, true⟩,
  ⟨some 41, .binOp .geq 3 (.tmp 40) (.const (.int .i64 0)) 3, none, true⟩]
theorem k14_r3_e : type_of% (@Eo_of P pr N e σ Q _ _ k14_r3.eq_1) := Eo_of k14_r3.eq_1
def k14_r4 : List COp := [
  ⟨some 42, .move (.tmp 0), none, true⟩,
  ⟨some 43, .nilCheck (.tmp 42), none, true⟩,
  ⟨some 44, .fieldAddr 42 (.tmp 43) 1, none, true⟩,
  ⟨some 45, .load 3 (.tmp 44), none, true⟩,
  ⟨some 46, .move (.tmp 2), none, true⟩,
  ⟨some 47, .binOp .add 3 (.tmp 45) (.tmp 46) 3, none, true⟩,
  ⟨some 48, .nilCheck (.tmp 42), none, true⟩,
  ⟨some 49, .fieldAddr 42 (.tmp 48) 1, none, true⟩,
  ⟨none, .store 3 (.tmp 49) (.tmp 47), none, true⟩]
theorem k14_r4_e : type_of% (@Eo_of P pr N e σ Q _ _ k14_r4.eq_1) := Eo_of k14_r4.eq_1
def k14_r5 : List COp := [
  ⟨some 50, .move (.tmp 0), none, true⟩,
  ⟨some 51, .move (.tmp 0), none, true⟩,
  ⟨some 52, .nilCheck (.tmp 51), none, true⟩,
  ⟨some 53, .fieldAddr 42 (.tmp 52) 0, none, true⟩,
  ⟨some 54, .load 9 (.tmp 53), none, true⟩,
  ⟨some 55, .call { callee := .builtin .len, args := #[.tmp 54], argTypes := #[9] }, none, true⟩,
  ⟨some 56, .nilCheck (.tmp 50), none, true⟩,
  ⟨some 57, .fieldAddr 42 (.tmp 56) 1, none, true⟩,
  ⟨none, .store 3 (.tmp 57) (.tmp 55), none, true⟩]
theorem k14_r5_e : type_of% (@Eo_of P pr N e σ Q _ _ k14_r5.eq_1) := Eo_of k14_r5.eq_1
def k14_l0 : CC := (.block 1 (.seq (.region k14_r0) (.seq (.seq (.region k14_r1) (.cond (.tmp 29) .ret .skip)) (.seq (.region k14_r2) (.seq (.region k14_r3) (.cond (.tmp 41) (.region k14_r4) (.region k14_r5)))))))
theorem k14_l0_e : type_of% (@Ev_of P pr N e σ Q _ _ k14_l0.eq_1) := Ev_of k14_l0.eq_1
def k14 : CC := (.block 0 (.loop k14_l0))
theorem k14_e : type_of% (@Ev_of P pr N e σ Q _ _ k14.eq_1) := Ev_of k14.eq_1
theorem k14_a : type_of% @k14_e ∧ type_of% @k14_r0_e ∧ type_of% @k14_r1_e ∧ type_of% @k14_r2_e ∧ type_of% @k14_r3_e ∧ type_of% @k14_r4_e ∧ type_of% @k14_r5_e ∧ type_of% @k14_l0_e := ⟨@k14_e, @k14_r0_e, @k14_r1_e, @k14_r2_e, @k14_r3_e, @k14_r4_e, @k14_r5_e, @k14_l0_e⟩
/-- (*quern/lex.lexer).blank -/
theorem k14_is : FnIs Try.prog prims 14 58 [] k14 := FnIs.of_fn Try.func14 (by kernel_rfl) rfl
def k15_r0 : List COp := [
  ⟨some 6, .move (.tmp 0), none, false⟩,
  ⟨some 7, .nilCheck (.tmp 6), none, false⟩,
  ⟨some 8, .fieldAddr 42 (.tmp 7) 0, none, false⟩,
  ⟨some 9, .load 9 (.tmp 8), none, false⟩,
  ⟨some 10, .move (.tmp 0), none, true⟩,
  ⟨some 11, .nilCheck (.tmp 10), none, true⟩,
  ⟨some 12, .fieldAddr 42 (.tmp 11) 1, none, true⟩,
  ⟨some 13, .load 3 (.tmp 12), none, true⟩,
  ⟨some 14, .index 9 (.tmp 9) (.tmp 13), none, true⟩,
  ⟨some 2, .assign (.tmp 14), none, true⟩]
theorem k15_r0_e : type_of% (@Eo_of P pr N e σ Q _ _ k15_r0.eq_1) := Eo_of k15_r0.eq_1
def k15_r1 : List COp := [
  ⟨some 16, .move (.tmp 2), none, true⟩,
  ⟨some 17, .call { callee := .value (.func 24), args := #[.const (.string { data := #[97, 98, 99, 100, 101, 102, 103, 104, 105, 106, 107, 108, 109, 110, 111, 112, 113, 114, 115, 116, 117, 118, 119, 120, 121, 122, 95] }), .tmp 16], argTypes := #[9, 5] }, none, true⟩,
  ⟨some 18, .binOp .geq 3 (.tmp 17) (.const (.int .i64 0)) 3, none, true⟩,
  ⟨some 15, .assign (.tmp 18), none, true⟩]
theorem k15_r1_e : type_of% (@Eo_of P pr N e σ Q _ _ k15_r1.eq_1) := Eo_of k15_r1.eq_1
def k15_r2 : List COp := [
  ⟨some 19, .move (.tmp 0), none, true⟩,
  ⟨some 20, .call { callee := .value (.func 23), args := #[.tmp 19, .const (.string { data := #[97, 98, 99, 100, 101, 102, 103, 104, 105, 106, 107, 108, 109, 110, 111, 112, 113, 114, 115, 116, 117, 118, 119, 120, 121, 122, 95, 48, 49, 50, 51, 52, 53, 54, 55, 56, 57] })], argTypes := #[40, 9] }, none, true⟩,
  ⟨some 3, .assign (.tmp 20), none, true⟩]
theorem k15_r2_e : type_of% (@Eo_of P pr N e σ Q _ _ k15_r2.eq_1) := Eo_of k15_r2.eq_1
def k15_r3 : List COp := [
  ⟨some 21, .move (.tmp 3), none, true⟩,
  ⟨some 22, .move (.tmp 0), none, true⟩,
  ⟨some 23, .nilCheck (.tmp 22), none, true⟩,
  ⟨some 24, .fieldAddr 42 (.tmp 23) 1, none, true⟩,
  ⟨some 25, .load 3 (.tmp 24), none, true⟩,
  ⟨some 26, .binOp .sub 3 (.tmp 21) (.tmp 25) 3, none, true⟩,
  ⟨some 27, .binOp .gtr 3 (.tmp 26) (.const (.int .i64 16)) 3, none, true⟩]
theorem k15_r3_e : type_of% (@Eo_of P pr N e σ Q _ _ k15_r3.eq_1) := Eo_of k15_r3.eq_1
def k15_r4 : List COp := [
  ⟨some 28, .move (.tmp 0), none, true⟩,
  ⟨some 29, .move (.tmp 0), none, true⟩,
  ⟨some 30, .nilCheck (.tmp 29), none, true⟩,
  ⟨some 31, .fieldAddr 42 (.tmp 30) 1, none, true⟩,
  ⟨some 32, .load 3 (.tmp 31), none, true⟩,
  ⟨some 33, .call { callee := .value (.func 25), args := #[.tmp 28, .tmp 32, .const (.int .i64 3)], argTypes := #[40, 3, 24] }, none, true⟩]
theorem k15_r4_e : type_of% (@Eo_of P pr N e σ Q _ _ k15_r4.eq_1) := Eo_of k15_r4.eq_1
def k15_r5 : List COp := [
  ⟨some 34, .move (.tmp 0), none, false⟩,
  ⟨some 35, .move (.tmp 0), none, false⟩,
  ⟨some 36, .nilCheck (.tmp 35), none, false⟩,
  ⟨some 37, .fieldAddr 42 (.tmp 36) 0, none, false⟩,
  ⟨some 38, .load 9 (.tmp 37), none, false⟩,
  ⟨some 39, .move (.tmp 0), none, false⟩,
  ⟨some 40, .nilCheck (.tmp 39), none, false⟩,
  ⟨some 41, .fieldAddr 42 (.tmp 40) 1, none, false⟩,
  ⟨some 42, .load 3 (.tmp 41), none, false⟩,
  ⟨some 43, .move (.tmp 3), none, false⟩,
  ⟨some 44, .slice 9 (.tmp 38) (some (.tmp 42)) (some (.tmp 43)) .none, none, false⟩,
  ⟨some 45, .build 32 #[(0, .const (.int .i64 1)), (1, .tmp 44)], none, false⟩,
  ⟨some 46, .move (.tmp 3), none, true⟩,
  ⟨some 47, .call { callee := .value (.func 16), args := #[.tmp 34, .tmp 45, .tmp 46], argTypes := #[40, 32, 3] }, none, true⟩]
theorem k15_r5_e : type_of% (@Eo_of P pr N e σ Q _ _ k15_r5.eq_1) := Eo_of k15_r5.eq_1
def k15_r6 : List COp := [
  ⟨some 49, .move (.tmp 2), none, true⟩,
  ⟨some 50, .call { callee := .value (.func 24), args := #[.const (.string { data := #[48, 49, 50, 51, 52, 53, 54, 55, 56, 57] }), .tmp 49], argTypes := #[9, 5] }, none, true⟩,
  ⟨some 51, .binOp .geq 3 (.tmp 50) (.const (.int .i64 0)) 3, none, true⟩,
  ⟨some 48, .assign (.tmp 51), none, true⟩]
theorem k15_r6_e : type_of% (@Eo_of P pr N e σ Q _ _ k15_r6.eq_1) := Eo_of k15_r6.eq_1
def k15_r7 : List COp := [
  ⟨some 52, .move (.tmp 0), none, true⟩,
  ⟨some 53, .call { callee := .value (.func 26), args := #[.tmp 52], argTypes := #[40] }, none, true⟩]
theorem k15_r7_e : type_of% (@Eo_of P pr N e σ Q _ _ k15_r7.eq_1) := Eo_of k15_r7.eq_1
def k15_r8 : List COp := [
  ⟨some 55, .move (.tmp 2), none, true⟩,
  ⟨some 56, .binOp .eql 5 (.tmp 55) (.const (.int .u8 34)) 5, none, true⟩,
  ⟨some 54, .assign (.tmp 56), none, true⟩]
theorem k15_r8_e : type_of% (@Eo_of P pr N e σ Q _ _ k15_r8.eq_1) := Eo_of k15_r8.eq_1
def k15_r9 : List COp := [
  ⟨some 57, .move (.tmp 0), none, true⟩,
  ⟨some 58, .call { callee := .value (.func 27), args := #[.tmp 57], argTypes := #[40] }, none, true⟩]
theorem k15_r9_e : type_of% (@Eo_of P pr N e σ Q _ _ k15_r9.eq_1) := Eo_of k15_r9.eq_1
def k15_r10 : List COp := [
  ⟨some 59, .call { callee := .value (.func 28), args := #[], argTypes := #[] }, none, true⟩,
  ⟨some 60, .call { callee := .builtin .len, args := #[.tmp 59], argTypes := #[48] }, none, true⟩,
  ⟨some 61, .move (.const (.int .i64 0)), none, true⟩]
theorem k15_r10_e : type_of% (@Eo_of P pr N e σ Q _ _ k15_r10.eq_1) := Eo_of k15_r10.eq_1
def k15_r11 : List COp := [
  ⟨some 62, .binOp .lss 3 (.tmp 61) (.tmp 60) 3, none, true⟩]
theorem k15_r11_e : type_of% (@Eo_of P pr N e σ Q _ _ k15_r11.eq_1) := Eo_of k15_r11.eq_1
def k15_r12 : List COp := [
  ⟨some 63, .indexAddr 48 (.tmp 59) (.tmp 61), none, true⟩,
  ⟨some 64, .load 9 (.tmp 63), none, true⟩,
  ⟨some 5, .assign (.tmp 64), none, true⟩]
theorem k15_r12_e : type_of% (@Eo_of P pr N e σ Q _ _ k15_r12.eq_1) := Eo_of k15_r12.eq_1
def k15_r13 : List COp := [
  ⟨some 65, .move (.tmp 0), none, false⟩,
  ⟨some 66, .nilCheck (.tmp 65), none, false⟩,
  ⟨some 67, .fieldAddr 42 (.tmp 66) 0, none, false⟩,
  ⟨some 68, .load 9 (.tmp 67), none, false⟩,
  ⟨some 69, .move (.tmp 0), none, false⟩,
  ⟨some 70, .nilCheck (.tmp 69), none, false⟩,
  ⟨some 71, .fieldAddr 42 (.tmp 70) 1, none, false⟩,
  ⟨some 72, .load 3 (.tmp 71), none, false⟩,
  ⟨some 73, .slice 9 (.tmp 68) (some (.tmp 72)) .none .none, none, false⟩,
  ⟨some 74, .move (.tmp 5), none, true⟩,
  ⟨some 75, .call { callee := .value (.func 29), args := #[.tmp 73, .tmp 74], argTypes := #[9, 9] }, none, true⟩]
theorem k15_r13_e : type_of% (@Eo_of P pr N e σ Q _ _ k15_r13.eq_1) := Eo_of k15_r13.eq_1
def k15_r14 : List COp := [
  ⟨some 76, .move (.tmp 0), none, true⟩,
  ⟨some 77, .move (.tmp 5), none, true⟩,
  ⟨some 78, .build 32 #[(0, .const (.int .i64 4)), (1, .tmp 77)], none, true⟩,
  ⟨some 79, .move (.tmp 0), none, true⟩,
  ⟨some 80, .nilCheck (.tmp 79), none, true⟩,
  ⟨some 81, .fieldAddr 42 (.tmp 80) 1, none, true⟩,
  ⟨some 82, .load 3 (.tmp 81), none, true⟩,
  ⟨some 83, .binOp .add 3 (.tmp 82) (.const (.int .i64 2)) 3, none, true⟩,
  ⟨some 84, .call { callee := .value (.func 16), args := #[.tmp 76, .tmp 78, .tmp 83], argTypes := #[40, 32, 3] }, none, true⟩]
theorem k15_r14_e : type_of% (@Eo_of P pr N e σ Q _ _ k15_r14.eq_1) := Eo_of k15_r14.eq_1
def k15_r15 : List COp := [
  ⟨some 85, .binOp .add 3 (.tmp 61) (.const (.int .i64 1)) 3, none, true⟩,
  ⟨some 61, .move (.tmp 85), none, true⟩]
theorem k15_r15_e : type_of% (@Eo_of P pr N e σ Q _ _ k15_r15.eq_1) := Eo_of k15_r15.eq_1
def k15_l0 : CC := (.seq (.region k15_r11) (.seq (.cond (.tmp 62) .skip (.exit 1)) (.seq (.block 2 (.seq (.region k15_r12) (.seq (.region k15_r13) (.cond (.tmp 75) (.seq (.region k15_r14) .ret) .skip)))) (.region k15_r15))))
theorem k15_l0_e : type_of% (@Ev_of P pr N e σ Q _ _ k15_l0.eq_1) := Ev_of k15_l0.eq_1
def k15_r16 : List COp := [
  ⟨some 86, .move (.tmp 2), none, true⟩,
  ⟨some 87, .call { callee := .value (.func 24), args := #[.const (.string { data := #[40, 41, 123, 125, 91, 93, 58, 59, 44, 61, 60, 62, 43, 45, 42, 47, 37, 33, 46] }), .tmp 86], argTypes := #[9, 5] }, none, true⟩,
  ⟨some 88, .binOp .lss 3 (.tmp 87) (.const (.int .i64 0)) 3, none, true⟩]
theorem k15_r16_e : type_of% (@Eo_of P pr N e σ Q _ _ k15_r16.eq_1) := Eo_of k15_r16.eq_1
def k15_r17 : List COp := [
  ⟨some 89, .move (.tmp 0), none, true⟩,
  ⟨some 90, .move (.tmp 0), none, true⟩,
  ⟨some 91, .nilCheck (.tmp 90), none, true⟩,
  ⟨some 92, .fieldAddr 42 (.tmp 91) 1, none, true⟩,
  ⟨some 93, .load 3 (.tmp 92), none, true⟩,
  ⟨some 94, .call { callee := .value (.func 25), args := #[.tmp 89, .tmp 93, .const (.int .i64 30)], argTypes := #[40, 3, 24] }, none, true⟩]
theorem k15_r17_e : type_of% (@Eo_of P pr N e σ Q _ _ k15_r17.eq_1) := Eo_of k15_r17.eq_1
def k15_r18 : List COp := [
  ⟨some 95, .move (.tmp 0), none, true⟩,
  ⟨some 96, .move (.tmp 2), none, true⟩,
  ⟨some 97, .convert 5 9 (.tmp 96), none, true⟩,
  ⟨some 98, .build 32 #[(0, .const (.int .i64 4)), (1, .tmp 97)], none, true⟩,
  ⟨some 99, .move (.tmp 0), none, true⟩,
  ⟨some 100, .nilCheck (.tmp 99), none, true⟩,
  ⟨some 101, .fieldAddr 42 (.tmp 100) 1, none, true⟩,
  ⟨some 102, .load 3 (.tmp 101), none, true⟩,
  ⟨some 103, .binOp .add 3 (.tmp 102) (.const (.int .i64 1)) 3, none, true⟩,
  ⟨some 104, .call { callee := .value (.func 16), args := #[.tmp 95, .tmp 98, .tmp 103], argTypes := #[40, 32, 3] }, none, true⟩]
theorem k15_r18_e : type_of% (@Eo_of P pr N e σ Q _ _ k15_r18.eq_1) := Eo_of k15_r18.eq_1
def k15 : CC := (.seq (.region k15_r0) (.seq (.block 0 (.seq (.region k15_r1) (.cond (.tmp 15) (.seq (.region k15_r2) (.seq (.seq (.region k15_r3) (.cond (.tmp 27) (.region k15_r4) .skip)) (.seq (.region k15_r5) .ret))) (.seq (.region k15_r6) (.cond (.tmp 48) (.seq (.region k15_r7) .ret) (.seq (.region k15_r8) (.cond (.tmp 54) (.seq (.region k15_r9) .ret) .skip))))))) (.seq (.seq (.region k15_r10) (.block 1 (.loop k15_l0))) (.seq (.seq (.region k15_r16) (.cond (.tmp 88) (.region k15_r17) .skip)) (.region k15_r18)))))
theorem k15_e : type_of% (@Ev_of P pr N e σ Q _ _ k15.eq_1) := Ev_of k15.eq_1
theorem k15_a : type_of% @k15_e ∧ type_of% @k15_r0_e ∧ type_of% @k15_r1_e ∧ type_of% @k15_r2_e ∧ type_of% @k15_r3_e ∧ type_of% @k15_r4_e ∧ type_of% @k15_r5_e ∧ type_of% @k15_r6_e ∧ type_of% @k15_r7_e ∧ type_of% @k15_r8_e ∧ type_of% @k15_r9_e ∧ type_of% @k15_r10_e ∧ type_of% @k15_r11_e ∧ type_of% @k15_r12_e ∧ type_of% @k15_r13_e ∧ type_of% @k15_r14_e ∧ type_of% @k15_r15_e ∧ type_of% @k15_l0_e ∧ type_of% @k15_r16_e ∧ type_of% @k15_r17_e ∧ type_of% @k15_r18_e := ⟨@k15_e, @k15_r0_e, @k15_r1_e, @k15_r2_e, @k15_r3_e, @k15_r4_e, @k15_r5_e, @k15_r6_e, @k15_r7_e, @k15_r8_e, @k15_r9_e, @k15_r10_e, @k15_r11_e, @k15_r12_e, @k15_r13_e, @k15_r14_e, @k15_r15_e, @k15_l0_e, @k15_r16_e, @k15_r17_e, @k15_r18_e⟩
/-- (*quern/lex.lexer).one -/
theorem k15_is : FnIs Try.prog prims 15 105 [] k15 := FnIs.of_fn Try.func15 (by kernel_rfl) rfl
def k16_r0 : List COp := [
  ⟨some 4, .box 32 (.tmp 1), none, true⟩]
theorem k16_r0_e : type_of% (@Eo_of P pr N e σ Q _ _ k16_r0.eq_1) := Eo_of k16_r0.eq_1
def k16_r1 : List COp := [
  ⟨some 6, .move (.tmp 0), none, true⟩,
  ⟨some 7, .nilCheck (.tmp 6), none, true⟩,
  ⟨some 8, .fieldAddr 42 (.tmp 7) 2, none, true⟩,
  ⟨some 9, .load 23 (.tmp 8), none, true⟩,
  ⟨some 10, .call { callee := .builtin .len, args := #[.tmp 9], argTypes := #[23] }, none, true⟩,
  ⟨some 11, .binOp .geq 3 (.tmp 10) (.const (.int .i64 4096)) 3, none, true⟩]
theorem k16_r1_e : type_of% (@Eo_of P pr N e σ Q _ _ k16_r1.eq_1) := Eo_of k16_r1.eq_1
def k16_r2 : List COp := [
  ⟨some 12, .move (.tmp 0), none, true⟩,
  ⟨some 13, .move (.tmp 0), none, true⟩,
  ⟨some 14, .nilCheck (.tmp 13), none, true⟩,
  ⟨some 15, .fieldAddr 42 (.tmp 14) 1, none, true⟩,
  ⟨some 16, .load 3 (.tmp 15), none, true⟩,
  ⟨some 17, .call { callee := .value (.func 25), args := #[.tmp 12, .tmp 16, .const (.int .i64 36)], argTypes := #[40, 3, 24] }, none, true⟩]
theorem k16_r2_e : type_of% (@Eo_of P pr N e σ Q _ _ k16_r2.eq_1) := Eo_of k16_r2.eq_1
def k16_r3 : List COp := [
  ⟨some 18, .move (.tmp 0), none, true⟩,
  ⟨some 19, .nilCheck (.tmp 18), none, true⟩,
  ⟨some 20, .fieldAddr 42 (.tmp 19) 1, none, true⟩,
  ⟨some 21, .load 3 (.tmp 20), none, true⟩,
  ⟨some 22, .fieldAddr 32 (.tmp 4) 3, none, true⟩,
  ⟨none, .store 3 (.tmp 22) (.tmp 21), none, true⟩]
theorem k16_r3_e : type_of% (@Eo_of P pr N e σ Q _ _ k16_r3.eq_1) := Eo_of k16_r3.eq_1
def k16_r4 : List COp := [
  ⟨some 23, .move (.tmp 0), none, false⟩,
  ⟨some 24, .move (.tmp 0), none, false⟩,
  ⟨some 25, .nilCheck (.tmp 24), none, false⟩,
  ⟨some 26, .fieldAddr 42 (.tmp 25) 2, none, false⟩,
  ⟨some 27, .load 23 (.tmp 26), none, false⟩,
  ⟨some 28, .load 32 (.tmp 4), none, true⟩,
  ⟨some 29, .buildSlice 23 1 #[(0, .tmp 28)], none, true⟩,
  ⟨some 30, .call { callee := .builtin .append, args := #[.tmp 27, .tmp 29], argTypes := #[23, 23] }, none, true⟩,
  ⟨some 31, .nilCheck (.tmp 23), none, true⟩,
  ⟨some 32, .fieldAddr 42 (.tmp 31) 2, none, true⟩,
  ⟨none, .store 23 (.tmp 32) (.tmp 30), none, true⟩]
theorem k16_r4_e : type_of% (@Eo_of P pr N e σ Q _ _ k16_r4.eq_1) := Eo_of k16_r4.eq_1
def k16_r5 : List COp := [
  ⟨some 33, .move (.tmp 0), none, true⟩,
  ⟨some 34, .move (.tmp 2), none, true⟩,
  ⟨some 35, .nilCheck (.tmp 33), none, true⟩,
  ⟨some 36, .fieldAddr 42 (.tmp 35) 1, none, true⟩,
  ⟨none, .store 3 (.tmp 36) (.tmp 34), none, true⟩]
theorem k16_r5_e : type_of% (@Eo_of P pr N e σ Q _ _ k16_r5.eq_1) := Eo_of k16_r5.eq_1
def k16 : CC := (.seq (.region k16_r0) (.seq (.seq (.region k16_r1) (.cond (.tmp 11) (.region k16_r2) .skip)) (.seq (.region k16_r3) (.seq (.region k16_r4) (.region k16_r5)))))
theorem k16_e : type_of% (@Ev_of P pr N e σ Q _ _ k16.eq_1) := Ev_of k16.eq_1
theorem k16_a : type_of% @k16_e ∧ type_of% @k16_r0_e ∧ type_of% @k16_r1_e ∧ type_of% @k16_r2_e ∧ type_of% @k16_r3_e ∧ type_of% @k16_r4_e ∧ type_of% @k16_r5_e := ⟨@k16_e, @k16_r0_e, @k16_r1_e, @k16_r2_e, @k16_r3_e, @k16_r4_e, @k16_r5_e⟩
/-- (*quern/lex.lexer).add -/
theorem k16_is : FnIs Try.prog prims 16 37 [] k16 := FnIs.of_fn Try.func16 (by kernel_rfl) rfl
def k17_r0 : List COp := [
  ⟨some 2, .assign (.const (.bool false)), none, true⟩]
theorem k17_r0_e : type_of% (@Eo_of P pr N e σ Q _ _ k17_r0.eq_1) := Eo_of k17_r0.eq_1
def k17_r1 : List COp := [
  ⟨some 3, .move (.tmp 0), none, true⟩,
  ⟨some 4, .binOp .eql 5 (.tmp 3) (.const (.int .u8 32)) 5, none, true⟩,
  ⟨some 5, .move (.tmp 4), none, true⟩,
  ⟨some 6, .move (.tmp 0), some (5, false), true⟩,
  ⟨some 7, .binOp .eql 5 (.tmp 6) (.const (.int .u8 10)) 5, some (5, false), true⟩,
  ⟨some 8, .pick (.tmp 5) (.const (.bool true)) (.tmp 7), none, true⟩,
  ⟨some 9, .move (.tmp 8), none, true⟩,
  ⟨some 10, .move (.tmp 0), some (9, false), true⟩,
  ⟨some 11, .binOp .eql 5 (.tmp 10) (.const (.int .u8 9)) 5, some (9, false), true⟩,
  ⟨some 12, .pick (.tmp 9) (.const (.bool true)) (.tmp 11), none, true⟩,
  ⟨some 2, .assign (.tmp 12), none, true⟩]
theorem k17_r1_e : type_of% (@Eo_of P pr N e σ Q _ _ k17_r1.eq_1) := Eo_of k17_r1.eq_1
def k17 : CC := (.seq (.region k17_r0) (.seq (.region k17_r1) .ret))
theorem k17_e : type_of% (@Ev_of P pr N e σ Q _ _ k17.eq_1) := Ev_of k17.eq_1
theorem k17_a : type_of% @k17_e ∧ type_of% @k17_r0_e ∧ type_of% @k17_r1_e := ⟨@k17_e, @k17_r0_e, @k17_r1_e⟩
/-- quern/quernref06.blank -/
theorem k17_is : FnIs Try.prog prims 17 13 [ResultVar.tmp 2] k17 := FnIs.of_fn Try.func17 (by kernel_rfl) rfl
def k18_r0 : List COp := [
  ⟨some 2, .assign (.const (.bool false)), none, true⟩]
theorem k18_r0_e : type_of% (@Eo_of P pr N e σ Q _ _ k18_r0.eq_1) := Eo_of k18_r0.eq_1
def k18_r1 : List COp := [
  ⟨some 3, .move (.tmp 0), none, true⟩,
  ⟨some 4, .binOp .geq 5 (.tmp 3) (.const (.int .u8 97)) 5, none, true⟩,
  ⟨some 5, .move (.tmp 4), none, true⟩,
  ⟨some 6, .move (.tmp 0), some (5, true), true⟩,
  ⟨some 7, .binOp .leq 5 (.tmp 6) (.const (.int .u8 122)) 5, some (5, true), true⟩,
  ⟨some 8, .pick (.tmp 5) (.tmp 7) (.const (.bool false)), none, true⟩,
  ⟨some 9, .move (.tmp 8), none, true⟩,
  ⟨some 10, .move (.tmp 0), some (9, false), true⟩,
  ⟨some 11, .binOp .eql 5 (.tmp 10) (.const (.int .u8 95)) 5, some (9, false), true⟩,
  ⟨some 12, .pick (.tmp 9) (.const (.bool true)) (.tmp 11), none, true⟩,
  ⟨some 2, .assign (.tmp 12), none, true⟩]
theorem k18_r1_e : type_of% (@Eo_of P pr N e σ Q _ _ k18_r1.eq_1) := Eo_of k18_r1.eq_1
def k18 : CC := (.seq (.region k18_r0) (.seq (.region k18_r1) .ret))
theorem k18_e : type_of% (@Ev_of P pr N e σ Q _ _ k18.eq_1) := Ev_of k18.eq_1
theorem k18_a : type_of% @k18_e ∧ type_of% @k18_r0_e ∧ type_of% @k18_r1_e := ⟨@k18_e, @k18_r0_e, @k18_r1_e⟩
/-- quern/quernref06.letter -/
theorem k18_is : FnIs Try.prog prims 18 13 [ResultVar.tmp 2] k18 := FnIs.of_fn Try.func18 (by kernel_rfl) rfl
def k19_r0 : List COp := [
  ⟨some 2, .assign (.const (.bool false)), none, true⟩]
theorem k19_r0_e : type_of% (@Eo_of P pr N e σ Q _ _ k19_r0.eq_1) := Eo_of k19_r0.eq_1
def k19_r1 : List COp := [
  ⟨some 3, .move (.tmp 0), none, true⟩,
  ⟨some 4, .binOp .geq 5 (.tmp 3) (.const (.int .u8 48)) 5, none, true⟩,
  ⟨some 5, .move (.tmp 4), none, true⟩,
  ⟨some 6, .move (.tmp 0), some (5, true), true⟩,
  ⟨some 7, .binOp .leq 5 (.tmp 6) (.const (.int .u8 57)) 5, some (5, true), true⟩,
  ⟨some 8, .pick (.tmp 5) (.tmp 7) (.const (.bool false)), none, true⟩,
  ⟨some 2, .assign (.tmp 8), none, true⟩]
theorem k19_r1_e : type_of% (@Eo_of P pr N e σ Q _ _ k19_r1.eq_1) := Eo_of k19_r1.eq_1
def k19 : CC := (.seq (.region k19_r0) (.seq (.region k19_r1) .ret))
theorem k19_e : type_of% (@Ev_of P pr N e σ Q _ _ k19.eq_1) := Ev_of k19.eq_1
theorem k19_a : type_of% @k19_e ∧ type_of% @k19_r0_e ∧ type_of% @k19_r1_e := ⟨@k19_e, @k19_r0_e, @k19_r1_e⟩
/-- quern/quernref06.digit -/
theorem k19_is : FnIs Try.prog prims 19 9 [ResultVar.tmp 2] k19 := FnIs.of_fn Try.func19 (by kernel_rfl) rfl
def k20_r0 : List COp := [
  ⟨some 4, .alloc 32, none, true⟩,
  ⟨some 5, .assign (.const (.int .i64 0)), none, true⟩,
  ⟨some 6, .assign (.const (.int .i64 0)), none, true⟩]
theorem k20_r0_e : type_of% (@Eo_of P pr N e σ Q _ _ k20_r0.eq_1) := Eo_of k20_r0.eq_1
def k20_r1 : List COp := [
  ⟨some 10, .move (.tmp 1), none, true⟩,
  ⟨some 7, .assign (.tmp 10), none, true⟩]
theorem k20_r1_e : type_of% (@Eo_of P pr N e σ Q _ _ k20_r1.eq_1) := Eo_of k20_r1.eq_1
def k20_r2 : List COp := [
  ⟨some 11, .move (.tmp 7), none, true⟩,
  ⟨some 12, .move (.tmp 0), none, true⟩,
  ⟨some 13, .call { callee := .builtin .len, args := #[.tmp 12], argTypes := #[9] }, none, true⟩,
  ⟨some 14, .binOp .lss 3 (.tmp 11) (.tmp 13) 3, none, true⟩,
  ⟨some 15, .move (.tmp 14), none, true⟩,
  ⟨some 16, .move (.tmp 0), some (15, true), true⟩,
  ⟨some 17, .move (.tmp 7), some (15, true), true⟩,
  ⟨some 18, .index 9 (.tmp 16) (.tmp 17), some (15, true), true⟩,
  ⟨some 19, .call { callee := .value (.func 19), args := #[.tmp 18], argTypes := #[5] }, some (15, true), true⟩,
  ⟨some 20, .pick (.tmp 15) (.tmp 19) (.const (.bool false)), none, true⟩]
theorem k20_r2_e : type_of% (@Eo_of P pr N e σ Q _ _ k20_r2.eq_1) := Eo_of k20_r2.eq_1
def k20_r3 : List COp := [
  ⟨some 21, .move (.tmp 7), none, true⟩,
  ⟨some 22, .binOp .add 3 (.tmp 21) (.const (.int .i64 1)) 3, none, true⟩,
  ⟨some 7, .assign (.tmp 22), none, true⟩]
theorem k20_r3_e : type_of% (@Eo_of P pr N e σ Q _ _ k20_r3.eq_1) := Eo_of k20_r3.eq_1
def k20_l0 : CC := (.seq (.seq (.region k20_r2) (.cond (.tmp 20) .skip (.exit 0))) (.block 1 (.region k20_r3)))
theorem k20_l0_e : type_of% (@Ev_of P pr N e σ Q _ _ k20_l0.eq_1) := Ev_of k20_l0.eq_1
def k20_r4 : List COp := [
  ⟨some 23, .move (.tmp 7), none, true⟩,
  ⟨some 24, .move (.tmp 1), none, true⟩,
  ⟨some 25, .binOp .sub 3 (.tmp 23) (.tmp 24) 3, none, true⟩,
  ⟨some 26, .binOp .gtr 3 (.tmp 25) (.const (.int .i64 1)) 3, none, true⟩,
  ⟨some 27, .move (.tmp 26), none, true⟩,
  ⟨some 28, .move (.tmp 0), some (27, true), true⟩,
  ⟨some 29, .move (.tmp 1), some (27, true), true⟩,
  ⟨some 30, .index 9 (.tmp 28) (.tmp 29), some (27, true), true⟩,
  ⟨some 31, .binOp .eql 5 (.tmp 30) (.const (.int .u8 48)) 5, some (27, true), true⟩,
  ⟨some 32, .pick (.tmp 27) (.tmp 31) (.const (.bool false)), none, true⟩]
theorem k20_r4_e : type_of% (@Eo_of P pr N e σ Q _ _ k20_r4.eq_1) := Eo_of k20_r4.eq_1
def k20_r5 : List COp := [
  ⟨some 33, .build 32 #[], none, true⟩,
  ⟨some 34, .move (.tmp 1), none, true⟩,
  ⟨none, .store 32 (.tmp 4) (.tmp 33), none, true⟩,
  ⟨some 5, .assign (.tmp 34), none, true⟩,
  ⟨some 6, .assign (.const (.int .i64 30)), none, true⟩]
theorem k20_r5_e : type_of% (@Eo_of P pr N e σ Q _ _ k20_r5.eq_1) := Eo_of k20_r5.eq_1
def k20_r6 : List COp := [
  ⟨some 8, .assign (.const (.int .u64 0)), none, true⟩]
theorem k20_r6_e : type_of% (@Eo_of P pr N e σ Q _ _ k20_r6.eq_1) := Eo_of k20_r6.eq_1
def k20_r7 : List COp := [
  ⟨some 35, .move (.tmp 1), none, true⟩,
  ⟨some 9, .assign (.tmp 35), none, true⟩]
theorem k20_r7_e : type_of% (@Eo_of P pr N e σ Q _ _ k20_r7.eq_1) := Eo_of k20_r7.eq_1
def k20_r8 : List COp := [
  ⟨some 36, .move (.tmp 9), none, true⟩,
  ⟨some 37, .move (.tmp 7), none, true⟩,
  ⟨some 38, .binOp .lss 3 (.tmp 36) (.tmp 37) 3, none, true⟩]
theorem k20_r8_e : type_of% (@Eo_of P pr N e σ Q _ _ k20_r8.eq_1) := Eo_of k20_r8.eq_1
def k20_r10 : List COp := [
  ⟨some 41, .move (.tmp 8), none, true⟩,
  ⟨some 42, .binOp .gtr 51 (.tmp 41) (.const (.int .u64 1152921504606846976)) 51, none, true⟩]
theorem k20_r10_e : type_of% (@Eo_of P pr N e σ Q _ _ k20_r10.eq_1) := Eo_of k20_r10.eq_1
def k20_r11 : List COp := [
  ⟨some 43, .build 32 #[], none, true⟩,
  ⟨some 44, .move (.tmp 1), none, true⟩,
  ⟨none, .store 32 (.tmp 4) (.tmp 43), none, true⟩,
  ⟨some 5, .assign (.tmp 44), none, true⟩,
  ⟨some 6, .assign (.const (.int .i64 3)), none, true⟩]
theorem k20_r11_e : type_of% (@Eo_of P pr N e σ Q _ _ k20_r11.eq_1) := Eo_of k20_r11.eq_1
def k20_r12 : List COp := [
  ⟨some 45, .move (.tmp 8), none, true⟩,
  ⟨some 46, .binOp .mul 51 (.tmp 45) (.const (.int .u64 10)) 51, none, true⟩,
  ⟨some 47, .move (.tmp 0), none, true⟩,
  ⟨some 48, .move (.tmp 9), none, true⟩,
  ⟨some 49, .index 9 (.tmp 47) (.tmp 48), none, true⟩,
  ⟨some 50, .binOp .sub 5 (.tmp 49) (.const (.int .u8 48)) 5, none, true⟩,
  ⟨some 51, .convert 5 51 (.tmp 50), none, true⟩,
  ⟨some 52, .binOp .add 51 (.tmp 46) (.tmp 51) 51, none, true⟩,
  ⟨some 8, .assign (.tmp 52), none, true⟩]
theorem k20_r12_e : type_of% (@Eo_of P pr N e σ Q _ _ k20_r12.eq_1) := Eo_of k20_r12.eq_1
def k20_r9 : List COp := [
  ⟨some 39, .move (.tmp 9), none, true⟩,
  ⟨some 40, .binOp .add 3 (.tmp 39) (.const (.int .i64 1)) 3, none, true⟩,
  ⟨some 9, .assign (.tmp 40), none, true⟩]
theorem k20_r9_e : type_of% (@Eo_of P pr N e σ Q _ _ k20_r9.eq_1) := Eo_of k20_r9.eq_1
def k20_l1 : CC := (.seq (.seq (.region k20_r8) (.cond (.tmp 38) .skip (.exit 2))) (.seq (.block 3 (.seq (.seq (.region k20_r10) (.cond (.tmp 42) (.seq (.region k20_r11) .ret) .skip)) (.region k20_r12))) (.region k20_r9)))
theorem k20_l1_e : type_of% (@Ev_of P pr N e σ Q _ _ k20_l1.eq_1) := Ev_of k20_l1.eq_1
def k20_r13 : List COp := [
  ⟨some 53, .move (.tmp 8), none, true⟩,
  ⟨some 54, .binOp .gtr 51 (.tmp 53) (.const (.int .u64 9223372036854775807)) 51, none, true⟩]
theorem k20_r13_e : type_of% (@Eo_of P pr N e σ Q _ _ k20_r13.eq_1) := Eo_of k20_r13.eq_1
def k20_r14 : List COp := [
  ⟨some 55, .build 32 #[], none, true⟩,
  ⟨some 56, .move (.tmp 1), none, true⟩,
  ⟨none, .store 32 (.tmp 4) (.tmp 55), none, true⟩,
  ⟨some 5, .assign (.tmp 56), none, true⟩,
  ⟨some 6, .assign (.const (.int .i64 3)), none, true⟩]
theorem k20_r14_e : type_of% (@Eo_of P pr N e σ Q _ _ k20_r14.eq_1) := Eo_of k20_r14.eq_1
def k20_r15 : List COp := [
  ⟨some 57, .move (.tmp 0), none, true⟩,
  ⟨some 58, .move (.tmp 1), none, true⟩,
  ⟨some 59, .move (.tmp 7), none, true⟩,
  ⟨some 60, .slice 9 (.tmp 57) (some (.tmp 58)) (some (.tmp 59)) .none, none, true⟩,
  ⟨some 61, .move (.tmp 8), none, true⟩,
  ⟨some 62, .convert 51 3 (.tmp 61), none, true⟩,
  ⟨some 63, .move (.tmp 1), none, true⟩,
  ⟨some 64, .build 32 #[(0, .const (.int .i64 2)), (1, .tmp 60), (2, .tmp 62), (3, .tmp 63)], none, true⟩,
  ⟨some 65, .move (.tmp 7), none, true⟩,
  ⟨none, .store 32 (.tmp 4) (.tmp 64), none, true⟩,
  ⟨some 5, .assign (.tmp 65), none, true⟩,
  ⟨some 6, .assign (.const (.int .i64 0)), none, true⟩]
theorem k20_r15_e : type_of% (@Eo_of P pr N e σ Q _ _ k20_r15.eq_1) := Eo_of k20_r15.eq_1
def k20 : CC := (.seq (.region k20_r0) (.seq (.region k20_r1) (.seq (.block 0 (.loop k20_l0)) (.seq (.seq (.region k20_r4) (.cond (.tmp 32) (.seq (.region k20_r5) .ret) .skip)) (.seq (.region k20_r6) (.seq (.seq (.region k20_r7) (.block 2 (.loop k20_l1))) (.seq (.seq (.region k20_r13) (.cond (.tmp 54) (.seq (.region k20_r14) .ret) .skip)) (.seq (.region k20_r15) .ret))))))))
theorem k20_e : type_of% (@Ev_of P pr N e σ Q _ _ k20.eq_1) := Ev_of k20.eq_1
theorem k20_a : type_of% @k20_e ∧ type_of% @k20_r0_e ∧ type_of% @k20_r1_e ∧ type_of% @k20_r2_e ∧ type_of% @k20_r3_e ∧ type_of% @k20_l0_e ∧ type_of% @k20_r4_e ∧ type_of% @k20_r5_e ∧ type_of% @k20_r6_e ∧ type_of% @k20_r7_e ∧ type_of% @k20_r8_e ∧ type_of% @k20_r10_e ∧ type_of% @k20_r11_e ∧ type_of% @k20_r12_e ∧ type_of% @k20_r9_e ∧ type_of% @k20_l1_e ∧ type_of% @k20_r13_e ∧ type_of% @k20_r14_e ∧ type_of% @k20_r15_e := ⟨@k20_e, @k20_r0_e, @k20_r1_e, @k20_r2_e, @k20_r3_e, @k20_l0_e, @k20_r4_e, @k20_r5_e, @k20_r6_e, @k20_r7_e, @k20_r8_e, @k20_r10_e, @k20_r11_e, @k20_r12_e, @k20_r9_e, @k20_l1_e, @k20_r13_e, @k20_r14_e, @k20_r15_e⟩
/-- quern/quernref06.number -/
theorem k20_is : FnIs Try.prog prims 20 66 [ResultVar.cell 4 32, ResultVar.tmp 5, ResultVar.tmp 6] k20 := FnIs.of_fn Try.func20 (by kernel_rfl) rfl
def k21_r0 : List COp := [
  ⟨some 4, .alloc 32, none, true⟩,
  ⟨some 5, .assign (.const (.int .i64 0)), none, true⟩,
  ⟨some 6, .assign (.const (.int .i64 0)), none, true⟩]
theorem k21_r0_e : type_of% (@Eo_of P pr N e σ Q _ _ k21_r0.eq_1) := Eo_of k21_r0.eq_1
def k21_r1 : List COp := [
  ⟨some 7, .assign (.const (.slice .none 0 0)), none, true⟩]
theorem k21_r1_e : type_of% (@Eo_of P pr N e σ Q _ _ k21_r1.eq_1) := Eo_of k21_r1.eq_1
def k21_r2 : List COp := [
  ⟨some 9, .move (.tmp 1), none, true⟩,
  ⟨some 10, .binOp .add 3 (.tmp 9) (.const (.int .i64 1)) 3, none, true⟩,
  ⟨some 8, .assign (.tmp 10), none, true⟩]
theorem k21_r2_e : type_of% (@Eo_of P pr N e σ Q _ _ k21_r2.eq_1) := Eo_of k21_r2.eq_1
def k21_r3 : List COp := [
  ⟨some 11, .move (.tmp 8), none, true⟩,
  ⟨some 12, .move (.tmp 0), none, true⟩,
  ⟨some 13, .call { callee := .builtin .len, args := #[.tmp 12], argTypes := #[9] }, none, true⟩,
  ⟨some 14, .binOp .lss 3 (.tmp 11) (.tmp 13) 3, none, true⟩]
theorem k21_r3_e : type_of% (@Eo_of P pr N e σ Q _ _ k21_r3.eq_1) := Eo_of k21_r3.eq_1
def k21_r4 : List COp := [
  ⟨some 15, .move (.tmp 0), none, true⟩,
  ⟨some 16, .move (.tmp 8), none, true⟩,
  ⟨some 17, .index 9 (.tmp 15) (.tmp 16), none, true⟩,
  ⟨some 18, .binOp .eql 5 (.tmp 17) (.const (.int .u8 34)) 5, none, true⟩]
theorem k21_r4_e : type_of% (@Eo_of P pr N e σ Q _ _ k21_r4.eq_1) := Eo_of k21_r4.eq_1
def k21_r5 : List COp := [
  ⟨some 19, .move (.tmp 7), none, true⟩,
  ⟨some 20, .call { callee := .builtin .len, args := #[.tmp 19], argTypes := #[29] }, none, true⟩,
  ⟨some 21, .binOp .gtr 3 (.tmp 20) (.const (.int .i64 256)) 3, none, true⟩]
theorem k21_r5_e : type_of% (@Eo_of P pr N e σ Q _ _ k21_r5.eq_1) := Eo_of k21_r5.eq_1
def k21_r6 : List COp := [
  ⟨some 22, .build 32 #[], none, true⟩,
  ⟨some 23, .move (.tmp 1), none, true⟩,
  ⟨none, .store 32 (.tmp 4) (.tmp 22), none, true⟩,
  ⟨some 5, .assign (.tmp 23), none, true⟩,
  ⟨some 6, .assign (.const (.int .i64 3)), none, true⟩]
theorem k21_r6_e : type_of% (@Eo_of P pr N e σ Q _ _ k21_r6.eq_1) := Eo_of k21_r6.eq_1
def k21_r7 : List COp := [
  ⟨some 24, .move (.tmp 7), none, true⟩,
  ⟨some 25, .convert 29 9 (.tmp 24), none, true⟩,
  ⟨some 26, .move (.tmp 1), none, true⟩,
  ⟨some 27, .build 32 #[(0, .const (.int .i64 3)), (1, .tmp 25), (3, .tmp 26)], none, true⟩,
  ⟨some 28, .move (.tmp 8), none, true⟩,
  ⟨some 29, .binOp .add 3 (.tmp 28) (.const (.int .i64 1)) 3, none, true⟩,
  ⟨none, .store 32 (.tmp 4) (.tmp 27), none, true⟩,
  ⟨some 5, .assign (.tmp 29), none, true⟩,
  ⟨some 6, .assign (.const (.int .i64 0)), none, true⟩]
theorem k21_r7_e : type_of% (@Eo_of P pr N e σ Q _ _ k21_r7.eq_1) := Eo_of k21_r7.eq_1
def k21_r8 : List COp := [
  ⟨some 30, .move (.tmp 0), none, true⟩,
  ⟨some 31, .move (.tmp 8), none, true⟩,
  ⟨some 32, .index 9 (.tmp 30) (.tmp 31), none, true⟩,
  ⟨some 33, .binOp .lss 5 (.tmp 32) (.const (.int .u8 32)) 5, none, true⟩,
  ⟨some 34, .move (.tmp 33), none, true⟩,
  ⟨some 35, .move (.tmp 0), some (34, false), true⟩,
  ⟨some 36, .move (.tmp 8), some (34, false), true⟩,
  ⟨some 37, .index 9 (.tmp 35) (.tmp 36), some (34, false), true⟩,
  ⟨some 38, .binOp .gtr 5 (.tmp 37) (.const (.int .u8 126)) 5, some (34, false), true⟩,
  ⟨some 39, .pick (.tmp 34) (.const (.bool true)) (.tmp 38), none, true⟩]
theorem k21_r8_e : type_of% (@Eo_of P pr N e σ Q _ _ k21_r8.eq_1) := Eo_of k21_r8.eq_1
def k21_r9 : List COp := [
  ⟨some 40, .build 32 #[], none, true⟩,
  ⟨some 41, .move (.tmp 8), none, true⟩,
  ⟨none, .store 32 (.tmp 4) (.tmp 40), none, true⟩,
  ⟨some 5, .assign (.tmp 41), none, true⟩,
  ⟨some 6, .assign (.const (.int .i64 30)), none, true⟩]
theorem k21_r9_e : type_of% (@Eo_of P pr N e σ Q _ _ k21_r9.eq_1) := Eo_of k21_r9.eq_1
def k21_r10 : List COp := [
  ⟨some 42, .move (.tmp 0), none, true⟩,
  ⟨some 43, .move (.tmp 8), none, true⟩,
  ⟨some 44, .index 9 (.tmp 42) (.tmp 43), none, true⟩,
  ⟨some 45, .binOp .eql 5 (.tmp 44) (.const (.int .u8 92)) 5, none, true⟩]
theorem k21_r10_e : type_of% (@Eo_of P pr N e σ Q _ _ k21_r10.eq_1) := Eo_of k21_r10.eq_1
def k21_r11 : List COp := [
  ⟨some 46, .move (.tmp 8), none, true⟩,
  ⟨some 47, .binOp .add 3 (.tmp 46) (.const (.int .i64 1)) 3, none, true⟩,
  ⟨some 48, .move (.tmp 0), none, true⟩,
  ⟨some 49, .call { callee := .builtin .len, args := #[.tmp 48], argTypes := #[9] }, none, true⟩,
  ⟨some 50, .binOp .geq 3 (.tmp 47) (.tmp 49) 3, none, true⟩,
  ⟨some 51, .move (.tmp 50), none, true⟩,
  ⟨some 52, .move (.tmp 0), some (51, false), true⟩,
  ⟨some 53, .move (.tmp 8), some (51, false), true⟩,
  ⟨some 54, .binOp .add 3 (.tmp 53) (.const (.int .i64 1)) 3, some (51, false), true⟩,
  ⟨some 55, .index 9 (.tmp 52) (.tmp 54), some (51, false), true⟩,
  ⟨some 56, .binOp .neq 5 (.tmp 55) (.const (.int .u8 34)) 5, some (51, false), true⟩,
  ⟨some 57, .move (.tmp 56), some (51, false), true⟩,
  ⟨some 58, .move (.tmp 0), some (57, true), true⟩,
  ⟨some 59, .move (.tmp 8), some (57, true), true⟩,
  ⟨some 60, .binOp .add 3 (.tmp 59) (.const (.int .i64 1)) 3, some (57, true), true⟩,
  ⟨some 61, .index 9 (.tmp 58) (.tmp 60), some (57, true), true⟩,
  ⟨some 62, .binOp .neq 5 (.tmp 61) (.const (.int .u8 92)) 5, some (57, true), true⟩,
  ⟨some 63, .pick (.tmp 57) (.tmp 62) (.const (.bool false)), some (51, false), true⟩,
  ⟨some 64, .pick (.tmp 51) (.const (.bool true)) (.tmp 63), none, true⟩]
theorem k21_r11_e : type_of% (@Eo_of P pr N e σ Q _ _ k21_r11.eq_1) := Eo_of k21_r11.eq_1
def k21_r12 : List COp := [
  ⟨some 65, .build 32 #[], none, true⟩,
  ⟨some 66, .move (.tmp 8), none, true⟩,
  ⟨none, .store 32 (.tmp 4) (.tmp 65), none, true⟩,
  ⟨some 5, .assign (.tmp 66), none, true⟩,
  ⟨some 6, .assign (.const (.int .i64 30)), none, true⟩]
theorem k21_r12_e : type_of% (@Eo_of P pr N e σ Q _ _ k21_r12.eq_1) := Eo_of k21_r12.eq_1
def k21_r13 : List COp := [
  ⟨some 67, .move (.tmp 8), none, true⟩,
  ⟨some 68, .binOp .add 3 (.tmp 67) (.const (.int .i64 1)) 3, none, true⟩,
  ⟨some 8, .assign (.tmp 68), none, true⟩]
theorem k21_r13_e : type_of% (@Eo_of P pr N e σ Q _ _ k21_r13.eq_1) := Eo_of k21_r13.eq_1
def k21_r14 : List COp := [
  ⟨some 69, .move (.tmp 7), none, true⟩,
  ⟨some 70, .move (.tmp 0), none, true⟩,
  ⟨some 71, .move (.tmp 8), none, true⟩,
  ⟨some 72, .index 9 (.tmp 70) (.tmp 71), none, true⟩,
  ⟨some 73, .buildSlice 29 1 #[(0, .tmp 72)], none, true⟩,
  ⟨some 74, .call { callee := .builtin .append, args := #[.tmp 69, .tmp 73], argTypes := #[29, 29] }, none, true⟩,
  ⟨some 7, .assign (.tmp 74), none, true⟩]
theorem k21_r14_e : type_of% (@Eo_of P pr N e σ Q _ _ k21_r14.eq_1) := Eo_of k21_r14.eq_1
def k21_r15 : List COp := [
  ⟨some 75, .move (.tmp 8), none, true⟩,
  ⟨some 76, .binOp .add 3 (.tmp 75) (.const (.int .i64 1)) 3, none, true⟩,
  ⟨some 8, .assign (.tmp 76), none, true⟩]
theorem k21_r15_e : type_of% (@Eo_of P pr N e σ Q _ _ k21_r15.eq_1) := Eo_of k21_r15.eq_1
def k21_l0 : CC := (.seq (.seq (.region k21_r3) (.cond (.tmp 14) .skip (.exit 0))) (.block 1 (.seq (.seq (.region k21_r4) (.cond (.tmp 18) (.seq (.seq (.region k21_r5) (.cond (.tmp 21) (.seq (.region k21_r6) .ret) .skip)) (.seq (.region k21_r7) .ret)) .skip)) (.seq (.seq (.region k21_r8) (.cond (.tmp 39) (.seq (.region k21_r9) .ret) .skip)) (.seq (.seq (.region k21_r10) (.cond (.tmp 45) (.seq (.seq (.region k21_r11) (.cond (.tmp 64) (.seq (.region k21_r12) .ret) .skip)) (.region k21_r13)) .skip)) (.seq (.region k21_r14) (.region k21_r15)))))))
theorem k21_l0_e : type_of% (@Ev_of P pr N e σ Q _ _ k21_l0.eq_1) := Ev_of k21_l0.eq_1
def k21_r16 : List COp := [
  ⟨some 77, .build 32 #[], none, true⟩,
  ⟨some 78, .move (.tmp 1), none, true⟩,
  ⟨none, .store 32 (.tmp 4) (.tmp 77), none, true⟩,
  ⟨some 5, .assign (.tmp 78), none, true⟩,
  ⟨some 6, .assign (.const (.int .i64 30)), none, true⟩]
theorem k21_r16_e : type_of% (@Eo_of P pr N e σ Q _ _ k21_r16.eq_1) := Eo_of k21_r16.eq_1
def k21 : CC := (.seq (.region k21_r0) (.seq (.region k21_r1) (.seq (.region k21_r2) (.seq (.block 0 (.loop k21_l0)) (.seq (.region k21_r16) .ret)))))
theorem k21_e : type_of% (@Ev_of P pr N e σ Q _ _ k21.eq_1) := Ev_of k21.eq_1
theorem k21_a : type_of% @k21_e ∧ type_of% @k21_r0_e ∧ type_of% @k21_r1_e ∧ type_of% @k21_r2_e ∧ type_of% @k21_r3_e ∧ type_of% @k21_r4_e ∧ type_of% @k21_r5_e ∧ type_of% @k21_r6_e ∧ type_of% @k21_r7_e ∧ type_of% @k21_r8_e ∧ type_of% @k21_r9_e ∧ type_of% @k21_r10_e ∧ type_of% @k21_r11_e ∧ type_of% @k21_r12_e ∧ type_of% @k21_r13_e ∧ type_of% @k21_r14_e ∧ type_of% @k21_r15_e ∧ type_of% @k21_l0_e ∧ type_of% @k21_r16_e := ⟨@k21_e, @k21_r0_e, @k21_r1_e, @k21_r2_e, @k21_r3_e, @k21_r4_e, @k21_r5_e, @k21_r6_e, @k21_r7_e, @k21_r8_e, @k21_r9_e, @k21_r10_e, @k21_r11_e, @k21_r12_e, @k21_r13_e, @k21_r14_e, @k21_r15_e, @k21_l0_e, @k21_r16_e⟩
/-- quern/quernref06.text -/
theorem k21_is : FnIs Try.prog prims 21 79 [ResultVar.cell 4 32, ResultVar.tmp 5, ResultVar.tmp 6] k21 := FnIs.of_fn Try.func21 (by kernel_rfl) rfl
def k22_r0 : List COp := [
  ⟨some 4, .alloc 32, none, true⟩,
  ⟨some 5, .assign (.const (.int .i64 0)), none, true⟩,
  ⟨some 6, .assign (.const (.int .i64 0)), none, true⟩]
theorem k22_r0_e : type_of% (@Eo_of P pr N e σ Q _ _ k22_r0.eq_1) := Eo_of k22_r0.eq_1
def k22_r1 : List COp := [
  ⟨some 8, .move (.tmp 1), none, true⟩,
  ⟨some 9, .binOp .add 3 (.tmp 8) (.const (.int .i64 1)) 3, none, true⟩,
  ⟨some 10, .move (.tmp 0), none, true⟩,
  ⟨some 11, .call { callee := .builtin .len, args := #[.tmp 10], argTypes := #[9] }, none, true⟩,
  ⟨some 12, .binOp .lss 3 (.tmp 9) (.tmp 11) 3, none, true⟩]
theorem k22_r1_e : type_of% (@Eo_of P pr N e σ Q _ _ k22_r1.eq_1) := Eo_of k22_r1.eq_1
def k22_r2 : List COp := [
  ⟨some 13, .move (.tmp 0), none, true⟩,
  ⟨some 14, .move (.tmp 1), none, true⟩,
  ⟨some 15, .move (.tmp 1), none, true⟩,
  ⟨some 16, .binOp .add 3 (.tmp 15) (.const (.int .i64 2)) 3, none, true⟩,
  ⟨some 17, .slice 9 (.tmp 13) (some (.tmp 14)) (some (.tmp 16)) .none, none, true⟩,
  ⟨some 7, .assign (.tmp 17), none, true⟩]
theorem k22_r2_e : type_of% (@Eo_of P pr N e σ Q _ _ k22_r2.eq_1) := Eo_of k22_r2.eq_1
def k22_r3 : List COp := [
  ⟨some 18, .move (.tmp 7), none, true⟩,
  ⟨some 19, .binOp .eql 9 (.tmp 18) (.const (.string { data := #[61, 61] })) 9, none, true⟩,
  ⟨some 20, .move (.tmp 19), none, true⟩,
  ⟨some 21, .move (.tmp 7), some (20, false), true⟩,
  ⟨some 22, .binOp .eql 9 (.tmp 21) (.const (.string { data := #[33, 61] })) 9, some (20, false), true⟩,
  ⟨some 23, .pick (.tmp 20) (.const (.bool true)) (.tmp 22), none, true⟩,
  ⟨some 24, .move (.tmp 23), none, true⟩,
  ⟨some 25, .move (.tmp 7), some (24, false), true⟩,
  ⟨some 26, .binOp .eql 9 (.tmp 25) (.const (.string { data := #[60, 61] })) 9, some (24, false), true⟩,
  ⟨some 27, .pick (.tmp 24) (.const (.bool true)) (.tmp 26), none, true⟩,
  ⟨some 28, .move (.tmp 27), none, true⟩,
  ⟨some 29, .move (.tmp 7), some (28, false), true⟩,
  ⟨some 30, .binOp .eql 9 (.tmp 29) (.const (.string { data := #[62, 61] })) 9, some (28, false), true⟩,
  ⟨some 31, .pick (.tmp 28) (.const (.bool true)) (.tmp 30), none, true⟩,
  ⟨some 32, .move (.tmp 31), none, true⟩,
  ⟨some 33, .move (.tmp 7), some (32, false), true⟩,
  ⟨some 34, .binOp .eql 9 (.tmp 33) (.const (.string { data := #[38, 38] })) 9, some (32, false), true⟩,
  ⟨some 35, .pick (.tmp 32) (.const (.bool true)) (.tmp 34), none, true⟩,
  ⟨some 36, .move (.tmp 35), none, true⟩,
  ⟨some 37, .move (.tmp 7), some (36, false), true⟩,
  ⟨some 38, .binOp .eql 9 (.tmp 37) (.const (.string { data := #[124, 124] })) 9, some (36, false), true⟩,
  ⟨some 39, .pick (.tmp 36) (.const (.bool true)) (.tmp 38), none, true⟩]
theorem k22_r3_e : type_of% (@Eo_of P pr N e σ Q _ _ k22_r3.eq_1) := Eo_of k22_r3.eq_1
def k22_r4 : List COp := [
  ⟨some 40, .move (.tmp 7), none, true⟩,
  ⟨some 41, .move (.tmp 1), none, true⟩,
  ⟨some 42, .build 32 #[(0, .const (.int .i64 4)), (1, .tmp 40), (3, .tmp 41)], none, true⟩,
  ⟨some 43, .move (.tmp 1), none, true⟩,
  ⟨some 44, .binOp .add 3 (.tmp 43) (.const (.int .i64 2)) 3, none, true⟩,
  ⟨none, .store 32 (.tmp 4) (.tmp 42), none, true⟩,
  ⟨some 5, .assign (.tmp 44), none, true⟩,
  ⟨some 6, .assign (.const (.int .i64 0)), none, true⟩]
theorem k22_r4_e : type_of% (@Eo_of P pr N e σ Q _ _ k22_r4.eq_1) := Eo_of k22_r4.eq_1
def k22_r5 : List COp := [
  ⟨some 45, .move (.tmp 0), none, true⟩,
  ⟨some 46, .move (.tmp 1), none, true⟩,
  ⟨some 47, .index 9 (.tmp 45) (.tmp 46), none, true⟩]
theorem k22_r5_e : type_of% (@Eo_of P pr N e σ Q _ _ k22_r5.eq_1) := Eo_of k22_r5.eq_1
def k22_r6 : List COp := [
  ⟨some 49, .binOp .eql 5 (.tmp 47) (.const (.int .u8 40)) 5, none, true⟩,
  ⟨some 48, .assign (.tmp 49), none, true⟩]
theorem k22_r6_e : type_of% (@Eo_of P pr N e σ Q _ _ k22_r6.eq_1) := Eo_of k22_r6.eq_1
def k22_r7 : List COp := [
  ⟨some 50, .binOp .eql 5 (.tmp 47) (.const (.int .u8 41)) 5, none, true⟩,
  ⟨some 48, .assign (.tmp 50), none, true⟩]
theorem k22_r7_e : type_of% (@Eo_of P pr N e σ Q _ _ k22_r7.eq_1) := Eo_of k22_r7.eq_1
def k22_r8 : List COp := [
  ⟨some 51, .binOp .eql 5 (.tmp 47) (.const (.int .u8 123)) 5, none, true⟩,
  ⟨some 48, .assign (.tmp 51), none, true⟩]
theorem k22_r8_e : type_of% (@Eo_of P pr N e σ Q _ _ k22_r8.eq_1) := Eo_of k22_r8.eq_1
def k22_r9 : List COp := [
  ⟨some 52, .binOp .eql 5 (.tmp 47) (.const (.int .u8 125)) 5, none, true⟩,
  ⟨some 48, .assign (.tmp 52), none, true⟩]
theorem k22_r9_e : type_of% (@Eo_of P pr N e σ Q _ _ k22_r9.eq_1) := Eo_of k22_r9.eq_1
def k22_r10 : List COp := [
  ⟨some 53, .binOp .eql 5 (.tmp 47) (.const (.int .u8 91)) 5, none, true⟩,
  ⟨some 48, .assign (.tmp 53), none, true⟩]
theorem k22_r10_e : type_of% (@Eo_of P pr N e σ Q _ _ k22_r10.eq_1) := Eo_of k22_r10.eq_1
def k22_r11 : List COp := [
  ⟨some 54, .binOp .eql 5 (.tmp 47) (.const (.int .u8 93)) 5, none, true⟩,
  ⟨some 48, .assign (.tmp 54), none, true⟩]
theorem k22_r11_e : type_of% (@Eo_of P pr N e σ Q _ _ k22_r11.eq_1) := Eo_of k22_r11.eq_1
def k22_r12 : List COp := [
  ⟨some 55, .binOp .eql 5 (.tmp 47) (.const (.int .u8 58)) 5, none, true⟩,
  ⟨some 48, .assign (.tmp 55), none, true⟩]
theorem k22_r12_e : type_of% (@Eo_of P pr N e σ Q _ _ k22_r12.eq_1) := Eo_of k22_r12.eq_1
def k22_r13 : List COp := [
  ⟨some 56, .binOp .eql 5 (.tmp 47) (.const (.int .u8 59)) 5, none, true⟩,
  ⟨some 48, .assign (.tmp 56), none, true⟩]
theorem k22_r13_e : type_of% (@Eo_of P pr N e σ Q _ _ k22_r13.eq_1) := Eo_of k22_r13.eq_1
def k22_r14 : List COp := [
  ⟨some 57, .binOp .eql 5 (.tmp 47) (.const (.int .u8 44)) 5, none, true⟩,
  ⟨some 48, .assign (.tmp 57), none, true⟩]
theorem k22_r14_e : type_of% (@Eo_of P pr N e σ Q _ _ k22_r14.eq_1) := Eo_of k22_r14.eq_1
def k22_r15 : List COp := [
  ⟨some 58, .binOp .eql 5 (.tmp 47) (.const (.int .u8 61)) 5, none, true⟩,
  ⟨some 48, .assign (.tmp 58), none, true⟩]
theorem k22_r15_e : type_of% (@Eo_of P pr N e σ Q _ _ k22_r15.eq_1) := Eo_of k22_r15.eq_1
def k22_r16 : List COp := [
  ⟨some 59, .binOp .eql 5 (.tmp 47) (.const (.int .u8 60)) 5, none, true⟩,
  ⟨some 48, .assign (.tmp 59), none, true⟩]
theorem k22_r16_e : type_of% (@Eo_of P pr N e σ Q _ _ k22_r16.eq_1) := Eo_of k22_r16.eq_1
def k22_r17 : List COp := [
  ⟨some 60, .binOp .eql 5 (.tmp 47) (.const (.int .u8 62)) 5, none, true⟩,
  ⟨some 48, .assign (.tmp 60), none, true⟩]
theorem k22_r17_e : type_of% (@Eo_of P pr N e σ Q _ _ k22_r17.eq_1) := Eo_of k22_r17.eq_1
def k22_r18 : List COp := [
  ⟨some 61, .binOp .eql 5 (.tmp 47) (.const (.int .u8 43)) 5, none, true⟩,
  ⟨some 48, .assign (.tmp 61), none, true⟩]
theorem k22_r18_e : type_of% (@Eo_of P pr N e σ Q _ _ k22_r18.eq_1) := Eo_of k22_r18.eq_1
def k22_r19 : List COp := [
  ⟨some 62, .binOp .eql 5 (.tmp 47) (.const (.int .u8 45)) 5, none, true⟩,
  ⟨some 48, .assign (.tmp 62), none, true⟩]
theorem k22_r19_e : type_of% (@Eo_of P pr N e σ Q _ _ k22_r19.eq_1) := Eo_of k22_r19.eq_1
def k22_r20 : List COp := [
  ⟨some 63, .binOp .eql 5 (.tmp 47) (.const (.int .u8 42)) 5, none, true⟩,
  ⟨some 48, .assign (.tmp 63), none, true⟩]
theorem k22_r20_e : type_of% (@Eo_of P pr N e σ Q _ _ k22_r20.eq_1) := Eo_of k22_r20.eq_1
def k22_r21 : List COp := [
  ⟨some 64, .binOp .eql 5 (.tmp 47) (.const (.int .u8 47)) 5, none, true⟩,
  ⟨some 48, .assign (.tmp 64), none, true⟩]
theorem k22_r21_e : type_of% (@Eo_of P pr N e σ Q _ _ k22_r21.eq_1) := Eo_of k22_r21.eq_1
def k22_r22 : List COp := [
  ⟨some 65, .binOp .eql 5 (.tmp 47) (.const (.int .u8 37)) 5, none, true⟩,
  ⟨some 48, .assign (.tmp 65), none, true⟩]
theorem k22_r22_e : type_of% (@Eo_of P pr N e σ Q _ _ k22_r22.eq_1) := Eo_of k22_r22.eq_1
def k22_r23 : List COp := [
  ⟨some 66, .binOp .eql 5 (.tmp 47) (.const (.int .u8 33)) 5, none, true⟩,
  ⟨some 48, .assign (.tmp 66), none, true⟩]
theorem k22_r23_e : type_of% (@Eo_of P pr N e σ Q _ _ k22_r23.eq_1) := Eo_of k22_r23.eq_1
def k22_r24 : List COp := [
  ⟨some 67, .binOp .eql 5 (.tmp 47) (.const (.int .u8 46)) 5, none, true⟩,
  ⟨some 48, .assign (.tmp 67), none, true⟩]
theorem k22_r24_e : type_of% (@Eo_of P pr N e σ Q _ _ k22_r24.eq_1) := Eo_of k22_r24.eq_1
def k22_r25 : List COp := [
  ⟨some 68, .move (.tmp 0), none, true⟩,
  ⟨some 69, .move (.tmp 1), none, true⟩,
  ⟨some 70, .move (.tmp 1), none, true⟩,
  ⟨some 71, .binOp .add 3 (.tmp 70) (.const (.int .i64 1)) 3, none, true⟩,
  ⟨some 72, .slice 9 (.tmp 68) (some (.tmp 69)) (some (.tmp 71)) .none, none, true⟩,
  ⟨some 73, .move (.tmp 1), none, true⟩,
  ⟨some 74, .build 32 #[(0, .const (.int .i64 4)), (1, .tmp 72), (3, .tmp 73)], none, true⟩,
  ⟨some 75, .move (.tmp 1), none, true⟩,
  ⟨some 76, .binOp .add 3 (.tmp 75) (.const (.int .i64 1)) 3, none, true⟩,
  ⟨none, .store 32 (.tmp 4) (.tmp 74), none, true⟩,
  ⟨some 5, .assign (.tmp 76), none, true⟩,
  ⟨some 6, .assign (.const (.int .i64 0)), none, true⟩]
theorem k22_r25_e : type_of% (@Eo_of P pr N e σ Q _ _ k22_r25.eq_1) := Eo_of k22_r25.eq_1
def k22_r26 : List COp := [
  ⟨some 77, .build 32 #[], none, true⟩,
  ⟨some 78, .move (.tmp 1), none, true⟩,
  ⟨none, .store 32 (.tmp 4) (.tmp 77), none, true⟩,
  ⟨some 5, .assign (.tmp 78), none, true⟩,
  ⟨some 6, .assign (.const (.int .i64 30)), none, true⟩]
theorem k22_r26_e : type_of% (@Eo_of P pr N e σ Q _ _ k22_r26.eq_1) := Eo_of k22_r26.eq_1
def k22 : CC := (.seq (.region k22_r0) (.seq (.seq (.region k22_r1) (.cond (.tmp 12) (.seq (.region k22_r2) (.seq (.region k22_r3) (.cond (.tmp 39) (.seq (.region k22_r4) .ret) .skip))) .skip)) (.seq (.seq (.region k22_r5) (.block 0 (.seq (.seq (.region k22_r6) (.cond (.tmp 48) .skip (.seq (.region k22_r7) (.cond (.tmp 48) .skip (.seq (.region k22_r8) (.cond (.tmp 48) .skip (.seq (.region k22_r9) (.cond (.tmp 48) .skip (.seq (.region k22_r10) (.cond (.tmp 48) .skip (.seq (.region k22_r11) (.cond (.tmp 48) .skip (.seq (.region k22_r12) (.cond (.tmp 48) .skip (.seq (.region k22_r13) (.cond (.tmp 48) .skip (.seq (.region k22_r14) (.cond (.tmp 48) .skip (.seq (.region k22_r15) (.cond (.tmp 48) .skip (.seq (.region k22_r16) (.cond (.tmp 48) .skip (.seq (.region k22_r17) (.cond (.tmp 48) .skip (.seq (.region k22_r18) (.cond (.tmp 48) .skip (.seq (.region k22_r19) (.cond (.tmp 48) .skip (.seq (.region k22_r20) (.cond (.tmp 48) .skip (.seq (.region k22_r21) (.cond (.tmp 48) .skip (.seq (.region k22_r22) (.cond (.tmp 48) .skip (.seq (.region k22_r23) (.cond (.tmp 48) .skip (.region k22_r24))))))))))))))))))))))))))))))))))))) (.cond (.tmp 48) (.seq (.region k22_r25) .ret) .skip)))) (.seq (.region k22_r26) .ret))))
theorem k22_e : type_of% (@Ev_of P pr N e σ Q _ _ k22.eq_1) := Ev_of k22.eq_1
theorem k22_a : type_of% @k22_e ∧ type_of% @k22_r0_e ∧ type_of% @k22_r1_e ∧ type_of% @k22_r2_e ∧ type_of% @k22_r3_e ∧ type_of% @k22_r4_e ∧ type_of% @k22_r5_e ∧ type_of% @k22_r6_e ∧ type_of% @k22_r7_e ∧ type_of% @k22_r8_e ∧ type_of% @k22_r9_e ∧ type_of% @k22_r10_e ∧ type_of% @k22_r11_e ∧ type_of% @k22_r12_e ∧ type_of% @k22_r13_e ∧ type_of% @k22_r14_e ∧ type_of% @k22_r15_e ∧ type_of% @k22_r16_e ∧ type_of% @k22_r17_e ∧ type_of% @k22_r18_e ∧ type_of% @k22_r19_e ∧ type_of% @k22_r20_e ∧ type_of% @k22_r21_e ∧ type_of% @k22_r22_e ∧ type_of% @k22_r23_e ∧ type_of% @k22_r24_e ∧ type_of% @k22_r25_e ∧ type_of% @k22_r26_e := ⟨@k22_e, @k22_r0_e, @k22_r1_e, @k22_r2_e, @k22_r3_e, @k22_r4_e, @k22_r5_e, @k22_r6_e, @k22_r7_e, @k22_r8_e, @k22_r9_e, @k22_r10_e, @k22_r11_e, @k22_r12_e, @k22_r13_e, @k22_r14_e, @k22_r15_e, @k22_r16_e, @k22_r17_e, @k22_r18_e, @k22_r19_e, @k22_r20_e, @k22_r21_e, @k22_r22_e, @k22_r23_e, @k22_r24_e, @k22_r25_e, @k22_r26_e⟩
/-- quern/quernref06.mark -/
theorem k22_is : FnIs Try.prog prims 22 79 [ResultVar.cell 4 32, ResultVar.tmp 5, ResultVar.tmp 6] k22 := FnIs.of_fn Try.func22 (by kernel_rfl) rfl
def k23_r0 : List COp := [
  ⟨some 4, .assign (.const (.int .i64 0)), none, true⟩]
theorem k23_r0_e : type_of% (@Eo_of P pr N e σ Q _ _ k23_r0.eq_1) := Eo_of k23_r0.eq_1
def k23_r1 : List COp := [
  ⟨some 6, .move (.tmp 0), none, true⟩,
  ⟨some 7, .nilCheck (.tmp 6), none, true⟩,
  ⟨some 8, .fieldAddr 42 (.tmp 7) 1, none, true⟩,
  ⟨some 9, .load 3 (.tmp 8), none, true⟩,
  ⟨some 5, .assign (.tmp 9), none, true⟩]
theorem k23_r1_e : type_of% (@Eo_of P pr N e σ Q _ _ k23_r1.eq_1) := Eo_of k23_r1.eq_1
def k23_r2 : List COp := [
  ⟨some 10, .move (.tmp 5), none, true⟩,
  ⟨some 11, .move (.tmp 0), none, true⟩,
  ⟨some 12, .nilCheck (.tmp 11), none, true⟩,
  ⟨some 13, .fieldAddr 42 (.tmp 12) 0, none, true⟩,
  ⟨some 14, .load 9 (.tmp 13), none, true⟩,
  ⟨some 15, .call { callee := .builtin .len, args := #[.tmp 14], argTypes := #[9] }, none, true⟩,
  ⟨some 16, .binOp .lss 3 (.tmp 10) (.tmp 15) 3, none, true⟩,
  ⟨some 17, .move (.tmp 16), none, true⟩,
  ⟨some 18, .move (.tmp 1), some (17, true), true⟩,
  ⟨some 19, .move (.tmp 0), some (17, true), true⟩,
  ⟨some 20, .nilCheck (.tmp 19), some (17, true), true⟩,
  ⟨some 21, .fieldAddr 42 (.tmp 20) 0, some (17, true), true⟩,
  ⟨some 22, .load 9 (.tmp 21), some (17, true), true⟩,
  ⟨some 23, .move (.tmp 5), some (17, true), true⟩,
  ⟨some 24, .index 9 (.tmp 22) (.tmp 23), some (17, true), true⟩,
  ⟨some 25, .call { callee := .value (.func 24), args := #[.tmp 18, .tmp 24], argTypes := #[9, 5] }, some (17, true), true⟩,
  ⟨some 26, .binOp .geq 3 (.tmp 25) (.const (.int .i64 0)) 3, some (17, true), true⟩,
  ⟨some 27, .pick (.tmp 17) (.tmp 26) (.const (.bool false)), none, true⟩]
theorem k23_r2_e : type_of% (@Eo_of P pr N e σ Q _ _ k23_r2.eq_1) := Eo_of k23_r2.eq_1
def k23_r3 : List COp := [
  ⟨some 28, .move (.tmp 5), none, true⟩,
  ⟨some 29, .binOp .add 3 (.tmp 28) (.const (.int .i64 1)) 3, none, true⟩,
  ⟨some 5, .assign (.tmp 29), none, true⟩]
theorem k23_r3_e : type_of% (@Eo_of P pr N e σ Q _ _ k23_r3.eq_1) := Eo_of k23_r3.eq_1
def k23_l0 : CC := (.seq (.seq (.region k23_r2) (.cond (.tmp 27) .skip (.exit 0))) (.block 1 (.region k23_r3)))
theorem k23_l0_e : type_of% (@Ev_of P pr N e σ Q _ _ k23_l0.eq_1) := Ev_of k23_l0.eq_1
def k23_r4 : List COp := [
  ⟨some 30, .move (.tmp 5), none, true⟩,
  ⟨some 4, .assign (.tmp 30), none, true⟩]
theorem k23_r4_e : type_of% (@Eo_of P pr N e σ Q _ _ k23_r4.eq_1) := Eo_of k23_r4.eq_1
def k23 : CC := (.seq (.region k23_r0) (.seq (.region k23_r1) (.seq (.block 0 (.loop k23_l0)) (.seq (.region k23_r4) .ret))))
theorem k23_e : type_of% (@Ev_of P pr N e σ Q _ _ k23.eq_1) := Ev_of k23.eq_1
theorem k23_a : type_of% @k23_e ∧ type_of% @k23_r0_e ∧ type_of% @k23_r1_e ∧ type_of% @k23_r2_e ∧ type_of% @k23_r3_e ∧ type_of% @k23_l0_e ∧ type_of% @k23_r4_e := ⟨@k23_e, @k23_r0_e, @k23_r1_e, @k23_r2_e, @k23_r3_e, @k23_l0_e, @k23_r4_e⟩
/-- (*quern/lex.lexer).run -/
theorem k23_is : FnIs Try.prog prims 23 31 [ResultVar.tmp 4] k23 := FnIs.of_fn Try.func23 (by kernel_rfl) rfl
def k24_r0 : List COp := [
  ⟨some 4, .assign (.const (.int .i64 0)), none, true⟩]
theorem k24_r0_e : type_of% (@Eo_of P pr N e σ Q _ _ k24_r0.eq_1) := Eo_of k24_r0.eq_1
def k24_r1 : List COp := [
  ⟨some 5, .move (.tmp 0), none, true⟩,
  ⟨some 6, .move (.tmp 1), none, true⟩,
  ⟨some 7, .call { callee := .value (.func 30), args := #[.tmp 5, .tmp 6], argTypes := #[9, 5] }, none, true⟩,
  ⟨some 4, .assign (.tmp 7), none, true⟩]
theorem k24_r1_e : type_of% (@Eo_of P pr N e σ Q _ _ k24_r1.eq_1) := Eo_of k24_r1.eq_1
def k24 : CC := (.seq (.region k24_r0) (.seq (.region k24_r1) .ret))
theorem k24_e : type_of% (@Ev_of P pr N e σ Q _ _ k24.eq_1) := Ev_of k24.eq_1
theorem k24_a : type_of% @k24_e ∧ type_of% @k24_r0_e ∧ type_of% @k24_r1_e := ⟨@k24_e, @k24_r0_e, @k24_r1_e⟩
/-- strings.IndexByte -/
theorem k24_is : FnIs Try.prog prims 24 8 [ResultVar.tmp 4] k24 := FnIs.of_fn Try.func24 (by kernel_rfl) rfl
def k25_r0 : List COp := [
  ⟨some 6, .move (.tmp 1), none, true⟩,
  ⟨some 7, .move (.tmp 2), none, true⟩,
  ⟨some 8, .build 39 #[(0, .tmp 6), (1, .tmp 7)], none, true⟩,
  ⟨some 9, .makeInterface 39 (.tmp 8), none, true⟩,
  ⟨none, .panic (.tmp 9), none, true⟩]
theorem k25_r0_e : type_of% (@Eo_of P pr N e σ Q _ _ k25_r0.eq_1) := Eo_of k25_r0.eq_1
def k25 : CC := (.region k25_r0)
theorem k25_e : type_of% (@Ev_of P pr N e σ Q _ _ k25.eq_1) := Ev_of k25.eq_1
theorem k25_a : type_of% @k25_e ∧ type_of% @k25_r0_e := ⟨@k25_e, @k25_r0_e⟩
/-- (*quern/lex.lexer).fail -/
theorem k25_is : FnIs Try.prog prims 25 10 [] k25 := FnIs.of_fn Try.func25 (by kernel_rfl) rfl
def k26_r0 : List COp := [
  ⟨some 8, .move (.tmp 0), none, true⟩,
  ⟨some 9, .call { callee := .value (.func 23), args := #[.tmp 8, .const (.string { data := #[48, 49, 50, 51, 52, 53, 54, 55, 56, 57] })], argTypes := #[40, 9] }, none, true⟩,
  ⟨some 2, .assign (.tmp 9), none, true⟩]
theorem k26_r0_e : type_of% (@Eo_of P pr N e σ Q _ _ k26_r0.eq_1) := Eo_of k26_r0.eq_1
def k26_r1 : List COp := [
  ⟨some 10, .move (.tmp 0), none, false⟩,
  ⟨some 11, .nilCheck (.tmp 10), none, false⟩,
  ⟨some 12, .fieldAddr 42 (.tmp 11) 0, none, false⟩,
  ⟨some 13, .load 9 (.tmp 12), none, false⟩,
  ⟨some 14, .move (.tmp 0), none, false⟩,
  ⟨some 15, .nilCheck (.tmp 14), none, false⟩,
  ⟨some 16, .fieldAddr 42 (.tmp 15) 1, none, false⟩,
  ⟨some 17, .load 3 (.tmp 16), none, false⟩,
  ⟨some 18, .move (.tmp 2), none, true⟩,
  ⟨some 19, .slice 9 (.tmp 13) (some (.tmp 17)) (some (.tmp 18)) .none, none, true⟩,
  ⟨some 3, .assign (.tmp 19), none, true⟩]
theorem k26_r1_e : type_of% (@Eo_of P pr N e σ Q _ _ k26_r1.eq_1) := Eo_of k26_r1.eq_1
def k26_r2 : List COp := [
  ⟨some 20, .move (.tmp 3), none, true⟩,
  ⟨some 21, .call { callee := .builtin .len, args := #[.tmp 20], argTypes := #[9] }, none, true⟩,
  ⟨some 22, .binOp .gtr 3 (.tmp 21) (.const (.int .i64 1)) 3, none, true⟩,
  ⟨some 23, .move (.tmp 22), none, true⟩,
  ⟨some 24, .move (.tmp 3), some (23, true), true⟩,
  ⟨some 25, .index 9 (.tmp 24) (.const (.int .i64 0)), some (23, true), true⟩,
  ⟨some 26, .binOp .eql 5 (.tmp 25) (.const (.int .u8 48)) 5, some (23, true), true⟩,
  ⟨some 27, .pick (.tmp 23) (.tmp 26) (.const (.bool false)), none, true⟩]
theorem k26_r2_e : type_of% (@Eo_of P pr N e σ Q _ _ k26_r2.eq_1) := Eo_of k26_r2.eq_1
def k26_r3 : List COp := [
  ⟨some 28, .move (.tmp 0), none, true⟩,
  ⟨some 29, .move (.tmp 0), none, true⟩,
  ⟨some 30, .nilCheck (.tmp 29), none, true⟩,
  ⟨some 31, .fieldAddr 42 (.tmp 30) 1, none, true⟩,
  ⟨some 32, .load 3 (.tmp 31), none, true⟩,
  ⟨some 33, .call { callee := .value (.func 25), args := #[.tmp 28, .tmp 32, .const (.int .i64 30)], argTypes := #[40, 3, 24] }, none, true⟩]
theorem k26_r3_e : type_of% (@Eo_of P pr N e σ Q _ _ k26_r3.eq_1) := Eo_of k26_r3.eq_1
def k26_r4 : List COp := [
  ⟨some 4, .assign (.const (.int .i64 0)), none, true⟩]
theorem k26_r4_e : type_of% (@Eo_of P pr N e σ Q _ _ k26_r4.eq_1) := Eo_of k26_r4.eq_1
def k26_r5 : List COp := [
  ⟨some 34, .move (.tmp 3), none, true⟩,
  ⟨some 35, .convert 9 29 (.tmp 34), none, true⟩,
  ⟨some 36, .call { callee := .builtin .len, args := #[.tmp 35], argTypes := #[29] }, none, true⟩,
  ⟨some 37, .move (.const (.int .i64 0)), none, true⟩]
theorem k26_r5_e : type_of% (@Eo_of P pr N e σ Q _ _ k26_r5.eq_1) := Eo_of k26_r5.eq_1
def k26_r6 : List COp := [
  ⟨some 38, .binOp .lss 3 (.tmp 37) (.tmp 36) 3, none, true⟩]
theorem k26_r6_e : type_of% (@Eo_of P pr N e σ Q _ _ k26_r6.eq_1) := Eo_of k26_r6.eq_1
def k26_r7 : List COp := [
  ⟨some 39, .indexAddr 29 (.tmp 35) (.tmp 37), none, true⟩,
  ⟨some 40, .load 5 (.tmp 39), none, true⟩,
  ⟨some 6, .assign (.tmp 40), none, true⟩]
theorem k26_r7_e : type_of% (@Eo_of P pr N e σ Q _ _ k26_r7.eq_1) := Eo_of k26_r7.eq_1
def k26_r8 : List COp := [
  ⟨some 41, .move (.tmp 6), none, true⟩,
  ⟨some 42, .binOp .sub 5 (.tmp 41) (.const (.int .u8 48)) 5, none, true⟩,
  ⟨some 43, .convert 5 3 (.tmp 42), none, true⟩,
  ⟨some 7, .assign (.tmp 43), none, true⟩]
theorem k26_r8_e : type_of% (@Eo_of P pr N e σ Q _ _ k26_r8.eq_1) := Eo_of k26_r8.eq_1
def k26_r9 : List COp := [
  ⟨some 44, .move (.tmp 4), none, true⟩,
  ⟨some 45, .move (.tmp 7), none, true⟩,
  ⟨some 46, .binOp .sub 3 (.const (.int .i64 9223372036854775807)) (.tmp 45) 3, none, true⟩,
  ⟨some 47, .binOp .quo 3 (.tmp 46) (.const (.int .i64 10)) 3, none, true⟩,
  ⟨some 48, .binOp .gtr 3 (.tmp 44) (.tmp 47) 3, none, true⟩]
theorem k26_r9_e : type_of% (@Eo_of P pr N e σ Q _ _ k26_r9.eq_1) := Eo_of k26_r9.eq_1
def k26_r10 : List COp := [
  ⟨some 49, .move (.tmp 0), none, true⟩,
  ⟨some 50, .move (.tmp 0), none, true⟩,
  ⟨some 51, .nilCheck (.tmp 50), none, true⟩,
  ⟨some 52, .fieldAddr 42 (.tmp 51) 1, none, true⟩,
  ⟨some 53, .load 3 (.tmp 52), none, true⟩,
  ⟨some 54, .call { callee := .value (.func 25), args := #[.tmp 49, .tmp 53, .const (.int .i64 3)], argTypes := #[40, 3, 24] }, none, true⟩]
theorem k26_r10_e : type_of% (@Eo_of P pr N e σ Q _ _ k26_r10.eq_1) := Eo_of k26_r10.eq_1
def k26_r11 : List COp := [
  ⟨some 55, .move (.tmp 4), none, true⟩,
  ⟨some 56, .binOp .mul 3 (.tmp 55) (.const (.int .i64 10)) 3, none, true⟩,
  ⟨some 57, .move (.tmp 7), none, true⟩,
  ⟨some 58, .binOp .add 3 (.tmp 56) (.tmp 57) 3, none, true⟩,
  ⟨some 4, .assign (.tmp 58), none, true⟩]
theorem k26_r11_e : type_of% (@Eo_of P pr N e σ Q _ _ k26_r11.eq_1) := Eo_of k26_r11.eq_1
def k26_r12 : List COp := [
  ⟨some 59, .binOp .add 3 (.tmp 37) (.const (.int .i64 1)) 3, none, true⟩,
  ⟨some 37, .move (.tmp 59), none, true⟩]
theorem k26_r12_e : type_of% (@Eo_of P pr N e σ Q _ _ k26_r12.eq_1) := Eo_of k26_r12.eq_1
def k26_l0 : CC := (.seq (.region k26_r6) (.seq (.cond (.tmp 38) .skip (.exit 0)) (.seq (.block 1 (.seq (.region k26_r7) (.seq (.region k26_r8) (.seq (.seq (.region k26_r9) (.cond (.tmp 48) (.region k26_r10) .skip)) (.region k26_r11))))) (.region k26_r12))))
theorem k26_l0_e : type_of% (@Ev_of P pr N e σ Q _ _ k26_l0.eq_1) := Ev_of k26_l0.eq_1
def k26_r13 : List COp := [
  ⟨some 60, .move (.tmp 0), none, true⟩,
  ⟨some 61, .move (.tmp 3), none, true⟩,
  ⟨some 62, .move (.tmp 4), none, true⟩,
  ⟨some 63, .build 32 #[(0, .const (.int .i64 2)), (1, .tmp 61), (2, .tmp 62)], none, true⟩,
  ⟨some 64, .move (.tmp 2), none, true⟩,
  ⟨some 65, .call { callee := .value (.func 16), args := #[.tmp 60, .tmp 63, .tmp 64], argTypes := #[40, 32, 3] }, none, true⟩]
theorem k26_r13_e : type_of% (@Eo_of P pr N e σ Q _ _ k26_r13.eq_1) := Eo_of k26_r13.eq_1
def k26 : CC := (.seq (.region k26_r0) (.seq (.region k26_r1) (.seq (.seq (.region k26_r2) (.cond (.tmp 27) (.region k26_r3) .skip)) (.seq (.region k26_r4) (.seq (.seq (.region k26_r5) (.block 0 (.loop k26_l0))) (.region k26_r13))))))
theorem k26_e : type_of% (@Ev_of P pr N e σ Q _ _ k26.eq_1) := Ev_of k26.eq_1
theorem k26_a : type_of% @k26_e ∧ type_of% @k26_r0_e ∧ type_of% @k26_r1_e ∧ type_of% @k26_r2_e ∧ type_of% @k26_r3_e ∧ type_of% @k26_r4_e ∧ type_of% @k26_r5_e ∧ type_of% @k26_r6_e ∧ type_of% @k26_r7_e ∧ type_of% @k26_r8_e ∧ type_of% @k26_r9_e ∧ type_of% @k26_r10_e ∧ type_of% @k26_r11_e ∧ type_of% @k26_r12_e ∧ type_of% @k26_l0_e ∧ type_of% @k26_r13_e := ⟨@k26_e, @k26_r0_e, @k26_r1_e, @k26_r2_e, @k26_r3_e, @k26_r4_e, @k26_r5_e, @k26_r6_e, @k26_r7_e, @k26_r8_e, @k26_r9_e, @k26_r10_e, @k26_r11_e, @k26_r12_e, @k26_l0_e, @k26_r13_e⟩
/-- (*quern/lex.lexer).number -/
theorem k26_is : FnIs Try.prog prims 26 66 [] k26 := FnIs.of_fn Try.func26 (by kernel_rfl) rfl
def k27_r0 : List COp := [
  ⟨some 2, .alloc 54, none, true⟩]
theorem k27_r0_e : type_of% (@Eo_of P pr N e σ Q _ _ k27_r0.eq_1) := Eo_of k27_r0.eq_1
def k27_r1 : List COp := [
  ⟨some 5, .move (.tmp 0), none, true⟩,
  ⟨some 6, .nilCheck (.tmp 5), none, true⟩,
  ⟨some 7, .fieldAddr 42 (.tmp 6) 1, none, true⟩,
  ⟨some 8, .load 3 (.tmp 7), none, true⟩,
  ⟨some 9, .binOp .add 3 (.tmp 8) (.const (.int .i64 1)) 3, none, true⟩,
  ⟨some 3, .assign (.tmp 9), none, true⟩]
theorem k27_r1_e : type_of% (@Eo_of P pr N e σ Q _ _ k27_r1.eq_1) := Eo_of k27_r1.eq_1
def k27_r2 : List COp := [
  ⟨some 10, .move (.tmp 3), none, true⟩,
  ⟨some 11, .move (.tmp 0), none, true⟩,
  ⟨some 12, .nilCheck (.tmp 11), none, true⟩,
  ⟨some 13, .fieldAddr 42 (.tmp 12) 0, none, true⟩,
  ⟨some 14, .load 9 (.tmp 13), none, true⟩,
  ⟨some 15, .call { callee := .builtin .len, args := #[.tmp 14], argTypes := #[9] }, none, true⟩,
  ⟨some 16, .binOp .lss 3 (.tmp 10) (.tmp 15) 3, none, true⟩]
theorem k27_r2_e : type_of% (@Eo_of P pr N e σ Q _ _ k27_r2.eq_1) := Eo_of k27_r2.eq_1
def k27_r4 : List COp := [
  ⟨some 19, .move (.tmp 0), none, true⟩,
  ⟨some 20, .nilCheck (.tmp 19), none, true⟩,
  ⟨some 21, .fieldAddr 42 (.tmp 20) 0, none, true⟩,
  ⟨some 22, .load 9 (.tmp 21), none, true⟩,
  ⟨some 23, .move (.tmp 3), none, true⟩,
  ⟨some 24, .index 9 (.tmp 22) (.tmp 23), none, true⟩,
  ⟨some 4, .assign (.tmp 24), none, true⟩]
theorem k27_r4_e : type_of% (@Eo_of P pr N e σ Q _ _ k27_r4.eq_1) := Eo_of k27_r4.eq_1
def k27_r5 : List COp := [
  ⟨some 26, .move (.tmp 4), none, true⟩,
  ⟨some 27, .binOp .eql 5 (.tmp 26) (.const (.int .u8 34)) 5, none, true⟩,
  ⟨some 25, .assign (.tmp 27), none, true⟩]
theorem k27_r5_e : type_of% (@Eo_of P pr N e σ Q _ _ k27_r5.eq_1) := Eo_of k27_r5.eq_1
def k27_r6 : List COp := [
  ⟨some 28, .call { callee := .value (.func 31), args := #[.tmp 2], argTypes := #[54] }, none, true⟩,
  ⟨some 29, .binOp .gtr 3 (.tmp 28) (.const (.int .i64 256)) 3, none, true⟩]
theorem k27_r6_e : type_of% (@Eo_of P pr N e σ Q _ _ k27_r6.eq_1) := Eo_of k27_r6.eq_1
def k27_r7 : List COp := [
  ⟨some 30, .move (.tmp 0), none, true⟩,
  ⟨some 31, .move (.tmp 0), none, true⟩,
  ⟨some 32, .nilCheck (.tmp 31), none, true⟩,
  ⟨some 33, .fieldAddr 42 (.tmp 32) 1, none, true⟩,
  ⟨some 34, .load 3 (.tmp 33), none, true⟩,
  ⟨some 35, .call { callee := .value (.func 25), args := #[.tmp 30, .tmp 34, .const (.int .i64 3)], argTypes := #[40, 3, 24] }, none, true⟩]
theorem k27_r7_e : type_of% (@Eo_of P pr N e σ Q _ _ k27_r7.eq_1) := Eo_of k27_r7.eq_1
def k27_r8 : List COp := [
  ⟨some 36, .move (.tmp 0), none, true⟩,
  ⟨some 37, .call { callee := .value (.func 32), args := #[.tmp 2], argTypes := #[54] }, none, true⟩,
  ⟨some 38, .build 32 #[(0, .const (.int .i64 3)), (1, .tmp 37)], none, true⟩,
  ⟨some 39, .move (.tmp 3), none, true⟩,
  ⟨some 40, .binOp .add 3 (.tmp 39) (.const (.int .i64 1)) 3, none, true⟩,
  ⟨some 41, .call { callee := .value (.func 16), args := #[.tmp 36, .tmp 38, .tmp 40], argTypes := #[40, 32, 3] }, none, true⟩]
theorem k27_r8_e : type_of% (@Eo_of P pr N e σ Q _ _ k27_r8.eq_1) := Eo_of k27_r8.eq_1
def k27_r9 : List COp := [
  ⟨some 43, .move (.tmp 4), none, true⟩,
  ⟨some 44, .binOp .lss 5 (.tmp 43) (.const (.int .u8 32)) 5, none, true⟩,
  ⟨some 45, .move (.tmp 44), none, true⟩,
  ⟨some 46, .move (.tmp 4), some (45, false), true⟩,
  ⟨some 47, .binOp .gtr 5 (.tmp 46) (.const (.int .u8 126)) 5, some (45, false), true⟩,
  ⟨some 48, .pick (.tmp 45) (.const (.bool true)) (.tmp 47), none, true⟩,
  ⟨some 42, .assign (.tmp 48), none, true⟩]
theorem k27_r9_e : type_of% (@Eo_of P pr N e σ Q _ _ k27_r9.eq_1) := Eo_of k27_r9.eq_1
def k27_r10 : List COp := [
  ⟨some 49, .move (.tmp 0), none, true⟩,
  ⟨some 50, .move (.tmp 3), none, true⟩,
  ⟨some 51, .call { callee := .value (.func 25), args := #[.tmp 49, .tmp 50, .const (.int .i64 30)], argTypes := #[40, 3, 24] }, none, true⟩]
theorem k27_r10_e : type_of% (@Eo_of P pr N e σ Q _ _ k27_r10.eq_1) := Eo_of k27_r10.eq_1
def k27_r11 : List COp := [
  ⟨some 53, .move (.tmp 4), none, true⟩,
  ⟨some 54, .binOp .eql 5 (.tmp 53) (.const (.int .u8 92)) 5, none, true⟩,
  ⟨some 52, .assign (.tmp 54), none, true⟩]
theorem k27_r11_e : type_of% (@Eo_of P pr N e σ Q _ _ k27_r11.eq_1) := Eo_of k27_r11.eq_1
def k27_r12 : List COp := [
  ⟨some 55, .move (.tmp 3), none, true⟩,
  ⟨some 56, .binOp .add 3 (.tmp 55) (.const (.int .i64 1)) 3, none, true⟩,
  ⟨some 3, .assign (.tmp 56), none, true⟩]
theorem k27_r12_e : type_of% (@Eo_of P pr N e σ Q _ _ k27_r12.eq_1) := Eo_of k27_r12.eq_1
def k27_r13 : List COp := [
  ⟨some 57, .move (.tmp 3), none, true⟩,
  ⟨some 58, .move (.tmp 0), none, true⟩,
  ⟨some 59, .nilCheck (.tmp 58), none, true⟩,
  ⟨some 60, .fieldAddr 42 (.tmp 59) 0, none, true⟩,
  ⟨some 61, .load 9 (.tmp 60), none, true⟩,
  ⟨some 62, .call { callee := .builtin .len, args := #[.tmp 61], argTypes := #[9] }, none, true⟩,
  ⟨some 63, .binOp .geq 3 (.tmp 57) (.tmp 62) 3, none, true⟩,
  ⟨some 64, .move (.tmp 63), none, true⟩,
  ⟨some 65, .move (.tmp 0), some (64, false), true⟩,
  ⟨some 66, .nilCheck (.tmp 65), some (64, false), true⟩,
  ⟨some 67, .fieldAddr 42 (.tmp 66) 0, some (64, false), true⟩,
  ⟨some 68, .load 9 (.tmp 67), some (64, false), true⟩,
  ⟨some 69, .move (.tmp 3), some (64, false), true⟩,
  ⟨some 70, .index 9 (.tmp 68) (.tmp 69), some (64, false), true⟩,
  ⟨some 71, .binOp .neq 5 (.tmp 70) (.const (.int .u8 34)) 5, some (64, false), true⟩,
  ⟨some 72, .move (.tmp 71), some (64, false), true⟩,
  ⟨some 73, .move (.tmp 0), some (72, true), true⟩,
  ⟨some 74, .nilCheck (.tmp 73), some (72, true), true⟩,
  ⟨some 75, .fieldAddr 42 (.tmp 74) 0, some (72, true), true⟩,
  ⟨some 76, .load 9 (.tmp 75), some (72, true), true⟩,
  ⟨some 77, .move (.tmp 3), some (72, true), true⟩,
  ⟨some 78, .index 9 (.tmp 76) (.tmp 77), some (72, true), true⟩,
  ⟨some 79, .binOp .neq 5 (.tmp 78) (.const (.int .u8 92)) 5, some (72, true), true⟩,
  ⟨some 80, .pick (.tmp 72) (.tmp 79) (.const (.bool false)), some (64, false), true⟩,
  ⟨some 81, .pick (.tmp 64) (.const (.bool true)) (.tmp 80), none, true⟩]
theorem k27_r13_e : type_of% (@Eo_of P pr N e σ Q _ _ k27_r13.eq_1) := Eo_of k27_r13.eq_1
def k27_r14 : List COp := [
  ⟨some 82, .move (.tmp 0), none, true⟩,
  ⟨some 83, .move (.tmp 3), none, true⟩,
  ⟨some 84, .binOp .sub 3 (.tmp 83) (.const (.int .i64 1)) 3, none, true⟩,
  ⟨some 85, .call { callee := .value (.func 25), args := #[.tmp 82, .tmp 84, .const (.int .i64 30)], argTypes := #[40, 3, 24] }, none, true⟩]
theorem k27_r14_e : type_of% (@Eo_of P pr N e σ Q _ _ k27_r14.eq_1) := Eo_of k27_r14.eq_1
def k27_r15 : List COp := [
  ⟨some 86, .move (.tmp 0), none, true⟩,
  ⟨some 87, .nilCheck (.tmp 86), none, true⟩,
  ⟨some 88, .fieldAddr 42 (.tmp 87) 0, none, true⟩,
  ⟨some 89, .load 9 (.tmp 88), none, true⟩,
  ⟨some 90, .move (.tmp 3), none, true⟩,
  ⟨some 91, .index 9 (.tmp 89) (.tmp 90), none, true⟩,
  ⟨some 4, .assign (.tmp 91), none, true⟩]
theorem k27_r15_e : type_of% (@Eo_of P pr N e σ Q _ _ k27_r15.eq_1) := Eo_of k27_r15.eq_1
def k27_r16 : List COp := [
  ⟨some 92, .move (.tmp 4), none, true⟩,
  ⟨some 93, .call { callee := .value (.func 33), args := #[.tmp 2, .tmp 92], argTypes := #[54, 5] }, none, true⟩]
theorem k27_r16_e : type_of% (@Eo_of P pr N e σ Q _ _ k27_r16.eq_1) := Eo_of k27_r16.eq_1
def k27_r3 : List COp := [
  ⟨some 17, .move (.tmp 3), none, true⟩,
  ⟨some 18, .binOp .add 3 (.tmp 17) (.const (.int .i64 1)) 3, none, true⟩,
  ⟨some 3, .assign (.tmp 18), none, true⟩]
theorem k27_r3_e : type_of% (@Eo_of P pr N e σ Q _ _ k27_r3.eq_1) := Eo_of k27_r3.eq_1
def k27_l0 : CC := (.seq (.seq (.region k27_r2) (.cond (.tmp 16) .skip (.exit 0))) (.seq (.block 1 (.seq (.region k27_r4) (.seq (.block 2 (.seq (.region k27_r5) (.cond (.tmp 25) (.seq (.seq (.region k27_r6) (.cond (.tmp 29) (.region k27_r7) .skip)) (.seq (.region k27_r8) .ret)) (.seq (.region k27_r9) (.cond (.tmp 42) (.region k27_r10) (.seq (.region k27_r11) (.cond (.tmp 52) (.seq (.region k27_r12) (.seq (.seq (.region k27_r13) (.cond (.tmp 81) (.region k27_r14) .skip)) (.region k27_r15))) .skip))))))) (.region k27_r16)))) (.region k27_r3)))
theorem k27_l0_e : type_of% (@Ev_of P pr N e σ Q _ _ k27_l0.eq_1) := Ev_of k27_l0.eq_1
def k27_r17 : List COp := [
  ⟨some 94, .move (.tmp 0), none, true⟩,
  ⟨some 95, .move (.tmp 0), none, true⟩,
  ⟨some 96, .nilCheck (.tmp 95), none, true⟩,
  ⟨some 97, .fieldAddr 42 (.tmp 96) 1, none, true⟩,
  ⟨some 98, .load 3 (.tmp 97), none, true⟩,
  ⟨some 99, .call { callee := .value (.func 25), args := #[.tmp 94, .tmp 98, .const (.int .i64 30)], argTypes := #[40, 3, 24] }, none, true⟩]
theorem k27_r17_e : type_of% (@Eo_of P pr N e σ Q _ _ k27_r17.eq_1) := Eo_of k27_r17.eq_1
def k27 : CC := (.seq (.region k27_r0) (.seq (.seq (.region k27_r1) (.block 0 (.loop k27_l0))) (.region k27_r17)))
theorem k27_e : type_of% (@Ev_of P pr N e σ Q _ _ k27.eq_1) := Ev_of k27.eq_1
theorem k27_a : type_of% @k27_e ∧ type_of% @k27_r0_e ∧ type_of% @k27_r1_e ∧ type_of% @k27_r2_e ∧ type_of% @k27_r4_e ∧ type_of% @k27_r5_e ∧ type_of% @k27_r6_e ∧ type_of% @k27_r7_e ∧ type_of% @k27_r8_e ∧ type_of% @k27_r9_e ∧ type_of% @k27_r10_e ∧ type_of% @k27_r11_e ∧ type_of% @k27_r12_e ∧ type_of% @k27_r13_e ∧ type_of% @k27_r14_e ∧ type_of% @k27_r15_e ∧ type_of% @k27_r16_e ∧ type_of% @k27_r3_e ∧ type_of% @k27_l0_e ∧ type_of% @k27_r17_e := ⟨@k27_e, @k27_r0_e, @k27_r1_e, @k27_r2_e, @k27_r4_e, @k27_r5_e, @k27_r6_e, @k27_r7_e, @k27_r8_e, @k27_r9_e, @k27_r10_e, @k27_r11_e, @k27_r12_e, @k27_r13_e, @k27_r14_e, @k27_r15_e, @k27_r16_e, @k27_r3_e, @k27_l0_e, @k27_r17_e⟩
/-- (*quern/lex.lexer).text -/
theorem k27_is : FnIs Try.prog prims 27 100 [] k27 := FnIs.of_fn Try.func27 (by kernel_rfl) rfl
def k28_r0 : List COp := [
  ⟨some 0, .assign (.const (.slice .none 0 0)), none, true⟩]
theorem k28_r0_e : type_of% (@Eo_of P pr N e σ Q _ _ k28_r0.eq_1) := Eo_of k28_r0.eq_1
def k28_r1 : List COp := [
  ⟨some 1, .buildSlice 48 6 #[(0, .const (.string { data := #[61, 61] })), (1, .const (.string { data := #[33, 61] })), (2, .const (.string { data := #[60, 61] })), (3, .const (.string { data := #[62, 61] })), (4, .const (.string { data := #[38, 38] })), (5, .const (.string { data := #[124, 124] }))], none, true⟩,
  ⟨some 0, .assign (.tmp 1), none, true⟩]
theorem k28_r1_e : type_of% (@Eo_of P pr N e σ Q _ _ k28_r1.eq_1) := Eo_of k28_r1.eq_1
def k28 : CC := (.seq (.region k28_r0) (.seq (.region k28_r1) .ret))
theorem k28_e : type_of% (@Ev_of P pr N e σ Q _ _ k28.eq_1) := Ev_of k28.eq_1
theorem k28_a : type_of% @k28_e ∧ type_of% @k28_r0_e ∧ type_of% @k28_r1_e := ⟨@k28_e, @k28_r0_e, @k28_r1_e⟩
/-- quern/lex.doubles -/
theorem k28_is : FnIs Try.prog prims 28 2 [ResultVar.tmp 0] k28 := FnIs.of_fn Try.func28 (by kernel_rfl) rfl
def k29_r0 : List COp := [
  ⟨some 4, .assign (.const (.bool false)), none, true⟩]
theorem k29_r0_e : type_of% (@Eo_of P pr N e σ Q _ _ k29_r0.eq_1) := Eo_of k29_r0.eq_1
def k29_r1 : List COp := [
  ⟨some 5, .move (.tmp 0), none, true⟩,
  ⟨some 6, .move (.tmp 1), none, true⟩,
  ⟨some 7, .call { callee := .value (.func 34), args := #[.tmp 5, .tmp 6], argTypes := #[9, 9] }, none, true⟩,
  ⟨some 4, .assign (.tmp 7), none, true⟩]
theorem k29_r1_e : type_of% (@Eo_of P pr N e σ Q _ _ k29_r1.eq_1) := Eo_of k29_r1.eq_1
def k29 : CC := (.seq (.region k29_r0) (.seq (.region k29_r1) .ret))
theorem k29_e : type_of% (@Ev_of P pr N e σ Q _ _ k29.eq_1) := Ev_of k29.eq_1
theorem k29_a : type_of% @k29_e ∧ type_of% @k29_r0_e ∧ type_of% @k29_r1_e := ⟨@k29_e, @k29_r0_e, @k29_r1_e⟩
/-- strings.HasPrefix -/
theorem k29_is : FnIs Try.prog prims 29 8 [ResultVar.tmp 4] k29 := FnIs.of_fn Try.func29 (by kernel_rfl) rfl
def k31_r0 : List COp := [
  ⟨some 2, .assign (.const (.int .i64 0)), none, true⟩]
theorem k31_r0_e : type_of% (@Eo_of P pr N e σ Q _ _ k31_r0.eq_1) := Eo_of k31_r0.eq_1
def k31_r1 : List COp := [
  ⟨some 3, .move (.tmp 0), none, true⟩,
  ⟨some 4, .nilCheck (.tmp 3), none, true⟩,
  ⟨some 5, .fieldAddr 54 (.tmp 4) 1, none, true⟩,
  ⟨some 6, .load 29 (.tmp 5), none, true⟩,
  ⟨some 7, .call { callee := .builtin .len, args := #[.tmp 6], argTypes := #[29] }, none, true⟩,
  ⟨some 2, .assign (.tmp 7), none, true⟩]
theorem k31_r1_e : type_of% (@Eo_of P pr N e σ Q _ _ k31_r1.eq_1) := Eo_of k31_r1.eq_1
def k31 : CC := (.seq (.region k31_r0) (.seq (.region k31_r1) .ret))
theorem k31_e : type_of% (@Ev_of P pr N e σ Q _ _ k31.eq_1) := Ev_of k31.eq_1
theorem k31_a : type_of% @k31_e ∧ type_of% @k31_r0_e ∧ type_of% @k31_r1_e := ⟨@k31_e, @k31_r0_e, @k31_r1_e⟩
/-- (*strings.Builder).Len -/
theorem k31_is : FnIs Try.prog prims 31 8 [ResultVar.tmp 2] k31 := FnIs.of_fn Try.func31 (by kernel_rfl) rfl
def k33_r0 : List COp := [
  ⟨some 4, .assign (.const .nilIface), none, true⟩]
theorem k33_r0_e : type_of% (@Eo_of P pr N e σ Q _ _ k33_r0.eq_1) := Eo_of k33_r0.eq_1
def k33_r1 : List COp := [
  ⟨some 5, .move (.tmp 0), none, true⟩,
  ⟨some 6, .call { callee := .value (.func 36), args := #[.tmp 5], argTypes := #[52] }, none, true⟩]
theorem k33_r1_e : type_of% (@Eo_of P pr N e σ Q _ _ k33_r1.eq_1) := Eo_of k33_r1.eq_1
def k33_r2 : List COp := [
  ⟨some 7, .move (.tmp 0), none, true⟩,
  ⟨some 8, .move (.tmp 0), none, true⟩,
  ⟨some 9, .nilCheck (.tmp 8), none, true⟩,
  ⟨some 10, .fieldAddr 54 (.tmp 9) 1, none, true⟩,
  ⟨some 11, .load 29 (.tmp 10), none, true⟩,
  ⟨some 12, .move (.tmp 1), none, true⟩,
  ⟨some 13, .buildSlice 29 1 #[(0, .tmp 12)], none, true⟩,
  ⟨some 14, .call { callee := .builtin .append, args := #[.tmp 11, .tmp 13], argTypes := #[29, 29] }, none, true⟩,
  ⟨some 15, .nilCheck (.tmp 7), none, true⟩,
  ⟨some 16, .fieldAddr 54 (.tmp 15) 1, none, true⟩,
  ⟨none, .store 29 (.tmp 16) (.tmp 14), none, true⟩]
theorem k33_r2_e : type_of% (@Eo_of P pr N e σ Q _ _ k33_r2.eq_1) := Eo_of k33_r2.eq_1
def k33_r3 : List COp := [
  ⟨some 4, .assign (.const .nilIface), none, true⟩]
theorem k33_r3_e : type_of% (@Eo_of P pr N e σ Q _ _ k33_r3.eq_1) := Eo_of k33_r3.eq_1
def k33 : CC := (.seq (.region k33_r0) (.seq (.region k33_r1) (.seq (.region k33_r2) (.seq (.region k33_r3) .ret))))
theorem k33_e : type_of% (@Ev_of P pr N e σ Q _ _ k33.eq_1) := Ev_of k33.eq_1
theorem k33_a : type_of% @k33_e ∧ type_of% @k33_r0_e ∧ type_of% @k33_r1_e ∧ type_of% @k33_r2_e ∧ type_of% @k33_r3_e := ⟨@k33_e, @k33_r0_e, @k33_r1_e, @k33_r2_e, @k33_r3_e⟩
/-- (*strings.Builder).WriteByte -/
theorem k33_is : FnIs Try.prog prims 33 17 [ResultVar.tmp 4] k33 := FnIs.of_fn Try.func33 (by kernel_rfl) rfl
def k34_r0 : List COp := [
  ⟨some 4, .assign (.const (.bool false)), none, true⟩]
theorem k34_r0_e : type_of% (@Eo_of P pr N e σ Q _ _ k34_r0.eq_1) := Eo_of k34_r0.eq_1
def k34_r1 : List COp := [
  ⟨some 5, .move (.tmp 0), none, true⟩,
  ⟨some 6, .call { callee := .builtin .len, args := #[.tmp 5], argTypes := #[9] }, none, true⟩,
  ⟨some 7, .move (.tmp 1), none, true⟩,
  ⟨some 8, .call { callee := .builtin .len, args := #[.tmp 7], argTypes := #[9] }, none, true⟩,
  ⟨some 9, .binOp .geq 3 (.tmp 6) (.tmp 8) 3, none, true⟩,
  ⟨some 10, .move (.tmp 9), none, true⟩,
  ⟨some 11, .move (.tmp 0), some (10, true), true⟩,
  ⟨some 12, .move (.tmp 1), some (10, true), true⟩,
  ⟨some 13, .call { callee := .builtin .len, args := #[.tmp 12], argTypes := #[9] }, some (10, true), true⟩,
  ⟨some 14, .slice 9 (.tmp 11) .none (some (.tmp 13)) .none, some (10, true), true⟩,
  ⟨some 15, .move (.tmp 1), some (10, true), true⟩,
  ⟨some 16, .binOp .eql 9 (.tmp 14) (.tmp 15) 9, some (10, true), true⟩,
  ⟨some 17, .pick (.tmp 10) (.tmp 16) (.const (.bool false)), none, true⟩,
  ⟨some 4, .assign (.tmp 17), none, true⟩]
theorem k34_r1_e : type_of% (@Eo_of P pr N e σ Q _ _ k34_r1.eq_1) := Eo_of k34_r1.eq_1
def k34 : CC := (.seq (.region k34_r0) (.seq (.region k34_r1) .ret))
theorem k34_e : type_of% (@Ev_of P pr N e σ Q _ _ k34.eq_1) := Ev_of k34.eq_1
theorem k34_a : type_of% @k34_e ∧ type_of% @k34_r0_e ∧ type_of% @k34_r1_e := ⟨@k34_e, @k34_r0_e, @k34_r1_e⟩
/-- internal/stringslite.HasPrefix -/
theorem k34_is : FnIs Try.prog prims 34 18 [ResultVar.tmp 4] k34 := FnIs.of_fn Try.func34 (by kernel_rfl) rfl
def k3_r0 : List COp := [
  ⟨some 2, .assign (.const (.bool false)), none, true⟩]
theorem k3_r0_e : type_of% (@Eo_of P pr N e σ Q _ _ k3_r0.eq_1) := Eo_of k3_r0.eq_1
def k3_r1 : List COp := [
  ⟨some 9, .call { callee := .value (.func 7), args := #[], argTypes := #[] }, none, true⟩,
  ⟨some 10, .unOp .not 4 (.tmp 9), none, true⟩]
theorem k3_r1_e : type_of% (@Eo_of P pr N e σ Q _ _ k3_r1.eq_1) := Eo_of k3_r1.eq_1
def k3_r2 : List COp := [
  ⟨some 2, .assign (.const (.bool false)), none, true⟩]
theorem k3_r2_e : type_of% (@Eo_of P pr N e σ Q _ _ k3_r2.eq_1) := Eo_of k3_r2.eq_1
def k3_r3 : List COp := [
  ⟨some 12, .move (.tmp 0), none, true⟩,
  ⟨some 13, .call { callee := .value (.func 8), args := #[.tmp 12], argTypes := #[9] }, none, true⟩,
  ⟨some 11, .move (.tmp 13), none, true⟩,
  ⟨some 14, .extract (.tmp 11) 0, none, true⟩,
  ⟨some 15, .extract (.tmp 11) 1, none, true⟩,
  ⟨some 16, .extract (.tmp 11) 2, none, true⟩,
  ⟨some 3, .assign (.tmp 14), none, true⟩,
  ⟨some 4, .assign (.tmp 15), none, true⟩,
  ⟨some 5, .assign (.tmp 16), none, true⟩]
theorem k3_r3_e : type_of% (@Eo_of P pr N e σ Q _ _ k3_r3.eq_1) := Eo_of k3_r3.eq_1
def k3_r4 : List COp := [
  ⟨some 18, .move (.tmp 0), none, true⟩,
  ⟨some 19, .call { callee := .value (.func 9), args := #[.tmp 18], argTypes := #[9] }, none, true⟩,
  ⟨some 17, .move (.tmp 19), none, true⟩,
  ⟨some 20, .extract (.tmp 17) 0, none, true⟩,
  ⟨some 21, .extract (.tmp 17) 1, none, true⟩,
  ⟨some 22, .extract (.tmp 17) 2, none, true⟩,
  ⟨some 6, .assign (.tmp 20), none, true⟩,
  ⟨some 7, .assign (.tmp 21), none, true⟩,
  ⟨some 8, .assign (.tmp 22), none, true⟩]
theorem k3_r4_e : type_of% (@Eo_of P pr N e σ Q _ _ k3_r4.eq_1) := Eo_of k3_r4.eq_1
def k3_r5 : List COp := [
  ⟨some 23, .move (.tmp 3), none, true⟩,
  ⟨some 24, .move (.tmp 6), none, true⟩,
  ⟨some 25, .call { callee := .value (.func 10), args := #[.tmp 23, .tmp 24], argTypes := #[23, 23] }, none, true⟩,
  ⟨some 26, .move (.tmp 25), none, true⟩,
  ⟨some 27, .move (.tmp 4), some (26, true), true⟩,
  ⟨some 28, .move (.tmp 7), some (26, true), true⟩,
  ⟨some 29, .binOp .eql 3 (.tmp 27) (.tmp 28) 3, some (26, true), true⟩,
  ⟨some 30, .pick (.tmp 26) (.tmp 29) (.const (.bool false)), none, true⟩,
  ⟨some 31, .move (.tmp 30), none, true⟩,
  ⟨some 32, .move (.tmp 5), some (31, true), true⟩,
  ⟨some 33, .move (.tmp 8), some (31, true), true⟩,
  ⟨some 34, .binOp .eql 24 (.tmp 32) (.tmp 33) 24, some (31, true), true⟩,
  ⟨some 35, .pick (.tmp 31) (.tmp 34) (.const (.bool false)), none, true⟩,
  ⟨some 2, .assign (.tmp 35), none, true⟩]
theorem k3_r5_e : type_of% (@Eo_of P pr N e σ Q _ _ k3_r5.eq_1) := Eo_of k3_r5.eq_1
def k3 : CC := (.seq (.region k3_r0) (.seq (.seq (.region k3_r1) (.cond (.tmp 10) (.seq (.region k3_r2) .ret) .skip)) (.seq (.region k3_r3) (.seq (.region k3_r4) (.seq (.region k3_r5) .ret)))))
theorem k3_e : type_of% (@Ev_of P pr N e σ Q _ _ k3.eq_1) := Ev_of k3.eq_1
theorem k3_a : type_of% @k3_e ∧ type_of% @k3_r0_e ∧ type_of% @k3_r1_e ∧ type_of% @k3_r2_e ∧ type_of% @k3_r3_e ∧ type_of% @k3_r4_e ∧ type_of% @k3_r5_e := ⟨@k3_e, @k3_r0_e, @k3_r1_e, @k3_r2_e, @k3_r3_e, @k3_r4_e, @k3_r5_e⟩
/-- quern/quernlaw06.LexReads -/
theorem k3_is : FnIs Try.prog prims 3 36 [ResultVar.tmp 2] k3 := FnIs.of_fn Try.func3 (by kernel_rfl) rfl
def k4_r0 : List COp := [
  ⟨some 4, .assign (.const (.bool false)), none, true⟩]
theorem k4_r0_e : type_of% (@Eo_of P pr N e σ Q _ _ k4_r0.eq_1) := Eo_of k4_r0.eq_1
def k4_r1 : List COp := [
  ⟨some 16, .call { callee := .value (.func 7), args := #[], argTypes := #[] }, none, true⟩,
  ⟨some 17, .unOp .not 4 (.tmp 16), none, true⟩]
theorem k4_r1_e : type_of% (@Eo_of P pr N e σ Q _ _ k4_r1.eq_1) := Eo_of k4_r1.eq_1
def k4_r2 : List COp := [
  ⟨some 4, .assign (.const (.bool false)), none, true⟩]
theorem k4_r2_e : type_of% (@Eo_of P pr N e σ Q _ _ k4_r2.eq_1) := Eo_of k4_r2.eq_1
def k4_r3 : List COp := [
  ⟨some 19, .move (.tmp 0), none, true⟩,
  ⟨some 20, .call { callee := .value (.func 8), args := #[.tmp 19], argTypes := #[9] }, none, true⟩,
  ⟨some 18, .move (.tmp 20), none, true⟩,
  ⟨some 21, .extract (.tmp 18) 0, none, true⟩,
  ⟨some 22, .extract (.tmp 18) 1, none, true⟩,
  ⟨some 23, .extract (.tmp 18) 2, none, true⟩,
  ⟨some 5, .assign (.tmp 21), none, true⟩,
  ⟨some 6, .assign (.tmp 22), none, true⟩,
  ⟨some 7, .assign (.tmp 23), none, true⟩]
theorem k4_r3_e : type_of% (@Eo_of P pr N e σ Q _ _ k4_r3.eq_1) := Eo_of k4_r3.eq_1
def k4_r4 : List COp := [
  ⟨some 24, .move (.tmp 7), none, true⟩,
  ⟨some 25, .binOp .neq 24 (.tmp 24) (.const (.int .i64 0)) 24, none, true⟩]
theorem k4_r4_e : type_of% (@Eo_of P pr N e σ Q _ _ k4_r4.eq_1) := Eo_of k4_r4.eq_1
def k4_r5 : List COp := [
  ⟨some 26, .move (.tmp 5), none, true⟩,
  ⟨some 27, .call { callee := .builtin .len, args := #[.tmp 26], argTypes := #[23] }, none, true⟩,
  ⟨some 28, .binOp .eql 3 (.tmp 27) (.const (.int .i64 0)) 3, none, true⟩,
  ⟨some 4, .assign (.tmp 28), none, true⟩]
theorem k4_r5_e : type_of% (@Eo_of P pr N e σ Q _ _ k4_r5.eq_1) := Eo_of k4_r5.eq_1
def k4_r6 : List COp := [
  ⟨some 29, .build 30 #[(0, .const (.string { data := #[32] })), (1, .const (.string { data := #[10, 9] })), (2, .const (.string { data := #[35, 120, 32, 34, 10] })), (3, .const (.string { data := #[32, 35, 32, 49, 10, 35, 10] }))], none, true⟩,
  ⟨some 8, .alloc 30, none, true⟩,
  ⟨none, .store 30 (.tmp 8) (.tmp 29), none, true⟩]
theorem k4_r6_e : type_of% (@Eo_of P pr N e σ Q _ _ k4_r6.eq_1) := Eo_of k4_r6.eq_1
def k4_r7 : List COp := [
  ⟨some 9, .assign (.const (.string { data := #[] })), none, true⟩]
theorem k4_r7_e : type_of% (@Eo_of P pr N e σ Q _ _ k4_r7.eq_1) := Eo_of k4_r7.eq_1
def k4_r8 : List COp := [
  ⟨some 30, .move (.tmp 5), none, true⟩,
  ⟨some 31, .call { callee := .builtin .len, args := #[.tmp 30], argTypes := #[23] }, none, true⟩,
  ⟨some 32, .move (.const (.int .i64 0)), none, true⟩]
theorem k4_r8_e : type_of% (@Eo_of P pr N e σ Q _ _ k4_r8.eq_1) := Eo_of k4_r8.eq_1
def k4_r9 : List COp := [
  ⟨some 33, .binOp .lss 3 (.tmp 32) (.tmp 31) 3, none, true⟩]
theorem k4_r9_e : type_of% (@Eo_of P pr N e σ Q _ _ k4_r9.eq_1) := Eo_of k4_r9.eq_1
def k4_r10 : List COp := [
  ⟨some 34, .move (.tmp 32), none, true⟩,
  ⟨some 35, .indexAddr 23 (.tmp 30) (.tmp 32), none, true⟩,
  ⟨some 36, .load 32 (.tmp 35), none, true⟩,
  ⟨some 11, .alloc 32, none, true⟩,
  ⟨some 10, .assign (.tmp 34), none, true⟩,
  ⟨none, .store 32 (.tmp 11) (.tmp 36), none, true⟩]
theorem k4_r10_e : type_of% (@Eo_of P pr N e σ Q _ _ k4_r10.eq_1) := Eo_of k4_r10.eq_1
def k4_r11 : List COp := [
  ⟨some 37, .move (.tmp 10), none, true⟩,
  ⟨some 38, .move (.tmp 1), none, true⟩,
  ⟨some 39, .call { callee := .builtin .len, args := #[.tmp 38], argTypes := #[29] }, none, true⟩,
  ⟨some 40, .binOp .lss 3 (.tmp 37) (.tmp 39) 3, none, true⟩]
theorem k4_r11_e : type_of% (@Eo_of P pr N e σ Q _ _ k4_r11.eq_1) := Eo_of k4_r11.eq_1
def k4_r12 : List COp := [
  ⟨some 41, .move (.tmp 9), none, true⟩,
  ⟨some 42, .move (.tmp 1), none, true⟩,
  ⟨some 43, .move (.tmp 10), none, true⟩,
  ⟨some 44, .indexAddr 29 (.tmp 42) (.tmp 43), none, true⟩,
  ⟨some 45, .load 5 (.tmp 44), none, true⟩,
  ⟨some 46, .binOp .and 5 (.tmp 45) (.const (.int .u8 3)) 5, none, true⟩,
  ⟨some 47, .indexAddr 30 (.tmp 8) (.tmp 46), none, true⟩,
  ⟨some 48, .load 9 (.tmp 47), none, true⟩,
  ⟨some 49, .binOp .add 9 (.tmp 41) (.tmp 48) 9, none, true⟩,
  ⟨some 9, .assign (.tmp 49), none, true⟩]
theorem k4_r12_e : type_of% (@Eo_of P pr N e σ Q _ _ k4_r12.eq_1) := Eo_of k4_r12.eq_1
def k4_r13 : List COp := [
  ⟨some 50, .move (.tmp 0), none, true⟩,
  ⟨some 51, .call { callee := .builtin .len, args := #[.tmp 50], argTypes := #[9] }, none, true⟩,
  ⟨some 12, .assign (.tmp 51), none, true⟩]
theorem k4_r13_e : type_of% (@Eo_of P pr N e σ Q _ _ k4_r13.eq_1) := Eo_of k4_r13.eq_1
def k4_r14 : List COp := [
  ⟨some 52, .move (.tmp 10), none, true⟩,
  ⟨some 53, .binOp .add 3 (.tmp 52) (.const (.int .i64 1)) 3, none, true⟩,
  ⟨some 54, .move (.tmp 5), none, true⟩,
  ⟨some 55, .call { callee := .builtin .len, args := #[.tmp 54], argTypes := #[23] }, none, true⟩,
  ⟨some 56, .binOp .lss 3 (.tmp 53) (.tmp 55) 3, none, true⟩]
theorem k4_r14_e : type_of% (@Eo_of P pr N e σ Q _ _ k4_r14.eq_1) := Eo_of k4_r14.eq_1
def k4_r15 : List COp := [
  ⟨some 57, .move (.tmp 5), none, true⟩,
  ⟨some 58, .move (.tmp 10), none, true⟩,
  ⟨some 59, .binOp .add 3 (.tmp 58) (.const (.int .i64 1)) 3, none, true⟩,
  ⟨some 60, .indexAddr 23 (.tmp 57) (.tmp 59), none, true⟩,
  ⟨some 61, .fieldAddr 32 (.tmp 60) 3, none, true⟩,
  ⟨some 62, .load 3 (.tmp 61), none, true⟩,
  ⟨some 12, .assign (.tmp 62), none, true⟩]
theorem k4_r15_e : type_of% (@Eo_of P pr N e σ Q _ _ k4_r15.eq_1) := Eo_of k4_r15.eq_1
def k4_r16 : List COp := [
  ⟨some 63, .fieldAddr 32 (.tmp 11) 3, none, true⟩,
  ⟨some 64, .load 3 (.tmp 63), none, true⟩,
  ⟨some 65, .binOp .lss 3 (.tmp 64) (.const (.int .i64 0)) 3, none, true⟩,
  ⟨some 66, .move (.tmp 65), none, true⟩,
  ⟨some 67, .fieldAddr 32 (.tmp 11) 3, some (66, false), true⟩,
  ⟨some 68, .load 3 (.tmp 67), some (66, false), true⟩,
  ⟨some 69, .move (.tmp 12), some (66, false), true⟩,
  ⟨some 70, .binOp .gtr 3 (.tmp 68) (.tmp 69) 3, some (66, false), true⟩,
  ⟨some 71, .pick (.tmp 66) (.const (.bool true)) (.tmp 70), none, true⟩,
  ⟨some 72, .move (.tmp 71), none, true⟩,
  ⟨some 73, .move (.tmp 12), some (72, false), true⟩,
  ⟨some 74, .move (.tmp 0), some (72, false), true⟩,
  ⟨some 75, .call { callee := .builtin .len, args := #[.tmp 74], argTypes := #[9] }, some (72, false), true⟩,
  ⟨some 76, .binOp .gtr 3 (.tmp 73) (.tmp 75) 3, some (72, false), true⟩,
  ⟨some 77, .pick (.tmp 72) (.const (.bool true)) (.tmp 76), none, true⟩]
theorem k4_r16_e : type_of% (@Eo_of P pr N e σ Q _ _ k4_r16.eq_1) := Eo_of k4_r16.eq_1
def k4_r17 : List COp := [
  ⟨some 4, .assign (.const (.bool false)), none, true⟩]
theorem k4_r17_e : type_of% (@Eo_of P pr N e σ Q _ _ k4_r17.eq_1) := Eo_of k4_r17.eq_1
def k4_r18 : List COp := [
  ⟨some 78, .move (.tmp 9), none, true⟩,
  ⟨some 79, .move (.tmp 0), none, true⟩,
  ⟨some 80, .fieldAddr 32 (.tmp 11) 3, none, true⟩,
  ⟨some 81, .load 3 (.tmp 80), none, true⟩,
  ⟨some 82, .move (.tmp 12), none, true⟩,
  ⟨some 83, .slice 9 (.tmp 79) (some (.tmp 81)) (some (.tmp 82)) .none, none, true⟩,
  ⟨some 84, .binOp .add 9 (.tmp 78) (.tmp 83) 9, none, true⟩,
  ⟨some 9, .assign (.tmp 84), none, true⟩]
theorem k4_r18_e : type_of% (@Eo_of P pr N e σ Q _ _ k4_r18.eq_1) := Eo_of k4_r18.eq_1
def k4_r19 : List COp := [
  ⟨some 85, .binOp .add 3 (.tmp 32) (.const (.int .i64 1)) 3, none, true⟩,
  ⟨some 32, .move (.tmp 85), none, true⟩]
theorem k4_r19_e : type_of% (@Eo_of P pr N e σ Q _ _ k4_r19.eq_1) := Eo_of k4_r19.eq_1
def k4_l0 : CC := (.seq (.region k4_r9) (.seq (.cond (.tmp 33) .skip (.exit 0)) (.seq (.block 1 (.seq (.region k4_r10) (.seq (.seq (.region k4_r11) (.cond (.tmp 40) (.region k4_r12) .skip)) (.seq (.region k4_r13) (.seq (.seq (.region k4_r14) (.cond (.tmp 56) (.region k4_r15) .skip)) (.seq (.seq (.region k4_r16) (.cond (.tmp 77) (.seq (.region k4_r17) .ret) .skip)) (.region k4_r18))))))) (.region k4_r19))))
theorem k4_l0_e : type_of% (@Ev_of P pr N e σ Q _ _ k4_l0.eq_1) := Ev_of k4_l0.eq_1
def k4_r20 : List COp := [
  ⟨some 86, .move (.tmp 9), none, true⟩,
  ⟨some 87, .call { callee := .builtin .len, args := #[.tmp 86], argTypes := #[9] }, none, true⟩,
  ⟨some 88, .binOp .gtr 3 (.tmp 87) (.const (.int .i64 16384)) 3, none, true⟩]
theorem k4_r20_e : type_of% (@Eo_of P pr N e σ Q _ _ k4_r20.eq_1) := Eo_of k4_r20.eq_1
def k4_r21 : List COp := [
  ⟨some 4, .assign (.const (.bool true)), none, true⟩]
theorem k4_r21_e : type_of% (@Eo_of P pr N e σ Q _ _ k4_r21.eq_1) := Eo_of k4_r21.eq_1
def k4_r22 : List COp := [
  ⟨some 90, .move (.tmp 9), none, true⟩,
  ⟨some 91, .call { callee := .value (.func 8), args := #[.tmp 90], argTypes := #[9] }, none, true⟩,
  ⟨some 89, .move (.tmp 91), none, true⟩,
  ⟨some 92, .extract (.tmp 89) 0, none, true⟩,
  ⟨some 93, .extract (.tmp 89) 1, none, true⟩,
  ⟨some 94, .extract (.tmp 89) 2, none, true⟩,
  ⟨some 13, .assign (.tmp 92), none, true⟩,
  ⟨some 14, .assign (.tmp 93), none, true⟩,
  ⟨some 7, .assign (.tmp 94), none, true⟩]
theorem k4_r22_e : type_of% (@Eo_of P pr N e σ Q _ _ k4_r22.eq_1) := Eo_of k4_r22.eq_1
def k4_r23 : List COp := [
  ⟨some 95, .move (.tmp 7), none, true⟩,
  ⟨some 96, .binOp .neq 24 (.tmp 95) (.const (.int .i64 0)) 24, none, true⟩,
  ⟨some 97, .move (.tmp 96), none, true⟩,
  ⟨some 98, .move (.tmp 5), some (97, false), true⟩,
  ⟨some 99, .call { callee := .builtin .len, args := #[.tmp 98], argTypes := #[23] }, some (97, false), true⟩,
  ⟨some 100, .move (.tmp 13), some (97, false), true⟩,
  ⟨some 101, .call { callee := .builtin .len, args := #[.tmp 100], argTypes := #[23] }, some (97, false), true⟩,
  ⟨some 102, .binOp .neq 3 (.tmp 99) (.tmp 101) 3, some (97, false), true⟩,
  ⟨some 103, .pick (.tmp 97) (.const (.bool true)) (.tmp 102), none, true⟩]
theorem k4_r23_e : type_of% (@Eo_of P pr N e σ Q _ _ k4_r23.eq_1) := Eo_of k4_r23.eq_1
def k4_r24 : List COp := [
  ⟨some 4, .assign (.const (.bool false)), none, true⟩]
theorem k4_r24_e : type_of% (@Eo_of P pr N e σ Q _ _ k4_r24.eq_1) := Eo_of k4_r24.eq_1
def k4_r25 : List COp := [
  ⟨some 104, .move (.tmp 5), none, true⟩,
  ⟨some 105, .call { callee := .builtin .len, args := #[.tmp 104], argTypes := #[23] }, none, true⟩,
  ⟨some 106, .move (.const (.int .i64 0)), none, true⟩]
theorem k4_r25_e : type_of% (@Eo_of P pr N e σ Q _ _ k4_r25.eq_1) := Eo_of k4_r25.eq_1
def k4_r26 : List COp := [
  ⟨some 107, .binOp .lss 3 (.tmp 106) (.tmp 105) 3, none, true⟩]
theorem k4_r26_e : type_of% (@Eo_of P pr N e σ Q _ _ k4_r26.eq_1) := Eo_of k4_r26.eq_1
def k4_r27 : List COp := [
  ⟨some 108, .move (.tmp 106), none, true⟩,
  ⟨some 15, .assign (.tmp 108), none, true⟩]
theorem k4_r27_e : type_of% (@Eo_of P pr N e σ Q _ _ k4_r27.eq_1) := Eo_of k4_r27.eq_1
def k4_r28 : List COp := [
  ⟨some 109, .move (.tmp 5), none, false⟩,
  ⟨some 110, .move (.tmp 15), none, false⟩,
  ⟨some 111, .indexAddr 23 (.tmp 109) (.tmp 110), none, false⟩,
  ⟨some 112, .fieldAddr 32 (.tmp 111) 0, none, false⟩,
  ⟨some 113, .load 3 (.tmp 112), none, false⟩,
  ⟨some 114, .move (.tmp 13), none, false⟩,
  ⟨some 115, .move (.tmp 15), none, true⟩,
  ⟨some 116, .indexAddr 23 (.tmp 114) (.tmp 115), none, true⟩,
  ⟨some 117, .fieldAddr 32 (.tmp 116) 0, none, true⟩,
  ⟨some 118, .load 3 (.tmp 117), none, true⟩,
  ⟨some 119, .binOp .neq 3 (.tmp 113) (.tmp 118) 3, none, true⟩,
  ⟨some 120, .move (.tmp 119), none, true⟩,
  ⟨some 121, .move (.tmp 5), some (120, false), false⟩,
  ⟨some 122, .move (.tmp 15), some (120, false), false⟩,
  ⟨some 123, .indexAddr 23 (.tmp 121) (.tmp 122), some (120, false), false⟩,
  ⟨some 124, .fieldAddr 32 (.tmp 123) 1, some (120, false), false⟩,
  ⟨some 125, .load 9 (.tmp 124), some (120, false), false⟩,
  ⟨some 126, .move (.tmp 13), some (120, false), false⟩,
  ⟨some 127, .move (.tmp 15), some (120, false), true⟩,
  ⟨some 128, .indexAddr 23 (.tmp 126) (.tmp 127), some (120, false), true⟩,
  ⟨some 129, .fieldAddr 32 (.tmp 128) 1, some (120, false), true⟩,
  ⟨some 130, .load 9 (.tmp 129), some (120, false), true⟩,
  ⟨some 131, .binOp .neq 9 (.tmp 125) (.tmp 130) 9, some (120, false), true⟩,
  ⟨some 132, .pick (.tmp 120) (.const (.bool true)) (.tmp 131), none, true⟩,
  ⟨some 133, .move (.tmp 132), none, true⟩,
  ⟨some 134, .move (.tmp 5), some (133, false), false⟩,
  ⟨some 135, .move (.tmp 15), some (133, false), false⟩,
  ⟨some 136, .indexAddr 23 (.tmp 134) (.tmp 135), some (133, false), false⟩,
  ⟨some 137, .fieldAddr 32 (.tmp 136) 2, some (133, false), false⟩,
  ⟨some 138, .load 3 (.tmp 137), some (133, false), false⟩,
  ⟨some 139, .move (.tmp 13), some (133, false), false⟩,
  ⟨some 140, .move (.tmp 15), some (133, false), true⟩,
  ⟨some 141, .indexAddr 23 (.tmp 139) (.tmp 140), some (133, false), true⟩,
  ⟨some 142, .fieldAddr 32 (.tmp 141) 2, some (133, false), true⟩,
  ⟨some 143, .load 3 (.tmp 142), some (133, false), true⟩,
  ⟨some 144, .binOp .neq 3 (.tmp 138) (.tmp 143) 3, some (133, false), true⟩,
  ⟨some 145, .pick (.tmp 133) (.const (.bool true)) (.tmp 144), none, true⟩]
theorem k4_r28_e : type_of% (@Eo_of P pr N e σ Q _ _ k4_r28.eq_1) := Eo_of k4_r28.eq_1
def k4_r29 : List COp := [
  ⟨some 4, .assign (.const (.bool false)), none, true⟩]
theorem k4_r29_e : type_of% (@Eo_of P pr N e σ Q _ _ k4_r29.eq_1) := Eo_of k4_r29.eq_1
def k4_r30 : List COp := [
  ⟨some 146, .binOp .add 3 (.tmp 106) (.const (.int .i64 1)) 3, none, true⟩,
  ⟨some 106, .move (.tmp 146), none, true⟩]
theorem k4_r30_e : type_of% (@Eo_of P pr N e σ Q _ _ k4_r30.eq_1) := Eo_of k4_r30.eq_1
def k4_l1 : CC := (.seq (.region k4_r26) (.seq (.cond (.tmp 107) .skip (.exit 2)) (.seq (.block 3 (.seq (.region k4_r27) (.seq (.region k4_r28) (.cond (.tmp 145) (.seq (.region k4_r29) .ret) .skip)))) (.region k4_r30))))
theorem k4_l1_e : type_of% (@Ev_of P pr N e σ Q _ _ k4_l1.eq_1) := Ev_of k4_l1.eq_1
def k4_r31 : List COp := [
  ⟨some 4, .assign (.const (.bool true)), none, true⟩]
theorem k4_r31_e : type_of% (@Eo_of P pr N e σ Q _ _ k4_r31.eq_1) := Eo_of k4_r31.eq_1
def k4 : CC := (.seq (.region k4_r0) (.seq (.seq (.region k4_r1) (.cond (.tmp 17) (.seq (.region k4_r2) .ret) .skip)) (.seq (.region k4_r3) (.seq (.seq (.region k4_r4) (.cond (.tmp 25) (.seq (.region k4_r5) .ret) .skip)) (.seq (.region k4_r6) (.seq (.region k4_r7) (.seq (.seq (.region k4_r8) (.block 0 (.loop k4_l0))) (.seq (.seq (.region k4_r20) (.cond (.tmp 88) (.seq (.region k4_r21) .ret) .skip)) (.seq (.region k4_r22) (.seq (.seq (.region k4_r23) (.cond (.tmp 103) (.seq (.region k4_r24) .ret) .skip)) (.seq (.seq (.region k4_r25) (.block 2 (.loop k4_l1))) (.seq (.region k4_r31) .ret))))))))))))
theorem k4_e : type_of% (@Ev_of P pr N e σ Q _ _ k4.eq_1) := Ev_of k4.eq_1
theorem k4_a : type_of% @k4_e ∧ type_of% @k4_r0_e ∧ type_of% @k4_r1_e ∧ type_of% @k4_r2_e ∧ type_of% @k4_r3_e ∧ type_of% @k4_r4_e ∧ type_of% @k4_r5_e ∧ type_of% @k4_r6_e ∧ type_of% @k4_r7_e ∧ type_of% @k4_r8_e ∧ type_of% @k4_r9_e ∧ type_of% @k4_r10_e ∧ type_of% @k4_r11_e ∧ type_of% @k4_r12_e ∧ type_of% @k4_r13_e ∧ type_of% @k4_r14_e ∧ type_of% @k4_r15_e ∧ type_of% @k4_r16_e ∧ type_of% @k4_r17_e ∧ type_of% @k4_r18_e ∧ type_of% @k4_r19_e ∧ type_of% @k4_l0_e ∧ type_of% @k4_r20_e ∧ type_of% @k4_r21_e ∧ type_of% @k4_r22_e ∧ type_of% @k4_r23_e ∧ type_of% @k4_r24_e ∧ type_of% @k4_r25_e ∧ type_of% @k4_r26_e ∧ type_of% @k4_r27_e ∧ type_of% @k4_r28_e ∧ type_of% @k4_r29_e ∧ type_of% @k4_r30_e ∧ type_of% @k4_l1_e ∧ type_of% @k4_r31_e := ⟨@k4_e, @k4_r0_e, @k4_r1_e, @k4_r2_e, @k4_r3_e, @k4_r4_e, @k4_r5_e, @k4_r6_e, @k4_r7_e, @k4_r8_e, @k4_r9_e, @k4_r10_e, @k4_r11_e, @k4_r12_e, @k4_r13_e, @k4_r14_e, @k4_r15_e, @k4_r16_e, @k4_r17_e, @k4_r18_e, @k4_r19_e, @k4_l0_e, @k4_r20_e, @k4_r21_e, @k4_r22_e, @k4_r23_e, @k4_r24_e, @k4_r25_e, @k4_r26_e, @k4_r27_e, @k4_r28_e, @k4_r29_e, @k4_r30_e, @k4_l1_e, @k4_r31_e⟩
/-- quern/quernlaw06.LexBlanks -/
theorem k4_is : FnIs Try.prog prims 4 147 [ResultVar.tmp 4] k4 := FnIs.of_fn Try.func4 (by kernel_rfl) rfl
def k5_r0 : List COp := [
  ⟨some 2, .assign (.const (.bool false)), none, true⟩]
theorem k5_r0_e : type_of% (@Eo_of P pr N e σ Q _ _ k5_r0.eq_1) := Eo_of k5_r0.eq_1
def k5_r1 : List COp := [
  ⟨some 12, .call { callee := .value (.func 7), args := #[], argTypes := #[] }, none, true⟩,
  ⟨some 13, .unOp .not 4 (.tmp 12), none, true⟩]
theorem k5_r1_e : type_of% (@Eo_of P pr N e σ Q _ _ k5_r1.eq_1) := Eo_of k5_r1.eq_1
def k5_r2 : List COp := [
  ⟨some 2, .assign (.const (.bool false)), none, true⟩]
theorem k5_r2_e : type_of% (@Eo_of P pr N e σ Q _ _ k5_r2.eq_1) := Eo_of k5_r2.eq_1
def k5_r3 : List COp := [
  ⟨some 15, .move (.tmp 0), none, true⟩,
  ⟨some 16, .call { callee := .value (.func 8), args := #[.tmp 15], argTypes := #[9] }, none, true⟩,
  ⟨some 14, .move (.tmp 16), none, true⟩,
  ⟨some 17, .extract (.tmp 14) 0, none, true⟩,
  ⟨some 18, .extract (.tmp 14) 1, none, true⟩,
  ⟨some 19, .extract (.tmp 14) 2, none, true⟩,
  ⟨some 3, .assign (.tmp 17), none, true⟩,
  ⟨some 4, .assign (.tmp 18), none, true⟩,
  ⟨some 5, .assign (.tmp 19), none, true⟩]
theorem k5_r3_e : type_of% (@Eo_of P pr N e σ Q _ _ k5_r3.eq_1) := Eo_of k5_r3.eq_1
def k5_r4 : List COp := [
  ⟨some 20, .move (.tmp 5), none, true⟩,
  ⟨some 21, .binOp .neq 24 (.tmp 20) (.const (.int .i64 0)) 24, none, true⟩]
theorem k5_r4_e : type_of% (@Eo_of P pr N e σ Q _ _ k5_r4.eq_1) := Eo_of k5_r4.eq_1
def k5_r5 : List COp := [
  ⟨some 22, .move (.tmp 3), none, true⟩,
  ⟨some 23, .call { callee := .builtin .len, args := #[.tmp 22], argTypes := #[23] }, none, true⟩,
  ⟨some 24, .binOp .eql 3 (.tmp 23) (.const (.int .i64 0)) 3, none, true⟩,
  ⟨some 25, .move (.tmp 24), none, true⟩,
  ⟨some 26, .move (.tmp 4), some (25, true), true⟩,
  ⟨some 27, .binOp .geq 3 (.tmp 26) (.const (.int .i64 0)) 3, some (25, true), true⟩,
  ⟨some 28, .pick (.tmp 25) (.tmp 27) (.const (.bool false)), none, true⟩,
  ⟨some 29, .move (.tmp 28), none, true⟩,
  ⟨some 30, .move (.tmp 4), some (29, true), true⟩,
  ⟨some 31, .move (.tmp 0), some (29, true), true⟩,
  ⟨some 32, .call { callee := .builtin .len, args := #[.tmp 31], argTypes := #[9] }, some (29, true), true⟩,
  ⟨some 33, .binOp .leq 3 (.tmp 30) (.tmp 32) 3, some (29, true), true⟩,
  ⟨some 34, .pick (.tmp 29) (.tmp 33) (.const (.bool false)), none, true⟩,
  ⟨some 2, .assign (.tmp 34), none, true⟩]
theorem k5_r5_e : type_of% (@Eo_of P pr N e σ Q _ _ k5_r5.eq_1) := Eo_of k5_r5.eq_1
def k5_r6 : List COp := [
  ⟨some 6, .assign (.const (.int .i64 0)), none, true⟩]
theorem k5_r6_e : type_of% (@Eo_of P pr N e σ Q _ _ k5_r6.eq_1) := Eo_of k5_r6.eq_1
def k5_r7 : List COp := [
  ⟨some 35, .move (.tmp 3), none, true⟩,
  ⟨some 36, .call { callee := .builtin .len, args := #[.tmp 35], argTypes := #[23] }, none, true⟩,
  ⟨some 37, .move (.const (.int .i64 0)), none, true⟩]
theorem k5_r7_e : type_of% (@Eo_of P pr N e σ Q _ _ k5_r7.eq_1) := Eo_of k5_r7.eq_1
def k5_r8 : List COp := [
  ⟨some 38, .binOp .lss 3 (.tmp 37) (.tmp 36) 3, none, true⟩]
theorem k5_r8_e : type_of% (@Eo_of P pr N e σ Q _ _ k5_r8.eq_1) := Eo_of k5_r8.eq_1
def k5_r9 : List COp := [
  ⟨some 39, .move (.tmp 37), none, true⟩,
  ⟨some 40, .indexAddr 23 (.tmp 35) (.tmp 37), none, true⟩,
  ⟨some 41, .load 32 (.tmp 40), none, true⟩,
  ⟨some 8, .alloc 32, none, true⟩,
  ⟨some 7, .assign (.tmp 39), none, true⟩,
  ⟨none, .store 32 (.tmp 8) (.tmp 41), none, true⟩]
theorem k5_r9_e : type_of% (@Eo_of P pr N e σ Q _ _ k5_r9.eq_1) := Eo_of k5_r9.eq_1
def k5_r10 : CC := (.wregion [
  (true, ⟨some 42, .fieldAddr 32 (.tmp 8) 3, none, false⟩),
  (true, ⟨some 43, .load 3 (.tmp 42), none, false⟩),
  (false, ⟨some 44, .move (.tmp 0), none, false⟩),
  (false, ⟨some 45, .move (.tmp 6), none, true⟩),
  (false, ⟨some 46, .call { callee := .value (.func 11), args := #[.tmp 44, .tmp 45], argTypes := #[9, 3] }, none, true⟩),
  (true, ⟨some 47, .binOp .neq 3 (.tmp 43) (.tmp 46) 3, none, true⟩),
  (false, ⟨some 48, .move (.tmp 47), none, true⟩),
  (false, ⟨some 49, .fieldAddr 32 (.tmp 8) 0, some (48, false), false⟩),
  (false, ⟨some 50, .load 3 (.tmp 49), some (48, false), false⟩),
  (false, ⟨some 51, .binOp .eql 3 (.tmp 50) (.const (.int .i64 5)) 3, some (48, false), false⟩),
  (false, ⟨some 52, .move (.tmp 7), some (48, false), false⟩),
  (false, ⟨some 53, .move (.tmp 3), some (48, false), true⟩),
  (false, ⟨some 54, .call { callee := .builtin .len, args := #[.tmp 53], argTypes := #[23] }, some (48, false), true⟩),
  (false, ⟨some 55, .binOp .sub 3 (.tmp 54) (.const (.int .i64 1)) 3, some (48, false), true⟩),
  (false, ⟨some 56, .binOp .eql 3 (.tmp 52) (.tmp 55) 3, some (48, false), true⟩),
  (false, ⟨some 57, .binOp .neq 4 (.tmp 51) (.tmp 56) 4, some (48, false), true⟩),
  (false, ⟨some 58, .pick (.tmp 48) (.const (.bool true)) (.tmp 57), none, true⟩)] false [(1, ⟨some 43, .load 3 (.tmp 42), none, false⟩, [0, 5])])
theorem k5_r10_e : type_of% (@Ev_of P pr N e σ Q _ _ k5_r10.eq_1) := Ev_of k5_r10.eq_1
def k5_r11 : List COp := [
  ⟨some 2, .assign (.const (.bool false)), none, true⟩]
theorem k5_r11_e : type_of% (@Eo_of P pr N e σ Q _ _ k5_r11.eq_1) := Eo_of k5_r11.eq_1
def k5_r12 : List COp := [
  ⟨some 59, .fieldAddr 32 (.tmp 8) 0, none, true⟩,
  ⟨some 60, .load 3 (.tmp 59), none, true⟩,
  ⟨some 61, .binOp .eql 3 (.tmp 60) (.const (.int .i64 5)) 3, none, true⟩]
theorem k5_r12_e : type_of% (@Eo_of P pr N e σ Q _ _ k5_r12.eq_1) := Eo_of k5_r12.eq_1
def k5_r13 : List COp := [
  ⟨some 62, .fieldAddr 32 (.tmp 8) 3, none, true⟩,
  ⟨some 63, .load 3 (.tmp 62), none, true⟩,
  ⟨some 64, .move (.tmp 0), none, true⟩,
  ⟨some 65, .call { callee := .builtin .len, args := #[.tmp 64], argTypes := #[9] }, none, true⟩,
  ⟨some 66, .binOp .eql 3 (.tmp 63) (.tmp 65) 3, none, true⟩,
  ⟨some 2, .assign (.tmp 66), none, true⟩]
theorem k5_r13_e : type_of% (@Eo_of P pr N e σ Q _ _ k5_r13.eq_1) := Eo_of k5_r13.eq_1
def k5_r14 : List COp := [
  ⟨some 68, .move (.tmp 0), none, true⟩,
  ⟨some 69, .fieldAddr 32 (.tmp 8) 3, none, true⟩,
  ⟨some 70, .load 3 (.tmp 69), none, true⟩,
  ⟨some 71, .call { callee := .value (.func 12), args := #[.tmp 68, .tmp 70], argTypes := #[9, 3] }, none, true⟩,
  ⟨some 67, .move (.tmp 71), none, true⟩,
  ⟨some 72, .extract (.tmp 67) 0, none, true⟩,
  ⟨some 73, .extract (.tmp 67) 1, none, true⟩,
  ⟨some 74, .extract (.tmp 67) 2, none, true⟩,
  ⟨some 9, .alloc 32, none, true⟩,
  ⟨none, .store 32 (.tmp 9) (.tmp 72), none, true⟩,
  ⟨some 10, .assign (.tmp 73), none, true⟩,
  ⟨some 11, .assign (.tmp 74), none, true⟩]
theorem k5_r14_e : type_of% (@Eo_of P pr N e σ Q _ _ k5_r14.eq_1) := Eo_of k5_r14.eq_1
def k5_r15 : List COp := [
  ⟨some 75, .move (.tmp 11), none, true⟩,
  ⟨some 76, .binOp .neq 24 (.tmp 75) (.const (.int .i64 0)) 24, none, true⟩,
  ⟨some 77, .move (.tmp 76), none, true⟩,
  ⟨some 78, .load 32 (.tmp 9), some (77, false), true⟩,
  ⟨some 79, .load 32 (.tmp 8), some (77, false), true⟩,
  ⟨some 80, .binOp .neq 32 (.tmp 78) (.tmp 79) 32, some (77, false), true⟩,
  ⟨some 81, .pick (.tmp 77) (.const (.bool true)) (.tmp 80), none, true⟩]
theorem k5_r15_e : type_of% (@Eo_of P pr N e σ Q _ _ k5_r15.eq_1) := Eo_of k5_r15.eq_1
def k5_r16 : List COp := [
  ⟨some 2, .assign (.const (.bool false)), none, true⟩]
theorem k5_r16_e : type_of% (@Eo_of P pr N e σ Q _ _ k5_r16.eq_1) := Eo_of k5_r16.eq_1
def k5_r17 : List COp := [
  ⟨some 82, .move (.tmp 10), none, true⟩,
  ⟨some 6, .assign (.tmp 82), none, true⟩]
theorem k5_r17_e : type_of% (@Eo_of P pr N e σ Q _ _ k5_r17.eq_1) := Eo_of k5_r17.eq_1
def k5_r18 : List COp := [
  ⟨some 83, .binOp .add 3 (.tmp 37) (.const (.int .i64 1)) 3, none, true⟩,
  ⟨some 37, .move (.tmp 83), none, true⟩]
theorem k5_r18_e : type_of% (@Eo_of P pr N e σ Q _ _ k5_r18.eq_1) := Eo_of k5_r18.eq_1
def k5_l0 : CC := (.seq (.region k5_r8) (.seq (.cond (.tmp 38) .skip (.exit 0)) (.seq (.block 1 (.seq (.region k5_r9) (.seq (.seq k5_r10 (.cond (.tmp 58) (.seq (.region k5_r11) .ret) .skip)) (.seq (.seq (.region k5_r12) (.cond (.tmp 61) (.seq (.region k5_r13) .ret) .skip)) (.seq (.region k5_r14) (.seq (.seq (.region k5_r15) (.cond (.tmp 81) (.seq (.region k5_r16) .ret) .skip)) (.region k5_r17))))))) (.region k5_r18))))
theorem k5_l0_e : type_of% (@Ev_of P pr N e σ Q _ _ k5_l0.eq_1) := Ev_of k5_l0.eq_1
def k5_r19 : List COp := [
  ⟨some 2, .assign (.const (.bool false)), none, true⟩]
theorem k5_r19_e : type_of% (@Eo_of P pr N e σ Q _ _ k5_r19.eq_1) := Eo_of k5_r19.eq_1
def k5 : CC := (.seq (.region k5_r0) (.seq (.seq (.region k5_r1) (.cond (.tmp 13) (.seq (.region k5_r2) .ret) .skip)) (.seq (.region k5_r3) (.seq (.seq (.region k5_r4) (.cond (.tmp 21) (.seq (.region k5_r5) .ret) .skip)) (.seq (.region k5_r6) (.seq (.seq (.region k5_r7) (.block 0 (.loop k5_l0))) (.seq (.region k5_r19) .ret)))))))
theorem k5_e : type_of% (@Ev_of P pr N e σ Q _ _ k5.eq_1) := Ev_of k5.eq_1
theorem k5_a : type_of% @k5_e ∧ type_of% @k5_r0_e ∧ type_of% @k5_r1_e ∧ type_of% @k5_r2_e ∧ type_of% @k5_r3_e ∧ type_of% @k5_r4_e ∧ type_of% @k5_r5_e ∧ type_of% @k5_r6_e ∧ type_of% @k5_r7_e ∧ type_of% @k5_r8_e ∧ type_of% @k5_r9_e ∧ type_of% @k5_r10_e ∧ type_of% @k5_r11_e ∧ type_of% @k5_r12_e ∧ type_of% @k5_r13_e ∧ type_of% @k5_r14_e ∧ type_of% @k5_r15_e ∧ type_of% @k5_r16_e ∧ type_of% @k5_r17_e ∧ type_of% @k5_r18_e ∧ type_of% @k5_l0_e ∧ type_of% @k5_r19_e := ⟨@k5_e, @k5_r0_e, @k5_r1_e, @k5_r2_e, @k5_r3_e, @k5_r4_e, @k5_r5_e, @k5_r6_e, @k5_r7_e, @k5_r8_e, @k5_r9_e, @k5_r10_e, @k5_r11_e, @k5_r12_e, @k5_r13_e, @k5_r14_e, @k5_r15_e, @k5_r16_e, @k5_r17_e, @k5_r18_e, @k5_l0_e, @k5_r19_e⟩
/-- quern/quernlaw06.LexApart -/
theorem k5_is : FnIs Try.prog prims 5 84 [ResultVar.tmp 2] k5 := FnIs.of_fn Try.func5 (by kernel_rfl) rfl
def k6_r0 : List COp := [
  ⟨some 4, .assign (.const (.bool false)), none, true⟩]
theorem k6_r0_e : type_of% (@Eo_of P pr N e σ Q _ _ k6_r0.eq_1) := Eo_of k6_r0.eq_1
def k6_r1 : List COp := [
  ⟨some 11, .call { callee := .value (.func 7), args := #[], argTypes := #[] }, none, true⟩,
  ⟨some 12, .unOp .not 4 (.tmp 11), none, true⟩]
theorem k6_r1_e : type_of% (@Eo_of P pr N e σ Q _ _ k6_r1.eq_1) := Eo_of k6_r1.eq_1
def k6_r2 : List COp := [
  ⟨some 4, .assign (.const (.bool false)), none, true⟩]
theorem k6_r2_e : type_of% (@Eo_of P pr N e σ Q _ _ k6_r2.eq_1) := Eo_of k6_r2.eq_1
def k6_r3 : List COp := [
  ⟨some 14, .move (.tmp 0), none, true⟩,
  ⟨some 15, .call { callee := .value (.func 8), args := #[.tmp 14], argTypes := #[9] }, none, true⟩,
  ⟨some 13, .move (.tmp 15), none, true⟩,
  ⟨some 16, .extract (.tmp 13) 0, none, true⟩,
  ⟨some 17, .extract (.tmp 13) 1, none, true⟩,
  ⟨some 18, .extract (.tmp 13) 2, none, true⟩,
  ⟨some 5, .assign (.tmp 16), none, true⟩,
  ⟨some 6, .assign (.tmp 17), none, true⟩,
  ⟨some 7, .assign (.tmp 18), none, true⟩]
theorem k6_r3_e : type_of% (@Eo_of P pr N e σ Q _ _ k6_r3.eq_1) := Eo_of k6_r3.eq_1
def k6_r4 : List COp := [
  ⟨some 19, .move (.tmp 7), none, true⟩,
  ⟨some 20, .binOp .neq 24 (.tmp 19) (.const (.int .i64 0)) 24, none, true⟩,
  ⟨some 21, .move (.tmp 20), none, true⟩,
  ⟨some 22, .move (.tmp 1), some (21, false), true⟩,
  ⟨some 23, .binOp .lss 3 (.tmp 22) (.const (.int .i64 0)) 3, some (21, false), true⟩,
  ⟨some 24, .pick (.tmp 21) (.const (.bool true)) (.tmp 23), none, true⟩,
  ⟨some 25, .move (.tmp 24), none, true⟩,
  ⟨some 26, .move (.tmp 1), some (25, false), true⟩,
  ⟨some 27, .move (.tmp 5), some (25, false), true⟩,
  ⟨some 28, .call { callee := .builtin .len, args := #[.tmp 27], argTypes := #[23] }, some (25, false), true⟩,
  ⟨some 29, .binOp .sub 3 (.tmp 28) (.const (.int .i64 1)) 3, some (25, false), true⟩,
  ⟨some 30, .binOp .geq 3 (.tmp 26) (.tmp 29) 3, some (25, false), true⟩,
  ⟨some 31, .pick (.tmp 25) (.const (.bool true)) (.tmp 30), none, true⟩]
theorem k6_r4_e : type_of% (@Eo_of P pr N e σ Q _ _ k6_r4.eq_1) := Eo_of k6_r4.eq_1
def k6_r5 : List COp := [
  ⟨some 4, .assign (.const (.bool true)), none, true⟩]
theorem k6_r5_e : type_of% (@Eo_of P pr N e σ Q _ _ k6_r5.eq_1) := Eo_of k6_r5.eq_1
def k6_r6 : List COp := [
  ⟨some 33, .move (.tmp 0), none, true⟩,
  ⟨some 34, .move (.tmp 5), none, true⟩,
  ⟨some 35, .move (.tmp 1), none, true⟩,
  ⟨some 36, .binOp .add 3 (.tmp 35) (.const (.int .i64 1)) 3, none, true⟩,
  ⟨some 37, .indexAddr 23 (.tmp 34) (.tmp 36), none, true⟩,
  ⟨some 38, .fieldAddr 32 (.tmp 37) 3, none, true⟩,
  ⟨some 39, .load 3 (.tmp 38), none, true⟩,
  ⟨some 40, .slice 9 (.tmp 33) .none (some (.tmp 39)) .none, none, true⟩,
  ⟨some 41, .call { callee := .value (.func 8), args := #[.tmp 40], argTypes := #[9] }, none, true⟩,
  ⟨some 32, .move (.tmp 41), none, true⟩,
  ⟨some 42, .extract (.tmp 32) 0, none, true⟩,
  ⟨some 43, .extract (.tmp 32) 1, none, true⟩,
  ⟨some 44, .extract (.tmp 32) 2, none, true⟩,
  ⟨some 8, .assign (.tmp 42), none, true⟩,
  ⟨some 9, .assign (.tmp 43), none, true⟩,
  ⟨some 10, .assign (.tmp 44), none, true⟩]
theorem k6_r6_e : type_of% (@Eo_of P pr N e σ Q _ _ k6_r6.eq_1) := Eo_of k6_r6.eq_1
def k6_r7 : List COp := [
  ⟨some 45, .move (.tmp 10), none, true⟩,
  ⟨some 46, .binOp .eql 24 (.tmp 45) (.const (.int .i64 0)) 24, none, true⟩,
  ⟨some 47, .move (.tmp 46), none, true⟩,
  ⟨some 48, .move (.tmp 8), some (47, true), false⟩,
  ⟨some 49, .call { callee := .builtin .len, args := #[.tmp 48], argTypes := #[23] }, some (47, true), false⟩,
  ⟨some 50, .move (.tmp 1), some (47, true), true⟩,
  ⟨some 51, .binOp .add 3 (.tmp 50) (.const (.int .i64 2)) 3, some (47, true), true⟩,
  ⟨some 52, .binOp .eql 3 (.tmp 49) (.tmp 51) 3, some (47, true), true⟩,
  ⟨some 53, .pick (.tmp 47) (.tmp 52) (.const (.bool false)), none, true⟩,
  ⟨some 54, .move (.tmp 53), none, true⟩,
  ⟨some 55, .move (.tmp 8), some (54, true), false⟩,
  ⟨some 56, .move (.tmp 1), some (54, true), false⟩,
  ⟨some 57, .binOp .add 3 (.tmp 56) (.const (.int .i64 1)) 3, some (54, true), false⟩,
  ⟨some 58, .slice 23 (.tmp 55) .none (some (.tmp 57)) .none, some (54, true), false⟩,
  ⟨some 59, .move (.tmp 5), some (54, true), false⟩,
  ⟨some 60, .move (.tmp 1), some (54, true), true⟩,
  ⟨some 61, .binOp .add 3 (.tmp 60) (.const (.int .i64 1)) 3, some (54, true), true⟩,
  ⟨some 62, .slice 23 (.tmp 59) .none (some (.tmp 61)) .none, some (54, true), true⟩,
  ⟨some 63, .call { callee := .value (.func 10), args := #[.tmp 58, .tmp 62], argTypes := #[23, 23] }, some (54, true), true⟩,
  ⟨some 64, .pick (.tmp 54) (.tmp 63) (.const (.bool false)), none, true⟩,
  ⟨some 65, .move (.tmp 64), none, true⟩,
  ⟨some 66, .move (.tmp 8), some (65, true), false⟩,
  ⟨some 67, .move (.tmp 1), some (65, true), true⟩,
  ⟨some 68, .binOp .add 3 (.tmp 67) (.const (.int .i64 1)) 3, some (65, true), true⟩,
  ⟨some 69, .indexAddr 23 (.tmp 66) (.tmp 68), some (65, true), true⟩,
  ⟨some 70, .fieldAddr 32 (.tmp 69) 0, some (65, true), true⟩,
  ⟨some 71, .load 3 (.tmp 70), some (65, true), true⟩,
  ⟨some 72, .binOp .eql 3 (.tmp 71) (.const (.int .i64 5)) 3, some (65, true), true⟩,
  ⟨some 73, .pick (.tmp 65) (.tmp 72) (.const (.bool false)), none, true⟩,
  ⟨some 74, .move (.tmp 73), none, true⟩,
  ⟨some 75, .move (.tmp 8), some (74, true), false⟩,
  ⟨some 76, .move (.tmp 1), some (74, true), false⟩,
  ⟨some 77, .binOp .add 3 (.tmp 76) (.const (.int .i64 1)) 3, some (74, true), false⟩,
  ⟨some 78, .indexAddr 23 (.tmp 75) (.tmp 77), some (74, true), false⟩,
  ⟨some 79, .fieldAddr 32 (.tmp 78) 3, some (74, true), false⟩,
  ⟨some 80, .load 3 (.tmp 79), some (74, true), false⟩,
  ⟨some 81, .move (.tmp 5), some (74, true), false⟩,
  ⟨some 82, .move (.tmp 1), some (74, true), true⟩,
  ⟨some 83, .binOp .add 3 (.tmp 82) (.const (.int .i64 1)) 3, some (74, true), true⟩,
  ⟨some 84, .indexAddr 23 (.tmp 81) (.tmp 83), some (74, true), true⟩,
  ⟨some 85, .fieldAddr 32 (.tmp 84) 3, some (74, true), true⟩,
  ⟨some 86, .load 3 (.tmp 85), some (74, true), true⟩,
  ⟨some 87, .binOp .eql 3 (.tmp 80) (.tmp 86) 3, some (74, true), true⟩,
  ⟨some 88, .pick (.tmp 74) (.tmp 87) (.const (.bool false)), none, true⟩,
  ⟨some 4, .assign (.tmp 88), none, true⟩]
theorem k6_r7_e : type_of% (@Eo_of P pr N e σ Q _ _ k6_r7.eq_1) := Eo_of k6_r7.eq_1
def k6 : CC := (.seq (.region k6_r0) (.seq (.seq (.region k6_r1) (.cond (.tmp 12) (.seq (.region k6_r2) .ret) .skip)) (.seq (.region k6_r3) (.seq (.seq (.region k6_r4) (.cond (.tmp 31) (.seq (.region k6_r5) .ret) .skip)) (.seq (.region k6_r6) (.seq (.region k6_r7) .ret))))))
theorem k6_e : type_of% (@Ev_of P pr N e σ Q _ _ k6.eq_1) := Ev_of k6.eq_1
theorem k6_a : type_of% @k6_e ∧ type_of% @k6_r0_e ∧ type_of% @k6_r1_e ∧ type_of% @k6_r2_e ∧ type_of% @k6_r3_e ∧ type_of% @k6_r4_e ∧ type_of% @k6_r5_e ∧ type_of% @k6_r6_e ∧ type_of% @k6_r7_e := ⟨@k6_e, @k6_r0_e, @k6_r1_e, @k6_r2_e, @k6_r3_e, @k6_r4_e, @k6_r5_e, @k6_r6_e, @k6_r7_e⟩
/-- quern/quernlaw06.LexCuts -/
theorem k6_is : FnIs Try.prog prims 6 89 [ResultVar.tmp 4] k6 := FnIs.of_fn Try.func6 (by kernel_rfl) rfl
theorem noSB : isSB Try.prog 3 = false ∧ isSB Try.prog 23 = false ∧ isSB Try.prog 24 = false ∧ isSB Try.prog 30 = false ∧ isSB Try.prog 32 = false ∧ isSB Try.prog 39 = false ∧ True := ⟨by kernel_rfl, by kernel_rfl, by kernel_rfl, by kernel_rfl, by kernel_rfl, by kernel_rfl, trivial⟩
theorem yesSB : isSB Try.prog 54 = true := by kernel_rfl
end Go.Proofs.Ytodcajpeilgfgaa.Q
