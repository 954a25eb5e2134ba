/- The code of some functions without its ornaments. Written by gen.py. -/
import Derived.Test.YtmcadfejkcpblaaQp
import Derived.Test.YtmcadfejkcpblaaQmd
import Derived.Test.YtmcadfejkcpblaaChecked
import Derived.Test.YtmcadfejkcpblaaPr
set_option maxRecDepth 100000
namespace Go.Proofs.Ytmcadfejkcpblaa.Q
open Go Go.RowKit Go.Proofs
variable {P : Program} {pr : Prim} {N : Nat} {e : Nat → V} {σ : St} {Q : VX → (Nat → V) → St → Prop} {QQ : QD} {SS : QS} {m : Pn}
def k9_r0 : List COp := [
  ⟨some 4, .assign (.const (.bool false)), none, true⟩]
theorem k9_r0_e : type_of% (@Eo_of P pr N e σ Q _ _ k9_r0.eq_1) := Eo_of k9_r0.eq_1
def k9_r1 : List COp := [
  ⟨some 19, .call { callee := .value (.func 11), args := #[], argTypes := #[] }, none, true⟩,
  ⟨some 20, .unOp .not 4 (.tmp 19), none, true⟩]
theorem k9_r1_e : type_of% (@Eo_of P pr N e σ Q _ _ k9_r1.eq_1) := Eo_of k9_r1.eq_1
def k9_r2 : List COp := [
  ⟨some 4, .assign (.const (.bool false)), none, true⟩]
theorem k9_r2_e : type_of% (@Eo_of P pr N e σ Q _ _ k9_r2.eq_1) := Eo_of k9_r2.eq_1
def k9_r3 : CC := (.hreg [
  (true, ⟨some 21, .buildSlice 22 0 #[], none, true⟩),
  (false, ⟨some 22, .move (.tmp 0), none, true⟩),
  (true, ⟨some 23, .call { callee := .builtin .append, args := #[.tmp 21, .tmp 22], argTypes := #[22, 22] }, none, true⟩),
  (true, ⟨some 24, .buildSlice 22 3 #[(0, .const (.int .u8 71)), (1, .const (.int .u8 72)), (2, .const (.int .u8 73))], none, true⟩),
  (true, ⟨some 25, .call { callee := .builtin .append, args := #[.tmp 23, .tmp 24], argTypes := #[22, 22] }, none, true⟩),
  (false, ⟨some 5, .assign (.tmp 25), none, true⟩)])
theorem k9_r3_e : type_of% (@Ev_of P pr N e σ Q _ _ k9_r3.eq_1) := Ev_of k9_r3.eq_1
def k9_r4 : List COp := [
  ⟨some 26, .buildSlice 30 0 #[], none, true⟩,
  ⟨some 27, .move (.tmp 1), none, true⟩,
  ⟨some 28, .call { callee := .builtin .append, args := #[.tmp 26, .tmp 27], argTypes := #[30, 30] }, none, true⟩,
  ⟨some 6, .assign (.tmp 28), none, true⟩]
theorem k9_r4_e : type_of% (@Eo_of P pr N e σ Q _ _ k9_r4.eq_1) := Eo_of k9_r4.eq_1
def k9_r5 : List COp := [
  ⟨some 29, .move (.tmp 5), none, true⟩,
  ⟨some 30, .move (.tmp 0), none, true⟩,
  ⟨some 31, .call { callee := .builtin .len, args := #[.tmp 30], argTypes := #[22] }, none, true⟩,
  ⟨some 32, .slice 22 (.tmp 29) .none (some (.tmp 31)) .none, none, true⟩,
  ⟨some 33, .move (.tmp 6), none, true⟩,
  ⟨some 34, .call { callee := .value (.func 14), args := #[.tmp 32, .tmp 33], argTypes := #[22, 30] }, none, true⟩,
  ⟨some 7, .assign (.tmp 34), none, true⟩]
theorem k9_r5_e : type_of% (@Eo_of P pr N e σ Q _ _ k9_r5.eq_1) := Eo_of k9_r5.eq_1
def k9_r6 : List COp := [
  ⟨some 35, .move (.tmp 5), none, true⟩,
  ⟨some 36, .move (.tmp 0), none, true⟩,
  ⟨some 37, .call { callee := .builtin .len, args := #[.tmp 36], argTypes := #[22] }, none, true⟩,
  ⟨some 38, .slice 22 (.tmp 35) .none (some (.tmp 37)) .none, none, true⟩,
  ⟨some 39, .move (.tmp 6), none, true⟩,
  ⟨some 40, .call { callee := .value (.func 14), args := #[.tmp 38, .tmp 39], argTypes := #[22, 30] }, none, true⟩,
  ⟨some 8, .assign (.tmp 40), none, true⟩]
theorem k9_r6_e : type_of% (@Eo_of P pr N e σ Q _ _ k9_r6.eq_1) := Eo_of k9_r6.eq_1
def k9_r7 : List COp := [
  ⟨some 41, .move (.tmp 5), none, true⟩,
  ⟨some 42, .move (.tmp 0), none, true⟩,
  ⟨some 43, .call { callee := .builtin .len, args := #[.tmp 42], argTypes := #[22] }, none, true⟩,
  ⟨some 44, .slice 22 (.tmp 41) .none (some (.tmp 43)) .none, none, true⟩,
  ⟨some 45, .call { callee := .value (.func 19), args := #[.tmp 44], argTypes := #[22] }, none, true⟩,
  ⟨some 9, .assign (.tmp 45), none, true⟩]
theorem k9_r7_e : type_of% (@Eo_of P pr N e σ Q _ _ k9_r7.eq_1) := Eo_of k9_r7.eq_1
def k9_r8 : List COp := [
  ⟨some 46, .move (.tmp 5), none, true⟩,
  ⟨some 47, .move (.tmp 0), none, true⟩,
  ⟨some 48, .call { callee := .builtin .len, args := #[.tmp 47], argTypes := #[22] }, none, true⟩,
  ⟨some 49, .slice 22 (.tmp 46) .none (some (.tmp 48)) .none, none, true⟩,
  ⟨some 50, .call { callee := .value (.func 19), args := #[.tmp 49], argTypes := #[22] }, none, true⟩,
  ⟨some 10, .assign (.tmp 50), none, true⟩]
theorem k9_r8_e : type_of% (@Eo_of P pr N e σ Q _ _ k9_r8.eq_1) := Eo_of k9_r8.eq_1
def k9_r9 : List COp := [
  ⟨some 51, .move (.tmp 9), none, true⟩,
  ⟨some 52, .binOp .eql 40 (.tmp 51) (.const (.pointer .none)) 40, none, true⟩,
  ⟨some 53, .move (.tmp 52), none, true⟩,
  ⟨some 54, .move (.tmp 10), some (53, false), true⟩,
  ⟨some 55, .binOp .eql 40 (.tmp 54) (.const (.pointer .none)) 40, some (53, false), true⟩,
  ⟨some 56, .pick (.tmp 53) (.const (.bool true)) (.tmp 55), none, true⟩]
theorem k9_r9_e : type_of% (@Eo_of P pr N e σ Q _ _ k9_r9.eq_1) := Eo_of k9_r9.eq_1
def k9_r10 : List COp := [
  ⟨some 4, .assign (.const (.bool false)), none, true⟩]
theorem k9_r10_e : type_of% (@Eo_of P pr N e σ Q _ _ k9_r10.eq_1) := Eo_of k9_r10.eq_1
def k9_r11 : List COp := [
  ⟨some 57, .move (.tmp 9), none, true⟩,
  ⟨some 58, .move (.tmp 0), none, true⟩,
  ⟨some 59, .call { callee := .builtin .len, args := #[.tmp 58], argTypes := #[22] }, none, true⟩,
  ⟨some 60, .call { callee := .value (.func 20), args := #[.tmp 57, .tmp 59], argTypes := #[40, 3] }, none, true⟩,
  ⟨some 11, .assign (.tmp 60), none, true⟩]
theorem k9_r11_e : type_of% (@Eo_of P pr N e σ Q _ _ k9_r11.eq_1) := Eo_of k9_r11.eq_1
def k9_r12 : List COp := [
  ⟨some 61, .move (.tmp 5), none, true⟩,
  ⟨some 62, .move (.tmp 0), none, true⟩,
  ⟨some 63, .call { callee := .builtin .len, args := #[.tmp 62], argTypes := #[22] }, none, true⟩,
  ⟨some 64, .slice 22 (.tmp 61) .none (some (.tmp 63)) .none, none, true⟩,
  ⟨some 65, .move (.tmp 0), none, true⟩,
  ⟨some 66, .call { callee := .value (.func 15), args := #[.tmp 64, .tmp 65], argTypes := #[22, 22] }, none, true⟩,
  ⟨some 67, .unOp .not 4 (.tmp 66), none, true⟩,
  ⟨some 68, .move (.tmp 67), none, true⟩,
  ⟨some 69, .move (.tmp 5), some (68, false), true⟩,
  ⟨some 70, .move (.tmp 0), some (68, false), true⟩,
  ⟨some 71, .call { callee := .builtin .len, args := #[.tmp 70], argTypes := #[22] }, some (68, false), true⟩,
  ⟨some 72, .indexAddr 22 (.tmp 69) (.tmp 71), some (68, false), true⟩,
  ⟨some 73, .load 5 (.tmp 72), some (68, false), true⟩,
  ⟨some 74, .binOp .neq 5 (.tmp 73) (.const (.int .u8 71)) 5, some (68, false), true⟩,
  ⟨some 75, .pick (.tmp 68) (.const (.bool true)) (.tmp 74), none, true⟩,
  ⟨some 76, .move (.tmp 75), none, true⟩,
  ⟨some 77, .move (.tmp 5), some (76, false), true⟩,
  ⟨some 78, .move (.tmp 0), some (76, false), true⟩,
  ⟨some 79, .call { callee := .builtin .len, args := #[.tmp 78], argTypes := #[22] }, some (76, false), true⟩,
  ⟨some 80, .binOp .add 3 (.tmp 79) (.const (.int .i64 1)) 3, some (76, false), true⟩,
  ⟨some 81, .indexAddr 22 (.tmp 77) (.tmp 80), some (76, false), true⟩,
  ⟨some 82, .load 5 (.tmp 81), some (76, false), true⟩,
  ⟨some 83, .binOp .neq 5 (.tmp 82) (.const (.int .u8 72)) 5, some (76, false), true⟩,
  ⟨some 84, .pick (.tmp 76) (.const (.bool true)) (.tmp 83), none, true⟩,
  ⟨some 85, .move (.tmp 84), none, true⟩,
  ⟨some 86, .move (.tmp 5), some (85, false), true⟩,
  ⟨some 87, .move (.tmp 0), some (85, false), true⟩,
  ⟨some 88, .call { callee := .builtin .len, args := #[.tmp 87], argTypes := #[22] }, some (85, false), true⟩,
  ⟨some 89, .binOp .add 3 (.tmp 88) (.const (.int .i64 2)) 3, some (85, false), true⟩,
  ⟨some 90, .indexAddr 22 (.tmp 86) (.tmp 89), some (85, false), true⟩,
  ⟨some 91, .load 5 (.tmp 90), some (85, false), true⟩,
  ⟨some 92, .binOp .neq 5 (.tmp 91) (.const (.int .u8 73)) 5, some (85, false), true⟩,
  ⟨some 93, .pick (.tmp 85) (.const (.bool true)) (.tmp 92), none, true⟩,
  ⟨some 94, .move (.tmp 93), none, true⟩,
  ⟨some 95, .move (.tmp 7), some (94, false), true⟩,
  ⟨some 96, .move (.tmp 8), some (94, false), true⟩,
  ⟨some 97, .call { callee := .value (.func 15), args := #[.tmp 95, .tmp 96], argTypes := #[22, 22] }, some (94, false), true⟩,
  ⟨some 98, .unOp .not 4 (.tmp 97), some (94, false), true⟩,
  ⟨some 99, .pick (.tmp 94) (.const (.bool true)) (.tmp 98), none, true⟩]
theorem k9_r12_e : type_of% (@Eo_of P pr N e σ Q _ _ k9_r12.eq_1) := Eo_of k9_r12.eq_1
def k9_r13 : List COp := [
  ⟨some 4, .assign (.const (.bool false)), none, true⟩]
theorem k9_r13_e : type_of% (@Eo_of P pr N e σ Q _ _ k9_r13.eq_1) := Eo_of k9_r13.eq_1
def k9_r14 : List COp := [
  ⟨some 100, .move (.tmp 6), none, true⟩,
  ⟨some 101, .call { callee := .builtin .len, args := #[.tmp 100], argTypes := #[30] }, none, true⟩,
  ⟨some 102, .move (.const (.int .i64 0)), none, true⟩]
theorem k9_r14_e : type_of% (@Eo_of P pr N e σ Q _ _ k9_r14.eq_1) := Eo_of k9_r14.eq_1
def k9_r15 : List COp := [
  ⟨some 103, .binOp .lss 3 (.tmp 102) (.tmp 101) 3, none, true⟩]
theorem k9_r15_e : type_of% (@Eo_of P pr N e σ Q _ _ k9_r15.eq_1) := Eo_of k9_r15.eq_1
def k9_r16 : List COp := [
  ⟨some 104, .move (.tmp 102), none, true⟩,
  ⟨some 12, .assign (.tmp 104), none, true⟩]
theorem k9_r16_e : type_of% (@Eo_of P pr N e σ Q _ _ k9_r16.eq_1) := Eo_of k9_r16.eq_1
def k9_r17 : List COp := [
  ⟨some 105, .move (.tmp 6), none, false⟩,
  ⟨some 106, .move (.tmp 12), none, false⟩,
  ⟨some 107, .indexAddr 30 (.tmp 105) (.tmp 106), none, false⟩,
  ⟨some 108, .load 3 (.tmp 107), none, false⟩,
  ⟨some 109, .move (.tmp 1), none, false⟩,
  ⟨some 110, .move (.tmp 12), none, true⟩,
  ⟨some 111, .indexAddr 30 (.tmp 109) (.tmp 110), none, true⟩,
  ⟨some 112, .load 3 (.tmp 111), none, true⟩,
  ⟨some 113, .binOp .neq 3 (.tmp 108) (.tmp 112) 3, none, true⟩]
theorem k9_r17_e : type_of% (@Eo_of P pr N e σ Q _ _ k9_r17.eq_1) := Eo_of k9_r17.eq_1
def k9_r18 : List COp := [
  ⟨some 4, .assign (.const (.bool false)), none, true⟩]
theorem k9_r18_e : type_of% (@Eo_of P pr N e σ Q _ _ k9_r18.eq_1) := Eo_of k9_r18.eq_1
def k9_r19 : List COp := [
  ⟨some 114, .binOp .add 3 (.tmp 102) (.const (.int .i64 1)) 3, none, true⟩,
  ⟨some 102, .move (.tmp 114), none, true⟩]
theorem k9_r19_e : type_of% (@Eo_of P pr N e σ Q _ _ k9_r19.eq_1) := Eo_of k9_r19.eq_1
def k9_l0 : CC := (.seq (.region k9_r15) (.seq (.cond (.tmp 103) .skip (.exit 0)) (.seq (.block 1 (.seq (.region k9_r16) (.seq (.region k9_r17) (.cond (.tmp 113) (.seq (.region k9_r18) .ret) .skip)))) (.region k9_r19))))
theorem k9_l0_e : type_of% (@Ev_of P pr N e σ Q _ _ k9_l0.eq_1) := Ev_of k9_l0.eq_1
def k9_r20 : List COp := [
  ⟨some 115, .buildSlice 22 0 #[], none, true⟩,
  ⟨some 116, .move (.tmp 8), none, true⟩,
  ⟨some 117, .call { callee := .builtin .append, args := #[.tmp 115, .tmp 116], argTypes := #[22, 22] }, none, true⟩,
  ⟨some 13, .assign (.tmp 117), none, true⟩]
theorem k9_r20_e : type_of% (@Eo_of P pr N e σ Q _ _ k9_r20.eq_1) := Eo_of k9_r20.eq_1
def k9_r21 : List COp := [
  ⟨some 118, .move (.tmp 5), none, true⟩,
  ⟨some 119, .call { callee := .builtin .len, args := #[.tmp 118], argTypes := #[22] }, none, true⟩,
  ⟨some 120, .move (.const (.int .i64 0)), none, true⟩]
theorem k9_r21_e : type_of% (@Eo_of P pr N e σ Q _ _ k9_r21.eq_1) := Eo_of k9_r21.eq_1
def k9_r22 : List COp := [
  ⟨some 121, .binOp .lss 3 (.tmp 120) (.tmp 119) 3, none, true⟩]
theorem k9_r22_e : type_of% (@Eo_of P pr N e σ Q _ _ k9_r22.eq_1) := Eo_of k9_r22.eq_1
def k9_r23 : List COp := [
  ⟨some 122, .move (.tmp 120), none, true⟩,
  ⟨some 14, .assign (.tmp 122), none, true⟩]
theorem k9_r23_e : type_of% (@Eo_of P pr N e σ Q _ _ k9_r23.eq_1) := Eo_of k9_r23.eq_1
def k9_r24 : List COp := [
  ⟨some 123, .move (.tmp 5), none, true⟩,
  ⟨some 124, .move (.tmp 14), none, true⟩,
  ⟨some 125, .indexAddr 22 (.tmp 123) (.tmp 124), none, true⟩,
  ⟨none, .store 5 (.tmp 125) (.const (.int .u8 99)), none, true⟩]
theorem k9_r24_e : type_of% (@Eo_of P pr N e σ Q _ _ k9_r24.eq_1) := Eo_of k9_r24.eq_1
def k9_r25 : List COp := [
  ⟨some 126, .binOp .add 3 (.tmp 120) (.const (.int .i64 1)) 3, none, true⟩,
  ⟨some 120, .move (.tmp 126), none, true⟩]
theorem k9_r25_e : type_of% (@Eo_of P pr N e σ Q _ _ k9_r25.eq_1) := Eo_of k9_r25.eq_1
def k9_l1 : CC := (.seq (.region k9_r22) (.seq (.cond (.tmp 121) .skip (.exit 2)) (.seq (.block 3 (.seq (.region k9_r23) (.region k9_r24))) (.region k9_r25))))
theorem k9_l1_e : type_of% (@Ev_of P pr N e σ Q _ _ k9_l1.eq_1) := Ev_of k9_l1.eq_1
def k9_r26 : List COp := [
  ⟨some 127, .move (.tmp 7), none, true⟩,
  ⟨some 128, .call { callee := .builtin .len, args := #[.tmp 127], argTypes := #[22] }, none, true⟩,
  ⟨some 129, .move (.const (.int .i64 0)), none, true⟩]
theorem k9_r26_e : type_of% (@Eo_of P pr N e σ Q _ _ k9_r26.eq_1) := Eo_of k9_r26.eq_1
def k9_r27 : List COp := [
  ⟨some 130, .binOp .lss 3 (.tmp 129) (.tmp 128) 3, none, true⟩]
theorem k9_r27_e : type_of% (@Eo_of P pr N e σ Q _ _ k9_r27.eq_1) := Eo_of k9_r27.eq_1
def k9_r28 : List COp := [
  ⟨some 131, .move (.tmp 129), none, true⟩,
  ⟨some 15, .assign (.tmp 131), none, true⟩]
theorem k9_r28_e : type_of% (@Eo_of P pr N e σ Q _ _ k9_r28.eq_1) := Eo_of k9_r28.eq_1
def k9_r29 : List COp := [
  ⟨some 132, .move (.tmp 7), none, true⟩,
  ⟨some 133, .move (.tmp 15), none, true⟩,
  ⟨some 134, .indexAddr 22 (.tmp 132) (.tmp 133), none, true⟩,
  ⟨none, .store 5 (.tmp 134) (.const (.int .u8 98)), none, true⟩]
theorem k9_r29_e : type_of% (@Eo_of P pr N e σ Q _ _ k9_r29.eq_1) := Eo_of k9_r29.eq_1
def k9_r30 : List COp := [
  ⟨some 135, .binOp .add 3 (.tmp 129) (.const (.int .i64 1)) 3, none, true⟩,
  ⟨some 129, .move (.tmp 135), none, true⟩]
theorem k9_r30_e : type_of% (@Eo_of P pr N e σ Q _ _ k9_r30.eq_1) := Eo_of k9_r30.eq_1
def k9_l2 : CC := (.seq (.region k9_r27) (.seq (.cond (.tmp 130) .skip (.exit 4)) (.seq (.block 5 (.seq (.region k9_r28) (.region k9_r29))) (.region k9_r30))))
theorem k9_l2_e : type_of% (@Ev_of P pr N e σ Q _ _ k9_l2.eq_1) := Ev_of k9_l2.eq_1
def k9_r31 : List COp := [
  ⟨some 136, .move (.tmp 7), none, true⟩,
  ⟨some 16, .assign (.tmp 136), none, true⟩]
theorem k9_r31_e : type_of% (@Eo_of P pr N e σ Q _ _ k9_r31.eq_1) := Eo_of k9_r31.eq_1
def k9_r32 : List COp := [
  ⟨some 17, .assign (.const (.int .i64 0)), none, true⟩]
theorem k9_r32_e : type_of% (@Eo_of P pr N e σ Q _ _ k9_r32.eq_1) := Eo_of k9_r32.eq_1
def k9_r33 : List COp := [
  ⟨some 137, .move (.tmp 17), none, true⟩,
  ⟨some 138, .binOp .lss 3 (.tmp 137) (.const (.int .i64 40)) 3, none, true⟩]
theorem k9_r33_e : type_of% (@Eo_of P pr N e σ Q _ _ k9_r33.eq_1) := Eo_of k9_r33.eq_1
def k9_r35 : CC := (.hreg [
  (false, ⟨some 141, .move (.tmp 16), none, true⟩),
  (true, ⟨some 142, .buildSlice 22 1 #[(0, .const (.int .u8 97))], none, true⟩),
  (true, ⟨some 143, .call { callee := .builtin .append, args := #[.tmp 141, .tmp 142], argTypes := #[22, 22] }, none, true⟩),
  (false, ⟨some 16, .assign (.tmp 143), none, true⟩)])
theorem k9_r35_e : type_of% (@Ev_of P pr N e σ Q _ _ k9_r35.eq_1) := Ev_of k9_r35.eq_1
def k9_r34 : List COp := [
  ⟨some 139, .move (.tmp 17), none, true⟩,
  ⟨some 140, .binOp .add 3 (.tmp 139) (.const (.int .i64 1)) 3, none, true⟩,
  ⟨some 17, .assign (.tmp 140), none, true⟩]
theorem k9_r34_e : type_of% (@Eo_of P pr N e σ Q _ _ k9_r34.eq_1) := Eo_of k9_r34.eq_1
def k9_l3 : CC := (.seq (.seq (.region k9_r33) (.cond (.tmp 138) .skip (.exit 6))) (.seq (.block 7 k9_r35) (.region k9_r34)))
theorem k9_l3_e : type_of% (@Ev_of P pr N e σ Q _ _ k9_l3.eq_1) := Ev_of k9_l3.eq_1
def k9_r36 : List COp := [
  ⟨some 144, .move (.tmp 8), none, true⟩,
  ⟨some 145, .move (.tmp 13), none, true⟩,
  ⟨some 146, .call { callee := .value (.func 15), args := #[.tmp 144, .tmp 145], argTypes := #[22, 22] }, none, true⟩,
  ⟨some 147, .unOp .not 4 (.tmp 146), none, true⟩,
  ⟨some 148, .move (.tmp 147), none, true⟩,
  ⟨some 149, .move (.tmp 11), some (148, false), true⟩,
  ⟨some 150, .move (.tmp 0), some (148, false), true⟩,
  ⟨some 151, .call { callee := .value (.func 15), args := #[.tmp 149, .tmp 150], argTypes := #[22, 22] }, some (148, false), true⟩,
  ⟨some 152, .unOp .not 4 (.tmp 151), some (148, false), true⟩,
  ⟨some 153, .pick (.tmp 148) (.const (.bool true)) (.tmp 152), none, true⟩]
theorem k9_r36_e : type_of% (@Eo_of P pr N e σ Q _ _ k9_r36.eq_1) := Eo_of k9_r36.eq_1
def k9_r37 : List COp := [
  ⟨some 4, .assign (.const (.bool false)), none, true⟩]
theorem k9_r37_e : type_of% (@Eo_of P pr N e σ Q _ _ k9_r37.eq_1) := Eo_of k9_r37.eq_1
def k9_r38 : List COp := [
  ⟨some 154, .move (.tmp 11), none, true⟩,
  ⟨some 155, .call { callee := .builtin .len, args := #[.tmp 154], argTypes := #[22] }, none, true⟩,
  ⟨some 156, .move (.const (.int .i64 0)), none, true⟩]
theorem k9_r38_e : type_of% (@Eo_of P pr N e σ Q _ _ k9_r38.eq_1) := Eo_of k9_r38.eq_1
def k9_r39 : List COp := [
  ⟨some 157, .binOp .lss 3 (.tmp 156) (.tmp 155) 3, none, true⟩]
theorem k9_r39_e : type_of% (@Eo_of P pr N e σ Q _ _ k9_r39.eq_1) := Eo_of k9_r39.eq_1
def k9_r40 : List COp := [
  ⟨some 158, .move (.tmp 156), none, true⟩,
  ⟨some 18, .assign (.tmp 158), none, true⟩]
theorem k9_r40_e : type_of% (@Eo_of P pr N e σ Q _ _ k9_r40.eq_1) := Eo_of k9_r40.eq_1
def k9_r41 : List COp := [
  ⟨some 159, .move (.tmp 11), none, true⟩,
  ⟨some 160, .move (.tmp 18), none, true⟩,
  ⟨some 161, .indexAddr 22 (.tmp 159) (.tmp 160), none, true⟩,
  ⟨none, .store 5 (.tmp 161) (.const (.int .u8 55)), none, true⟩]
theorem k9_r41_e : type_of% (@Eo_of P pr N e σ Q _ _ k9_r41.eq_1) := Eo_of k9_r41.eq_1
def k9_r42 : List COp := [
  ⟨some 162, .binOp .add 3 (.tmp 156) (.const (.int .i64 1)) 3, none, true⟩,
  ⟨some 156, .move (.tmp 162), none, true⟩]
theorem k9_r42_e : type_of% (@Eo_of P pr N e σ Q _ _ k9_r42.eq_1) := Eo_of k9_r42.eq_1
def k9_l4 : CC := (.seq (.region k9_r39) (.seq (.cond (.tmp 157) .skip (.exit 8)) (.seq (.block 9 (.seq (.region k9_r40) (.region k9_r41))) (.region k9_r42))))
theorem k9_l4_e : type_of% (@Ev_of P pr N e σ Q _ _ k9_l4.eq_1) := Ev_of k9_l4.eq_1
def k9_r43 : List COp := [
  ⟨some 163, .move (.tmp 16), none, true⟩,
  ⟨some 164, .call { callee := .builtin .len, args := #[.tmp 163], argTypes := #[22] }, none, true⟩,
  ⟨some 165, .move (.tmp 7), none, true⟩,
  ⟨some 166, .call { callee := .builtin .len, args := #[.tmp 165], argTypes := #[22] }, none, true⟩,
  ⟨some 167, .binOp .add 3 (.tmp 166) (.const (.int .i64 40)) 3, none, true⟩,
  ⟨some 168, .binOp .eql 3 (.tmp 164) (.tmp 167) 3, none, true⟩,
  ⟨some 169, .move (.tmp 168), none, true⟩,
  ⟨some 170, .move (.tmp 10), some (169, true), true⟩,
  ⟨some 171, .move (.tmp 0), some (169, true), true⟩,
  ⟨some 172, .call { callee := .builtin .len, args := #[.tmp 171], argTypes := #[22] }, some (169, true), true⟩,
  ⟨some 173, .call { callee := .value (.func 20), args := #[.tmp 170, .tmp 172], argTypes := #[40, 3] }, some (169, true), true⟩,
  ⟨some 174, .move (.tmp 0), some (169, true), true⟩,
  ⟨some 175, .call { callee := .value (.func 15), args := #[.tmp 173, .tmp 174], argTypes := #[22, 22] }, some (169, true), true⟩,
  ⟨some 176, .pick (.tmp 169) (.tmp 175) (.const (.bool false)), none, true⟩,
  ⟨some 177, .move (.tmp 176), none, true⟩,
  ⟨some 178, .move (.tmp 10), some (177, true), true⟩,
  ⟨some 179, .call { callee := .value (.func 21), args := #[.tmp 178], argTypes := #[40] }, some (177, true), true⟩,
  ⟨some 180, .pick (.tmp 177) (.tmp 179) (.const (.bool false)), none, true⟩,
  ⟨some 4, .assign (.tmp 180), none, true⟩]
theorem k9_r43_e : type_of% (@Eo_of P pr N e σ Q _ _ k9_r43.eq_1) := Eo_of k9_r43.eq_1
def k9 : CC := (.seq (.region k9_r0) (.seq (.seq (.region k9_r1) (.cond (.tmp 20) (.seq (.region k9_r2) .ret) .skip)) (.seq k9_r3 (.seq (.region k9_r4) (.seq (.region k9_r5) (.seq (.region k9_r6) (.seq (.region k9_r7) (.seq (.region k9_r8) (.seq (.seq (.region k9_r9) (.cond (.tmp 56) (.seq (.region k9_r10) .ret) .skip)) (.seq (.region k9_r11) (.seq (.seq (.region k9_r12) (.cond (.tmp 99) (.seq (.region k9_r13) .ret) .skip)) (.seq (.seq (.region k9_r14) (.block 0 (.loop k9_l0))) (.seq (.region k9_r20) (.seq (.seq (.region k9_r21) (.block 2 (.loop k9_l1))) (.seq (.seq (.region k9_r26) (.block 4 (.loop k9_l2))) (.seq (.region k9_r31) (.seq (.seq (.region k9_r32) (.block 6 (.loop k9_l3))) (.seq (.seq (.region k9_r36) (.cond (.tmp 153) (.seq (.region k9_r37) .ret) .skip)) (.seq (.seq (.region k9_r38) (.block 8 (.loop k9_l4))) (.seq (.region k9_r43) .ret))))))))))))))))))))
theorem k9_e : type_of% (@Ev_of P pr N e σ Q _ _ k9.eq_1) := Ev_of k9.eq_1
theorem k9_a : type_of% @k9_e ∧ type_of% @k9_r0_e ∧ type_of% @k9_r1_e ∧ type_of% @k9_r2_e ∧ type_of% @k9_r3_e ∧ type_of% @k9_r4_e ∧ type_of% @k9_r5_e ∧ type_of% @k9_r6_e ∧ type_of% @k9_r7_e ∧ type_of% @k9_r8_e ∧ type_of% @k9_r9_e ∧ type_of% @k9_r10_e ∧ type_of% @k9_r11_e ∧ type_of% @k9_r12_e ∧ type_of% @k9_r13_e ∧ type_of% @k9_r14_e ∧ type_of% @k9_r15_e ∧ type_of% @k9_r16_e ∧ type_of% @k9_r17_e ∧ type_of% @k9_r18_e ∧ type_of% @k9_r19_e ∧ type_of% @k9_l0_e ∧ type_of% @k9_r20_e ∧ type_of% @k9_r21_e ∧ type_of% @k9_r22_e ∧ type_of% @k9_r23_e ∧ type_of% @k9_r24_e ∧ type_of% @k9_r25_e ∧ type_of% @k9_l1_e ∧ type_of% @k9_r26_e ∧ type_of% @k9_r27_e ∧ type_of% @k9_r28_e ∧ type_of% @k9_r29_e ∧ type_of% @k9_r30_e ∧ type_of% @k9_l2_e ∧ type_of% @k9_r31_e ∧ type_of% @k9_r32_e ∧ type_of% @k9_r33_e ∧ type_of% @k9_r35_e ∧ type_of% @k9_r34_e ∧ type_of% @k9_l3_e ∧ type_of% @k9_r36_e ∧ type_of% @k9_r37_e ∧ type_of% @k9_r38_e ∧ type_of% @k9_r39_e ∧ type_of% @k9_r40_e ∧ type_of% @k9_r41_e ∧ type_of% @k9_r42_e ∧ type_of% @k9_l4_e ∧ type_of% @k9_r43_e := ⟨@k9_e, @k9_r0_e, @k9_r1_e, @k9_r2_e, @k9_r3_e, @k9_r4_e, @k9_r5_e, @k9_r6_e, @k9_r7_e, @k9_r8_e, @k9_r9_e, @k9_r10_e, @k9_r11_e, @k9_r12_e, @k9_r13_e, @k9_r14_e, @k9_r15_e, @k9_r16_e, @k9_r17_e, @k9_r18_e, @k9_r19_e, @k9_l0_e, @k9_r20_e, @k9_r21_e, @k9_r22_e, @k9_r23_e, @k9_r24_e, @k9_r25_e, @k9_l1_e, @k9_r26_e, @k9_r27_e, @k9_r28_e, @k9_r29_e, @k9_r30_e, @k9_l2_e, @k9_r31_e, @k9_r32_e, @k9_r33_e, @k9_r35_e, @k9_r34_e, @k9_l3_e, @k9_r36_e, @k9_r37_e, @k9_r38_e, @k9_r39_e, @k9_r40_e, @k9_r41_e, @k9_r42_e, @k9_l4_e, @k9_r43_e⟩
/-- quern/quernlaw01.PackMemory -/
theorem k9_is : FnIs Try.prog prims 9 181 [ResultVar.tmp 4] k9 := FnIs.of_fn Try.func9 (by kernel_rfl) rfl
def k11_r0 : List COp := [
  ⟨some 0, .assign (.const (.bool false)), none, true⟩]
theorem k11_r0_e : type_of% (@Eo_of P pr N e σ Q _ _ k11_r0.eq_1) := Eo_of k11_r0.eq_1
def k11_r1 : List COp := [
  ⟨some 4, .buildSlice 22 3 #[(0, .const (.int .u8 172)), (1, .const (.int .u8 2)), (2, .const (.int .u8 7))], none, true⟩,
  ⟨some 5, .call { callee := .value (.func 12), args := #[.tmp 4], argTypes := #[22] }, none, true⟩,
  ⟨some 3, .move (.tmp 5), none, true⟩,
  ⟨some 6, .extract (.tmp 3) 0, none, true⟩,
  ⟨some 7, .extract (.tmp 3) 1, none, true⟩,
  ⟨some 1, .assign (.tmp 6), none, true⟩,
  ⟨some 2, .assign (.tmp 7), none, true⟩]
theorem k11_r1_e : type_of% (@Eo_of P pr N e σ Q _ _ k11_r1.eq_1) := Eo_of k11_r1.eq_1
def k11_r2 : List COp := [
  ⟨some 8, .move (.tmp 1), none, true⟩,
  ⟨some 9, .binOp .eql 3 (.tmp 8) (.const (.int .i64 300)) 3, none, true⟩,
  ⟨some 10, .move (.tmp 9), none, true⟩,
  ⟨some 11, .move (.tmp 2), some (10, true), true⟩,
  ⟨some 12, .binOp .eql 3 (.tmp 11) (.const (.int .i64 2)) 3, some (10, true), true⟩,
  ⟨some 13, .pick (.tmp 10) (.tmp 12) (.const (.bool false)), none, true⟩,
  ⟨some 14, .move (.tmp 13), none, true⟩,
  ⟨some 15, .buildSlice 30 4 #[(0, .const (.int .i64 0)), (1, .const (.int .i64 127)), (2, .const (.int .i64 128)), (3, .const (.int .i64 300))], some (14, true), true⟩,
  ⟨some 16, .call { callee := .value (.func 14), args := #[.const (.slice .none 0 0), .tmp 15], argTypes := #[22, 30] }, some (14, true), true⟩,
  ⟨some 17, .buildSlice 22 6 #[(0, .const (.int .u8 0)), (1, .const (.int .u8 127)), (2, .const (.int .u8 128)), (3, .const (.int .u8 1)), (4, .const (.int .u8 172)), (5, .const (.int .u8 2))], some (14, true), true⟩,
  ⟨some 18, .call { callee := .value (.func 15), args := #[.tmp 16, .tmp 17], argTypes := #[22, 22] }, some (14, true), true⟩,
  ⟨some 19, .pick (.tmp 14) (.tmp 18) (.const (.bool false)), none, true⟩,
  ⟨some 0, .assign (.tmp 19), none, true⟩]
theorem k11_r2_e : type_of% (@Eo_of P pr N e σ Q _ _ k11_r2.eq_1) := Eo_of k11_r2.eq_1
def k11 : CC := (.seq (.region k11_r0) (.seq (.region k11_r1) (.seq (.region k11_r2) .ret)))
theorem k11_e : type_of% (@Ev_of P pr N e σ Q _ _ k11.eq_1) := Ev_of k11.eq_1
theorem k11_a : type_of% @k11_e ∧ type_of% @k11_r0_e ∧ type_of% @k11_r1_e ∧ type_of% @k11_r2_e := ⟨@k11_e, @k11_r0_e, @k11_r1_e, @k11_r2_e⟩
/-- quern/quernlaw01.wakes -/
theorem k11_is : FnIs Try.prog prims 11 20 [ResultVar.tmp 0] k11 := FnIs.of_fn Try.func11 (by kernel_rfl) rfl
def k12_r0 : List COp := [
  ⟨some 2, .assign (.const (.int .i64 0)), none, true⟩,
  ⟨some 3, .assign (.const (.int .i64 0)), none, true⟩]
theorem k12_r0_e : type_of% (@Eo_of P pr N e σ Q _ _ k12_r0.eq_1) := Eo_of k12_r0.eq_1
def k12_r1 : List COp := [
  ⟨some 4, .assign (.const (.int .i64 0)), none, true⟩]
theorem k12_r1_e : type_of% (@Eo_of P pr N e σ Q _ _ k12_r1.eq_1) := Eo_of k12_r1.eq_1
def k12_r2 : List COp := [
  ⟨some 5, .assign (.const (.int .i64 0)), none, true⟩]
theorem k12_r2_e : type_of% (@Eo_of P pr N e σ Q _ _ k12_r2.eq_1) := Eo_of k12_r2.eq_1
def k12_r3 : List COp := [
  ⟨some 6, .move (.tmp 5), none, true⟩,
  ⟨some 7, .move (.tmp 0), none, true⟩,
  ⟨some 8, .call { callee := .builtin .len, args := #[.tmp 7], argTypes := #[22] }, none, true⟩,
  ⟨some 9, .binOp .lss 3 (.tmp 6) (.tmp 8) 3, none, true⟩,
  ⟨some 10, .move (.tmp 9), none, true⟩,
  ⟨some 11, .move (.tmp 5), some (10, true), true⟩,
  ⟨some 12, .binOp .lss 3 (.tmp 11) (.const (.int .i64 9)) 3, some (10, true), true⟩,
  ⟨some 13, .pick (.tmp 10) (.tmp 12) (.const (.bool false)), none, true⟩]
theorem k12_r3_e : type_of% (@Eo_of P pr N e σ Q _ _ k12_r3.eq_1) := Eo_of k12_r3.eq_1
def k12_r5 : List COp := [
  ⟨some 16, .move (.tmp 4), none, true⟩,
  ⟨some 17, .move (.tmp 0), none, true⟩,
  ⟨some 18, .move (.tmp 5), none, true⟩,
  ⟨some 19, .indexAddr 22 (.tmp 17) (.tmp 18), none, true⟩,
  ⟨some 20, .load 5 (.tmp 19), none, true⟩,
  ⟨some 21, .binOp .and 5 (.tmp 20) (.const (.int .u8 127)) 5, none, true⟩,
  ⟨some 22, .convert 5 3 (.tmp 21), none, true⟩,
  ⟨some 23, .move (.tmp 5), none, true⟩,
  ⟨some 24, .binOp .mul 3 (.const (.int .i64 7)) (.tmp 23) 3, none, true⟩,
  ⟨some 25, .binOp .shl 3 (.tmp 22) (.tmp 24) 3, none, true⟩,
  ⟨some 26, .binOp .or 3 (.tmp 16) (.tmp 25) 3, none, true⟩,
  ⟨some 4, .assign (.tmp 26), none, true⟩]
theorem k12_r5_e : type_of% (@Eo_of P pr N e σ Q _ _ k12_r5.eq_1) := Eo_of k12_r5.eq_1
def k12_r6 : List COp := [
  ⟨some 27, .move (.tmp 0), none, true⟩,
  ⟨some 28, .move (.tmp 5), none, true⟩,
  ⟨some 29, .indexAddr 22 (.tmp 27) (.tmp 28), none, true⟩,
  ⟨some 30, .load 5 (.tmp 29), none, true⟩,
  ⟨some 31, .binOp .gtr 5 (.tmp 30) (.const (.int .u8 127)) 5, none, true⟩]
theorem k12_r6_e : type_of% (@Eo_of P pr N e σ Q _ _ k12_r6.eq_1) := Eo_of k12_r6.eq_1
def k12_r7 : List COp := [
  ⟨some 32, .move (.tmp 0), none, true⟩,
  ⟨some 33, .move (.tmp 5), none, true⟩,
  ⟨some 34, .indexAddr 22 (.tmp 32) (.tmp 33), none, true⟩,
  ⟨some 35, .load 5 (.tmp 34), none, true⟩,
  ⟨some 36, .binOp .eql 5 (.tmp 35) (.const (.int .u8 0)) 5, none, true⟩,
  ⟨some 37, .move (.tmp 36), none, true⟩,
  ⟨some 38, .move (.tmp 5), some (37, true), true⟩,
  ⟨some 39, .binOp .gtr 3 (.tmp 38) (.const (.int .i64 0)) 3, some (37, true), true⟩,
  ⟨some 40, .pick (.tmp 37) (.tmp 39) (.const (.bool false)), none, true⟩]
theorem k12_r7_e : type_of% (@Eo_of P pr N e σ Q _ _ k12_r7.eq_1) := Eo_of k12_r7.eq_1
def k12_r8 : List COp := [
  ⟨some 41, .move (.tmp 4), none, true⟩,
  ⟨some 42, .move (.tmp 5), none, true⟩,
  ⟨some 43, .binOp .add 3 (.tmp 42) (.const (.int .i64 1)) 3, none, true⟩,
  ⟨some 2, .assign (.tmp 41), none, true⟩,
  ⟨some 3, .assign (.tmp 43), none, true⟩]
theorem k12_r8_e : type_of% (@Eo_of P pr N e σ Q _ _ k12_r8.eq_1) := Eo_of k12_r8.eq_1
def k12_r4 : List COp := [
  ⟨some 14, .move (.tmp 5), none, true⟩,
  ⟨some 15, .binOp .add 3 (.tmp 14) (.const (.int .i64 1)) 3, none, true⟩,
  ⟨some 5, .assign (.tmp 15), none, true⟩]
theorem k12_r4_e : type_of% (@Eo_of P pr N e σ Q _ _ k12_r4.eq_1) := Eo_of k12_r4.eq_1
def k12_l0 : CC := (.seq (.seq (.region k12_r3) (.cond (.tmp 13) .skip (.exit 0))) (.seq (.block 1 (.seq (.region k12_r5) (.seq (.seq (.region k12_r6) (.cond (.tmp 31) (.exit 1) .skip)) (.seq (.seq (.region k12_r7) (.cond (.tmp 40) (.exit 0) .skip)) (.seq (.region k12_r8) .ret))))) (.region k12_r4)))
theorem k12_l0_e : type_of% (@Ev_of P pr N e σ Q _ _ k12_l0.eq_1) := Ev_of k12_l0.eq_1
def k12_r9 : List COp := [
  ⟨some 2, .assign (.const (.int .i64 0)), none, true⟩,
  ⟨some 3, .assign (.const (.int .i64 0)), none, true⟩]
theorem k12_r9_e : type_of% (@Eo_of P pr N e σ Q _ _ k12_r9.eq_1) := Eo_of k12_r9.eq_1
def k12 : CC := (.seq (.region k12_r0) (.seq (.region k12_r1) (.seq (.seq (.region k12_r2) (.block 0 (.loop k12_l0))) (.seq (.region k12_r9) .ret))))
theorem k12_e : type_of% (@Ev_of P pr N e σ Q _ _ k12.eq_1) := Ev_of k12.eq_1
theorem k12_a : type_of% @k12_e ∧ type_of% @k12_r0_e ∧ type_of% @k12_r1_e ∧ type_of% @k12_r2_e ∧ type_of% @k12_r3_e ∧ type_of% @k12_r5_e ∧ type_of% @k12_r6_e ∧ type_of% @k12_r7_e ∧ type_of% @k12_r8_e ∧ type_of% @k12_r4_e ∧ type_of% @k12_l0_e ∧ type_of% @k12_r9_e := ⟨@k12_e, @k12_r0_e, @k12_r1_e, @k12_r2_e, @k12_r3_e, @k12_r5_e, @k12_r6_e, @k12_r7_e, @k12_r8_e, @k12_r4_e, @k12_l0_e, @k12_r9_e⟩
/-- quern/pack.Take -/
theorem k12_is : FnIs Try.prog prims 12 44 [ResultVar.tmp 2, ResultVar.tmp 3] k12 := FnIs.of_fn Try.func12 (by kernel_rfl) rfl
def k14_r0 : List COp := [
  ⟨some 4, .assign (.const (.slice .none 0 0)), none, true⟩]
theorem k14_r0_e : type_of% (@Eo_of P pr N e σ Q _ _ k14_r0.eq_1) := Eo_of k14_r0.eq_1
def k14_r1 : CC := (.hreg [
  (false, ⟨some 8, .move (.tmp 0), none, true⟩),
  (false, ⟨some 9, .call { callee := .builtin .len, args := #[.tmp 8], argTypes := #[22] }, none, true⟩),
  (false, ⟨some 10, .move (.tmp 1), none, true⟩),
  (false, ⟨some 11, .call { callee := .builtin .len, args := #[.tmp 10], argTypes := #[30] }, none, true⟩),
  (false, ⟨some 12, .binOp .mul 3 (.const (.int .i64 2)) (.tmp 11) 3, none, true⟩),
  (false, ⟨some 13, .binOp .add 3 (.tmp 9) (.tmp 12) 3, none, true⟩),
  (true, ⟨some 14, .makeSlice 22 (.const (.int .i64 0)) (.tmp 13), none, true⟩),
  (false, ⟨some 15, .move (.tmp 0), none, true⟩),
  (true, ⟨some 16, .call { callee := .builtin .append, args := #[.tmp 14, .tmp 15], argTypes := #[22, 22] }, none, true⟩),
  (false, ⟨some 5, .assign (.tmp 16), none, true⟩)])
theorem k14_r1_e : type_of% (@Ev_of P pr N e σ Q _ _ k14_r1.eq_1) := Ev_of k14_r1.eq_1
def k14_r2 : List COp := [
  ⟨some 17, .move (.tmp 1), none, true⟩,
  ⟨some 18, .call { callee := .builtin .len, args := #[.tmp 17], argTypes := #[30] }, none, true⟩,
  ⟨some 19, .move (.const (.int .i64 0)), none, true⟩]
theorem k14_r2_e : type_of% (@Eo_of P pr N e σ Q _ _ k14_r2.eq_1) := Eo_of k14_r2.eq_1
def k14_r3 : List COp := [
  ⟨some 20, .binOp .lss 3 (.tmp 19) (.tmp 18) 3, none, true⟩]
theorem k14_r3_e : type_of% (@Eo_of P pr N e σ Q _ _ k14_r3.eq_1) := Eo_of k14_r3.eq_1
def k14_r4 : List COp := [
  ⟨some 21, .indexAddr 30 (.tmp 17) (.tmp 19), none, true⟩,
  ⟨some 22, .load 3 (.tmp 21), none, true⟩,
  ⟨some 7, .assign (.tmp 22), none, true⟩]
theorem k14_r4_e : type_of% (@Eo_of P pr N e σ Q _ _ k14_r4.eq_1) := Eo_of k14_r4.eq_1
def k14_r5 : List COp := [
  ⟨some 23, .move (.tmp 7), none, true⟩,
  ⟨some 24, .call { callee := .builtin .max, args := #[.tmp 23, .const (.int .i64 0)], argTypes := #[3, 3] }, none, true⟩,
  ⟨some 7, .assign (.tmp 24), none, true⟩]
theorem k14_r5_e : type_of% (@Eo_of P pr N e σ Q _ _ k14_r5.eq_1) := Eo_of k14_r5.eq_1
def k14_r6 : List COp := [
  ⟨some 25, .move (.tmp 7), none, true⟩,
  ⟨some 26, .binOp .gtr 3 (.tmp 25) (.const (.int .i64 127)) 3, none, true⟩]
theorem k14_r6_e : type_of% (@Eo_of P pr N e σ Q _ _ k14_r6.eq_1) := Eo_of k14_r6.eq_1
def k14_r8 : CC := (.hreg [
  (false, ⟨some 29, .move (.tmp 5), none, true⟩),
  (false, ⟨some 30, .move (.tmp 7), none, true⟩),
  (false, ⟨some 31, .binOp .and 3 (.tmp 30) (.const (.int .i64 127)) 3, none, true⟩),
  (false, ⟨some 32, .binOp .or 3 (.tmp 31) (.const (.int .i64 128)) 3, none, true⟩),
  (false, ⟨some 33, .convert 3 5 (.tmp 32), none, true⟩),
  (true, ⟨some 34, .buildSlice 22 1 #[(0, .tmp 33)], none, true⟩),
  (true, ⟨some 35, .call { callee := .builtin .append, args := #[.tmp 29, .tmp 34], argTypes := #[22, 22] }, none, true⟩),
  (false, ⟨some 5, .assign (.tmp 35), none, true⟩)])
theorem k14_r8_e : type_of% (@Ev_of P pr N e σ Q _ _ k14_r8.eq_1) := Ev_of k14_r8.eq_1
def k14_r7 : List COp := [
  ⟨some 27, .move (.tmp 7), none, true⟩,
  ⟨some 28, .binOp .shr 3 (.tmp 27) (.const (.int .u64 7)) 52, none, true⟩,
  ⟨some 7, .assign (.tmp 28), none, true⟩]
theorem k14_r7_e : type_of% (@Eo_of P pr N e σ Q _ _ k14_r7.eq_1) := Eo_of k14_r7.eq_1
def k14_l1 : CC := (.seq (.seq (.region k14_r6) (.cond (.tmp 26) .skip (.exit 2))) (.seq (.block 3 k14_r8) (.region k14_r7)))
theorem k14_l1_e : type_of% (@Ev_of P pr N e σ Q _ _ k14_l1.eq_1) := Ev_of k14_l1.eq_1
def k14_r9 : CC := (.hreg [
  (false, ⟨some 36, .move (.tmp 5), none, true⟩),
  (false, ⟨some 37, .move (.tmp 7), none, true⟩),
  (false, ⟨some 38, .convert 3 5 (.tmp 37), none, true⟩),
  (true, ⟨some 39, .buildSlice 22 1 #[(0, .tmp 38)], none, true⟩),
  (true, ⟨some 40, .call { callee := .builtin .append, args := #[.tmp 36, .tmp 39], argTypes := #[22, 22] }, none, true⟩),
  (false, ⟨some 5, .assign (.tmp 40), none, true⟩)])
theorem k14_r9_e : type_of% (@Ev_of P pr N e σ Q _ _ k14_r9.eq_1) := Ev_of k14_r9.eq_1
def k14_r10 : List COp := [
  ⟨some 41, .binOp .add 3 (.tmp 19) (.const (.int .i64 1)) 3, none, true⟩,
  ⟨some 19, .move (.tmp 41), none, true⟩]
theorem k14_r10_e : type_of% (@Eo_of P pr N e σ Q _ _ k14_r10.eq_1) := Eo_of k14_r10.eq_1
def k14_l0 : CC := (.seq (.region k14_r3) (.seq (.cond (.tmp 20) .skip (.exit 0)) (.seq (.block 1 (.seq (.region k14_r4) (.seq (.region k14_r5) (.seq (.block 2 (.loop k14_l1)) k14_r9)))) (.region k14_r10))))
theorem k14_l0_e : type_of% (@Ev_of P pr N e σ Q _ _ k14_l0.eq_1) := Ev_of k14_l0.eq_1
def k14_r11 : List COp := [
  ⟨some 42, .move (.tmp 5), none, true⟩,
  ⟨some 4, .assign (.tmp 42), none, true⟩]
theorem k14_r11_e : type_of% (@Eo_of P pr N e σ Q _ _ k14_r11.eq_1) := Eo_of k14_r11.eq_1
def k14 : CC := (.seq (.region k14_r0) (.seq k14_r1 (.seq (.seq (.region k14_r2) (.block 0 (.loop k14_l0))) (.seq (.region k14_r11) .ret))))
theorem k14_e : type_of% (@Ev_of P pr N e σ Q _ _ k14.eq_1) := Ev_of k14.eq_1
theorem k14_a : type_of% @k14_e ∧ type_of% @k14_r0_e ∧ type_of% @k14_r1_e ∧ type_of% @k14_r2_e ∧ type_of% @k14_r3_e ∧ type_of% @k14_r4_e ∧ type_of% @k14_r5_e ∧ type_of% @k14_r6_e ∧ type_of% @k14_r8_e ∧ type_of% @k14_r7_e ∧ type_of% @k14_l1_e ∧ type_of% @k14_r9_e ∧ type_of% @k14_r10_e ∧ type_of% @k14_l0_e ∧ type_of% @k14_r11_e := ⟨@k14_e, @k14_r0_e, @k14_r1_e, @k14_r2_e, @k14_r3_e, @k14_r4_e, @k14_r5_e, @k14_r6_e, @k14_r8_e, @k14_r7_e, @k14_l1_e, @k14_r9_e, @k14_r10_e, @k14_l0_e, @k14_r11_e⟩
/-- quern/pack.Put -/
theorem k14_is : FnIs Try.prog prims 14 43 [ResultVar.tmp 4] k14 := FnIs.of_fn Try.func14 (by kernel_rfl) rfl
def k15_r0 : List COp := [
  ⟨some 4, .assign (.const (.bool false)), none, true⟩]
theorem k15_r0_e : type_of% (@Eo_of P pr N e σ Q _ _ k15_r0.eq_1) := Eo_of k15_r0.eq_1
def k15_r1 : List COp := [
  ⟨some 6, .move (.tmp 0), none, true⟩,
  ⟨some 7, .call { callee := .builtin .len, args := #[.tmp 6], argTypes := #[22] }, none, true⟩,
  ⟨some 8, .move (.tmp 1), none, true⟩,
  ⟨some 9, .call { callee := .builtin .len, args := #[.tmp 8], argTypes := #[22] }, none, true⟩,
  ⟨some 10, .binOp .neq 3 (.tmp 7) (.tmp 9) 3, none, true⟩]
theorem k15_r1_e : type_of% (@Eo_of P pr N e σ Q _ _ k15_r1.eq_1) := Eo_of k15_r1.eq_1
def k15_r2 : List COp := [
  ⟨some 4, .assign (.const (.bool false)), none, true⟩]
theorem k15_r2_e : type_of% (@Eo_of P pr N e σ Q _ _ k15_r2.eq_1) := Eo_of k15_r2.eq_1
def k15_r3 : List COp := [
  ⟨some 11, .move (.tmp 0), none, true⟩,
  ⟨some 12, .call { callee := .builtin .len, args := #[.tmp 11], argTypes := #[22] }, none, true⟩,
  ⟨some 13, .move (.const (.int .i64 0)), none, true⟩]
theorem k15_r3_e : type_of% (@Eo_of P pr N e σ Q _ _ k15_r3.eq_1) := Eo_of k15_r3.eq_1
def k15_r4 : List COp := [
  ⟨some 14, .binOp .lss 3 (.tmp 13) (.tmp 12) 3, none, true⟩]
theorem k15_r4_e : type_of% (@Eo_of P pr N e σ Q _ _ k15_r4.eq_1) := Eo_of k15_r4.eq_1
def k15_r5 : List COp := [
  ⟨some 15, .move (.tmp 13), none, true⟩,
  ⟨some 5, .assign (.tmp 15), none, true⟩]
theorem k15_r5_e : type_of% (@Eo_of P pr N e σ Q _ _ k15_r5.eq_1) := Eo_of k15_r5.eq_1
def k15_r6 : List COp := [
  ⟨some 16, .move (.tmp 0), none, false⟩,
  ⟨some 17, .move (.tmp 5), none, false⟩,
  ⟨some 18, .indexAddr 22 (.tmp 16) (.tmp 17), none, false⟩,
  ⟨some 19, .load 5 (.tmp 18), none, false⟩,
  ⟨some 20, .move (.tmp 1), none, false⟩,
  ⟨some 21, .move (.tmp 5), none, true⟩,
  ⟨some 22, .indexAddr 22 (.tmp 20) (.tmp 21), none, true⟩,
  ⟨some 23, .load 5 (.tmp 22), none, true⟩,
  ⟨some 24, .binOp .neq 5 (.tmp 19) (.tmp 23) 5, none, true⟩]
theorem k15_r6_e : type_of% (@Eo_of P pr N e σ Q _ _ k15_r6.eq_1) := Eo_of k15_r6.eq_1
def k15_r7 : List COp := [
  ⟨some 4, .assign (.const (.bool false)), none, true⟩]
theorem k15_r7_e : type_of% (@Eo_of P pr N e σ Q _ _ k15_r7.eq_1) := Eo_of k15_r7.eq_1
def k15_r8 : List COp := [
  ⟨some 25, .binOp .add 3 (.tmp 13) (.const (.int .i64 1)) 3, none, true⟩,
  ⟨some 13, .move (.tmp 25), none, true⟩]
theorem k15_r8_e : type_of% (@Eo_of P pr N e σ Q _ _ k15_r8.eq_1) := Eo_of k15_r8.eq_1
def k15_l0 : CC := (.seq (.region k15_r4) (.seq (.cond (.tmp 14) .skip (.exit 0)) (.seq (.block 1 (.seq (.region k15_r5) (.seq (.region k15_r6) (.cond (.tmp 24) (.seq (.region k15_r7) .ret) .skip)))) (.region k15_r8))))
theorem k15_l0_e : type_of% (@Ev_of P pr N e σ Q _ _ k15_l0.eq_1) := Ev_of k15_l0.eq_1
def k15_r9 : List COp := [
  ⟨some 4, .assign (.const (.bool true)), none, true⟩]
theorem k15_r9_e : type_of% (@Eo_of P pr N e σ Q _ _ k15_r9.eq_1) := Eo_of k15_r9.eq_1
def k15 : CC := (.seq (.region k15_r0) (.seq (.seq (.region k15_r1) (.cond (.tmp 10) (.seq (.region k15_r2) .ret) .skip)) (.seq (.seq (.region k15_r3) (.block 0 (.loop k15_l0))) (.seq (.region k15_r9) .ret))))
theorem k15_e : type_of% (@Ev_of P pr N e σ Q _ _ k15.eq_1) := Ev_of k15.eq_1
theorem k15_a : type_of% @k15_e ∧ type_of% @k15_r0_e ∧ type_of% @k15_r1_e ∧ type_of% @k15_r2_e ∧ type_of% @k15_r3_e ∧ type_of% @k15_r4_e ∧ type_of% @k15_r5_e ∧ type_of% @k15_r6_e ∧ type_of% @k15_r7_e ∧ type_of% @k15_r8_e ∧ type_of% @k15_l0_e ∧ type_of% @k15_r9_e := ⟨@k15_e, @k15_r0_e, @k15_r1_e, @k15_r2_e, @k15_r3_e, @k15_r4_e, @k15_r5_e, @k15_r6_e, @k15_r7_e, @k15_r8_e, @k15_l0_e, @k15_r9_e⟩
/-- quern/quernlaw01.same -/
theorem k15_is : FnIs Try.prog prims 15 26 [ResultVar.tmp 4] k15 := FnIs.of_fn Try.func15 (by kernel_rfl) rfl
def k19_r0 : List COp := [
  ⟨some 2, .assign (.const (.pointer .none)), none, true⟩]
theorem k19_r0_e : type_of% (@Eo_of P pr N e σ Q _ _ k19_r0.eq_1) := Eo_of k19_r0.eq_1
def k19_r1 : List COp := [
  ⟨some 3, .buildSlice 22 0 #[], none, true⟩,
  ⟨some 4, .move (.tmp 0), none, true⟩,
  ⟨some 5, .call { callee := .builtin .append, args := #[.tmp 3, .tmp 4], argTypes := #[22, 22] }, none, true⟩,
  ⟨some 6, .build 54 #[(0, .tmp 5)], none, true⟩,
  ⟨some 7, .box 54 (.tmp 6), none, true⟩,
  ⟨some 2, .assign (.tmp 7), none, true⟩]
theorem k19_r1_e : type_of% (@Eo_of P pr N e σ Q _ _ k19_r1.eq_1) := Eo_of k19_r1.eq_1
def k19 : CC := (.seq (.region k19_r0) (.seq (.region k19_r1) .ret))
theorem k19_e : type_of% (@Ev_of P pr N e σ Q _ _ k19.eq_1) := Ev_of k19.eq_1
theorem k19_a : type_of% @k19_e ∧ type_of% @k19_r0_e ∧ type_of% @k19_r1_e := ⟨@k19_e, @k19_r0_e, @k19_r1_e⟩
/-- quern/pack.New -/
theorem k19_is : FnIs Try.prog prims 19 8 [ResultVar.tmp 2] k19 := FnIs.of_fn Try.func19 (by kernel_rfl) rfl
def k20_r0 : List COp := [
  ⟨some 4, .assign (.const (.slice .none 0 0)), none, true⟩]
theorem k20_r0_e : type_of% (@Eo_of P pr N e σ Q _ _ k20_r0.eq_1) := Eo_of k20_r0.eq_1
def k20_r1 : List COp := [
  ⟨some 6, .move (.tmp 0), none, true⟩,
  ⟨some 7, .binOp .eql 40 (.tmp 6) (.const (.pointer .none)) 40, none, true⟩,
  ⟨some 8, .move (.tmp 7), none, true⟩,
  ⟨some 9, .move (.tmp 0), some (8, false), true⟩,
  ⟨some 10, .nilCheck (.tmp 9), some (8, false), true⟩,
  ⟨some 11, .fieldAddr 54 (.tmp 10) 1, some (8, false), true⟩,
  ⟨some 12, .load 4 (.tmp 11), some (8, false), true⟩,
  ⟨some 13, .pick (.tmp 8) (.const (.bool true)) (.tmp 12), none, true⟩]
theorem k20_r1_e : type_of% (@Eo_of P pr N e σ Q _ _ k20_r1.eq_1) := Eo_of k20_r1.eq_1
def k20_r2 : List COp := [
  ⟨some 4, .assign (.const (.slice .none 0 0)), none, true⟩]
theorem k20_r2_e : type_of% (@Eo_of P pr N e σ Q _ _ k20_r2.eq_1) := Eo_of k20_r2.eq_1
def k20_r3 : List COp := [
  ⟨some 14, .move (.tmp 1), none, true⟩,
  ⟨some 15, .binOp .lss 3 (.tmp 14) (.const (.int .i64 0)) 3, none, true⟩,
  ⟨some 16, .move (.tmp 15), none, true⟩,
  ⟨some 17, .move (.tmp 1), some (16, false), true⟩,
  ⟨some 18, .move (.tmp 0), some (16, false), true⟩,
  ⟨some 19, .nilCheck (.tmp 18), some (16, false), true⟩,
  ⟨some 20, .fieldAddr 54 (.tmp 19) 0, some (16, false), true⟩,
  ⟨some 21, .load 22 (.tmp 20), some (16, false), true⟩,
  ⟨some 22, .call { callee := .builtin .len, args := #[.tmp 21], argTypes := #[22] }, some (16, false), true⟩,
  ⟨some 23, .binOp .gtr 3 (.tmp 17) (.tmp 22) 3, some (16, false), true⟩,
  ⟨some 24, .pick (.tmp 16) (.const (.bool true)) (.tmp 23), none, true⟩]
theorem k20_r3_e : type_of% (@Eo_of P pr N e σ Q _ _ k20_r3.eq_1) := Eo_of k20_r3.eq_1
def k20_r4 : List COp := [
  ⟨some 25, .move (.tmp 0), none, true⟩,
  ⟨some 26, .nilCheck (.tmp 25), none, true⟩,
  ⟨some 27, .fieldAddr 54 (.tmp 26) 1, none, true⟩,
  ⟨none, .store 4 (.tmp 27) (.const (.bool true)), none, true⟩]
theorem k20_r4_e : type_of% (@Eo_of P pr N e σ Q _ _ k20_r4.eq_1) := Eo_of k20_r4.eq_1
def k20_r5 : List COp := [
  ⟨some 4, .assign (.const (.slice .none 0 0)), none, true⟩]
theorem k20_r5_e : type_of% (@Eo_of P pr N e σ Q _ _ k20_r5.eq_1) := Eo_of k20_r5.eq_1
def k20_r6 : CC := (.hreg [
  (true, ⟨some 28, .buildSlice 22 0 #[], none, true⟩),
  (false, ⟨some 29, .move (.tmp 0), none, true⟩),
  (false, ⟨some 30, .nilCheck (.tmp 29), none, true⟩),
  (false, ⟨some 31, .fieldAddr 54 (.tmp 30) 0, none, true⟩),
  (false, ⟨some 32, .load 22 (.tmp 31), none, true⟩),
  (false, ⟨some 33, .move (.tmp 1), none, true⟩),
  (false, ⟨some 34, .slice 22 (.tmp 32) .none (some (.tmp 33)) .none, none, true⟩),
  (true, ⟨some 35, .call { callee := .builtin .append, args := #[.tmp 28, .tmp 34], argTypes := #[22, 22] }, none, true⟩),
  (false, ⟨some 5, .assign (.tmp 35), none, true⟩)])
theorem k20_r6_e : type_of% (@Ev_of P pr N e σ Q _ _ k20_r6.eq_1) := Ev_of k20_r6.eq_1
def k20_r7 : List COp := [
  ⟨some 36, .move (.tmp 0), none, true⟩,
  ⟨some 37, .move (.tmp 0), none, true⟩,
  ⟨some 38, .nilCheck (.tmp 37), none, true⟩,
  ⟨some 39, .fieldAddr 54 (.tmp 38) 0, none, true⟩,
  ⟨some 40, .load 22 (.tmp 39), none, true⟩,
  ⟨some 41, .move (.tmp 1), none, true⟩,
  ⟨some 42, .slice 22 (.tmp 40) (some (.tmp 41)) .none .none, none, true⟩,
  ⟨some 43, .nilCheck (.tmp 36), none, true⟩,
  ⟨some 44, .fieldAddr 54 (.tmp 43) 0, none, true⟩,
  ⟨none, .store 22 (.tmp 44) (.tmp 42), none, true⟩]
theorem k20_r7_e : type_of% (@Eo_of P pr N e σ Q _ _ k20_r7.eq_1) := Eo_of k20_r7.eq_1
def k20_r8 : List COp := [
  ⟨some 45, .move (.tmp 5), none, true⟩,
  ⟨some 4, .assign (.tmp 45), none, true⟩]
theorem k20_r8_e : type_of% (@Eo_of P pr N e σ Q _ _ k20_r8.eq_1) := Eo_of k20_r8.eq_1
def k20 : CC := (.seq (.region k20_r0) (.seq (.seq (.region k20_r1) (.cond (.tmp 13) (.seq (.region k20_r2) .ret) .skip)) (.seq (.seq (.region k20_r3) (.cond (.tmp 24) (.seq (.region k20_r4) (.seq (.region k20_r5) .ret)) .skip)) (.seq k20_r6 (.seq (.region k20_r7) (.seq (.region k20_r8) .ret))))))
theorem k20_e : type_of% (@Ev_of P pr N e σ Q _ _ k20.eq_1) := Ev_of k20.eq_1
theorem k20_a : type_of% @k20_e ∧ type_of% @k20_r0_e ∧ type_of% @k20_r1_e ∧ type_of% @k20_r2_e ∧ type_of% @k20_r3_e ∧ type_of% @k20_r4_e ∧ type_of% @k20_r5_e ∧ type_of% @k20_r6_e ∧ type_of% @k20_r7_e ∧ type_of% @k20_r8_e := ⟨@k20_e, @k20_r0_e, @k20_r1_e, @k20_r2_e, @k20_r3_e, @k20_r4_e, @k20_r5_e, @k20_r6_e, @k20_r7_e, @k20_r8_e⟩
/-- (*quern/pack.Reader).Bytes -/
theorem k20_is : FnIs Try.prog prims 20 46 [ResultVar.tmp 4] k20 := FnIs.of_fn Try.func20 (by kernel_rfl) rfl
def k21_r0 : List COp := [
  ⟨some 2, .assign (.const (.bool false)), none, true⟩]
theorem k21_r0_e : type_of% (@Eo_of P pr N e σ Q _ _ k21_r0.eq_1) := Eo_of k21_r0.eq_1
def k21_r1 : List COp := [
  ⟨some 3, .move (.tmp 0), none, true⟩,
  ⟨some 4, .binOp .neq 40 (.tmp 3) (.const (.pointer .none)) 40, none, true⟩,
  ⟨some 5, .move (.tmp 4), none, true⟩,
  ⟨some 6, .move (.tmp 0), some (5, true), true⟩,
  ⟨some 7, .nilCheck (.tmp 6), some (5, true), true⟩,
  ⟨some 8, .fieldAddr 54 (.tmp 7) 1, some (5, true), true⟩,
  ⟨some 9, .load 4 (.tmp 8), some (5, true), true⟩,
  ⟨some 10, .unOp .not 4 (.tmp 9), some (5, true), true⟩,
  ⟨some 11, .pick (.tmp 5) (.tmp 10) (.const (.bool false)), none, true⟩,
  ⟨some 12, .move (.tmp 11), none, true⟩,
  ⟨some 13, .move (.tmp 0), some (12, true), true⟩,
  ⟨some 14, .nilCheck (.tmp 13), some (12, true), true⟩,
  ⟨some 15, .fieldAddr 54 (.tmp 14) 0, some (12, true), true⟩,
  ⟨some 16, .load 22 (.tmp 15), some (12, true), true⟩,
  ⟨some 17, .call { callee := .builtin .len, args := #[.tmp 16], argTypes := #[22] }, some (12, true), true⟩,
  ⟨some 18, .binOp .eql 3 (.tmp 17) (.const (.int .i64 0)) 3, some (12, true), true⟩,
  ⟨some 19, .pick (.tmp 12) (.tmp 18) (.const (.bool false)), none, true⟩,
  ⟨some 2, .assign (.tmp 19), none, true⟩]
theorem k21_r1_e : type_of% (@Eo_of P pr N e σ Q _ _ k21_r1.eq_1) := Eo_of k21_r1.eq_1
def k21 : CC := (.seq (.region k21_r0) (.seq (.region k21_r1) .ret))
theorem k21_e : type_of% (@Ev_of P pr N e σ Q _ _ k21.eq_1) := Ev_of k21.eq_1
theorem k21_a : type_of% @k21_e ∧ type_of% @k21_r0_e ∧ type_of% @k21_r1_e := ⟨@k21_e, @k21_r0_e, @k21_r1_e⟩
/-- (*quern/pack.Reader).End -/
theorem k21_is : FnIs Try.prog prims 21 20 [ResultVar.tmp 2] k21 := FnIs.of_fn Try.func21 (by kernel_rfl) rfl
theorem noSB : True := trivial
end Go.Proofs.Ytmcadfejkcpblaa.Q
