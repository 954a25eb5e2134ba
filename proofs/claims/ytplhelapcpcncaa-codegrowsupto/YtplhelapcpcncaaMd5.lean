/- A part of the proof: Rc, Qq, Qr, Qs, Qt, Qu, Ta, Ro, Va, Ca, Cb, Cc, Cd, Tk, Tp, Vb, Vc, Vd, Vf. -/
import Derived.Test.YtplhelapcpcncaaMd4
import Derived.Test.YtplhelapcpcncaaChecked
/- The code of some functions without its ornaments. Written by gen.py. -/
set_option maxRecDepth 100000
namespace Go.Proofs.Ytplhelapcpcncaa.Q
open Go Go.RowKit Go.Proofs
variable {P : Program} {pr : Prim} {N : Nat} {e : Nat → V} {σ : St} {Q : VX → (Nat → V) → St → Prop} {QQ : QD} {SS : QS} {m : Pn}
def k3_r0 := [o 2 (.box 25 (.tmp 0)),
o 4 (pO false)]
def k3_r1 := [o 7 (.call { callee := .value (.func 8), args := #[], argTypes := #[] }),
o 8 (.unOp .not 4 (.tmp 7))]
def k3_r2 := [o 4 (pO false)]
def k3_r3 := [o 9 (pL 25 2),
o 10 (pC 9 9 25)]
def k3_r4 := [o 4 (pO true)]
def k3_r5 := [o 11 (pF 25 2 0),
o 12 (pL 22 11),
o 13 (pN 12 22),
o 14 (pW .i64 0)]
def k3_r6 := [o 15 (pB .lss 3 14 13 3)]
def k3_r7 := [o 16 (pI 22 12 14),
o 17 (pL 29 16),
o 6 (.alloc 29),
oS 29 6 17]
def k3_r8 : CC := (.wregion [
(true, oX 18 (pL 29 6)),
(false, oX 19 (pC 10 18 29)),
(true, o 20 (pL 29 6)),
(false, o 21 (pC 11 20 29)),
(false, o 22 (pB .neq 9 19 21 9))] false [(2, o 20 (pL 29 6), [0, 2])])
def k3_r9 := [o 4 (pO false)]
def k3_r10 := [o 23 (pK .add 3 14 .i64 1 3),
o 14 (pM 23)]
def k3_l0 : CC := (.seq (.region k3_r6) (.seq (.cond (.tmp 15) .skip (.exit 0)) (.seq (.block 1 (.seq (.region k3_r7) (.seq k3_r8 (.cond (.tmp 22) (.seq (.region k3_r9) .ret) .skip)))) (.region k3_r10))))
def k3_r11 : CC := (.wregion [
(true, oX 24 (pL 25 2)),
(false, oX 25 (pM 1)),
(false, oX 26 (pD 12 24 25 25 3)),
(true, oX 27 (pL 25 2)),
(false, o 28 (pM 1)),
(false, o 29 (pD 13 27 28 25 3)),
(false, o 30 (pB .eql 31 26 29 31)),
(false, o 4 (pA 30))] false [(3, oX 27 (pL 25 2), [0, 3])])
def k3 : CC := (.seq (.region k3_r0) (.seq (.seq (.region k3_r1) (.cond (.tmp 8) (.seq (.region k3_r2) .ret) .skip)) (.seq (.seq (.region k3_r3) (.cond (.tmp 10) (.seq (.region k3_r4) .ret) .skip)) (.seq (.seq (.region k3_r5) (.block 0 (.loop k3_l0))) (.seq k3_r11 .ret)))))
def k8_r0 := [o 0 (pO false)]
def k8_r1 := [o 4 (.build 39 #[(0, .const (.int .i64 1))]),
o 5 (.build 39 #[(0, .const (.int .i64 10))]),
o 6 (.buildSlice 35 2 #[(0, .tmp 4), (1, .tmp 5)]),
o 7 (pC 20 6 35),
o 8 (.call { callee := .value (.func 15), args := #[.tmp 7, .const (.int .i64 0)], argTypes := #[25, 3] }),
o 3 (pM 8),
o 9 (pX 3 0),
o 10 (pX 3 1),
o 1 (pA 9),
o 2 (pA 10)]
def k8_r2 := [o 11 (pM 2),
o 12 (pK .eql 31 11 .i64 0 31),
o 13 (pM 12),
oT 14 (pM 1) 13,
oT 15 (.convert 41 9 (.tmp 14)) 13,
oT 16 (.binOp .eql 9 (.tmp 15) (.const (.string { data := #[1, 1, 1, 0, 7, 0, 0, 0, 1, 2, 1, 0, 10, 0] })) 9) 13,
o 17 (pU 13 16),
o 18 (pM 17),
oT 19 (.build 39 #[(0, .const (.int .i64 1))]) 18,
oT 20 (.buildSlice 35 1 #[(0, .tmp 19)]) 18,
oT 21 (pC 20 20 35) 18,
oT 22 (.call { callee := .value (.func 12), args := #[.tmp 21, .const (.int .i64 0)], argTypes := #[25, 3] }) 18,
oT 23 (pK .eql 31 22 .i64 40 31) 18,
o 24 (pU 18 23),
o 25 (pM 24),
oT 26 (.build 39 #[(0, .const (.int .i64 10))]) 25,
oT 27 (.buildSlice 35 1 #[(0, .tmp 26)]) 25,
oT 28 (pC 20 27 35) 25,
oT 29 (.call { callee := .value (.func 12), args := #[.tmp 28, .const (.int .i64 0)], argTypes := #[25, 3] }) 25,
oT 30 (pK .eql 31 29 .i64 40 31) 25,
o 31 (pU 25 30),
o 32 (pM 31),
oT 33 (.build 39 #[(0, .const (.int .i64 1))]) 32,
oT 34 (.build 39 #[(0, .const (.int .i64 7))]) 32,
oT 35 (.buildSlice 35 2 #[(0, .tmp 33), (1, .tmp 34)]) 32,
oT 36 (pC 20 35 35) 32,
oT 37 (.call { callee := .value (.func 12), args := #[.tmp 36, .const (.int .i64 0)], argTypes := #[25, 3] }) 32,
oT 38 (pK .eql 31 37 .i64 40 31) 32,
o 39 (pU 32 38),
o 0 (pA 39)]
def k8 : CC := (.seq (.region k8_r0) (.seq (.region k8_r1) (.seq (.region k8_r2) .ret)))
def k9_r0 := [o 1 (.box 25 (.tmp 0)),
o 2 (pO false)]
def k9_r1 := [o 3 (pZ .i64 0)]
def k9_r2 := [o 10 (pF 25 1 1),
o 11 (pL 23 10),
o 12 (pN 11 23),
o 13 (pW .i64 0)]
def k9_r3 := [o 14 (pB .lss 3 13 12 3)]
def k9_r4 := [o 15 (pI 23 11 13),
o 16 (pL 37 15),
o 5 (.alloc 37),
oS 37 5 16]
def k9_r5 := [o 17 (pM 3),
o 18 (pF 37 5 4),
o 19 (pL 35 18),
o 20 (pN 19 35),
o 21 (.binOp .add 3 (.const (.int .i64 1)) (.tmp 20) 3),
o 22 (pB .add 3 17 21 3),
o 3 (pA 22)]
def k9_r6 := [o 23 (pM 3),
o 24 (pK .gtr 3 23 .i64 4096 3)]
def k9_r7 := [o 2 (pO true)]
def k9_r8 := [o 25 (pK .add 3 13 .i64 1 3),
o 13 (pM 25)]
def k9_l0 : CC := (.seq (.region k9_r3) (.seq (.cond (.tmp 14) .skip (.exit 0)) (.seq (.block 1 (.seq (.region k9_r4) (.seq (.region k9_r5) (.seq (.region k9_r6) (.cond (.tmp 24) (.seq (.region k9_r7) .ret) .skip))))) (.region k9_r8))))
def k9_r9 := [o 26 (pF 25 1 0),
o 27 (pL 22 26),
o 28 (pN 27 22),
o 29 (pW .i64 0)]
def k9_r10 := [o 30 (pB .lss 3 29 28 3)]
def k9_r11 := [o 31 (pI 22 27 29),
o 32 (pL 29 31),
o 7 (.alloc 29),
oS 29 7 32]
def k9_r12 := [o 33 (pM 3),
o 34 (pF 29 7 2),
o 35 (pL 9 34),
o 36 (pN 35 9),
o 37 (.binOp .add 3 (.const (.int .i64 1)) (.tmp 36) 3),
o 38 (pF 29 7 3),
o 39 (pL 22 38),
o 40 (pN 39 22),
o 41 (pB .add 3 37 40 3),
o 42 (pB .add 3 33 41 3),
o 3 (pA 42)]
def k9_r13 := [o 43 (pM 3),
o 44 (pK .gtr 3 43 .i64 8192 3)]
def k9_r14 := [o 2 (pO true)]
def k9_r15 := [o 45 (pF 29 7 3),
o 46 (pL 22 45),
o 47 (pN 46 22),
o 48 (pW .i64 0)]
def k9_r16 := [o 49 (pB .lss 3 48 47 3)]
def k9_r17 := [o 50 (pI 22 46 48),
o 51 (pL 29 50),
o 9 (.alloc 29),
oS 29 9 51]
def k9_r18 := [o 52 (pF 29 9 3),
o 53 (pL 22 52),
o 54 (pN 53 22),
o 55 (pK .gtr 3 54 .i64 0 3)]
def k9_r19 := [o 2 (pO true)]
def k9_r20 := [o 56 (pK .add 3 48 .i64 1 3),
o 48 (pM 56)]
def k9_l2 : CC := (.seq (.region k9_r16) (.seq (.cond (.tmp 49) .skip (.exit 4)) (.seq (.block 5 (.seq (.region k9_r17) (.seq (.region k9_r18) (.cond (.tmp 55) (.seq (.region k9_r19) .ret) .skip)))) (.region k9_r20))))
def k9_r21 := [o 57 (pK .add 3 29 .i64 1 3),
o 29 (pM 57)]
def k9_l1 : CC := (.seq (.region k9_r10) (.seq (.cond (.tmp 30) .skip (.exit 2)) (.seq (.block 3 (.seq (.region k9_r11) (.seq (.region k9_r12) (.seq (.seq (.region k9_r13) (.cond (.tmp 44) (.seq (.region k9_r14) .ret) .skip)) (.seq (.region k9_r15) (.block 4 (.loop k9_l2))))))) (.region k9_r21))))
def k9_r22 := [o 2 (pO false)]
def k9 : CC := (.seq (.region k9_r0) (.seq (.region k9_r1) (.seq (.seq (.region k9_r2) (.block 0 (.loop k9_l0))) (.seq (.seq (.region k9_r9) (.block 2 (.loop k9_l1))) (.seq (.region k9_r22) .ret)))))
def k9_p := PLift.up <| aI (vE k9.eq_1) <| aI (oE k9_r0.eq_1) <| aI (oE k9_r1.eq_1) <| aI (oE k9_r2.eq_1) <| aI (oE k9_r3.eq_1) <| aI (oE k9_r4.eq_1) <| aI (oE k9_r5.eq_1) <| aI (oE k9_r6.eq_1) <| aI (oE k9_r7.eq_1) <| aI (oE k9_r8.eq_1) <| aI (vE k9_l0.eq_1) <| aI (oE k9_r9.eq_1) <| aI (oE k9_r10.eq_1) <| aI (oE k9_r11.eq_1) <| aI (oE k9_r12.eq_1) <| aI (oE k9_r13.eq_1) <| aI (oE k9_r14.eq_1) <| aI (oE k9_r15.eq_1) <| aI (oE k9_r16.eq_1) <| aI (oE k9_r17.eq_1) <| aI (oE k9_r18.eq_1) <| aI (oE k9_r19.eq_1) <| aI (oE k9_r20.eq_1) <| aI (vE k9_l2.eq_1) <| aI (oE k9_r21.eq_1) <| aI (vE k9_l1.eq_1) (oE k9_r22.eq_1)
theorem k9_a : type_of% k9_p.down := k9_p.down
/-- quern/quernlaw13.large -/
theorem k9_is : FnIs Try.prog prims 9 58 [ResultVar.tmp 2] k9 := FnIs.of_fn Try.func9 (by kernel_rfl) rfl
def k10_r0 := [o 1 (.box 29 (.tmp 0)),
o 2 (.assign (.const (.string { data := #[] })))]
def k10_r1 := [o 5 (.buildSlice 49 5 #[(0, .const (.string { data := #[105, 110, 116] })), (1, .const (.string { data := #[98, 111, 111, 108] })), (2, .const (.string { data := #[116, 101, 120, 116] })), (3, .const (.string { data := #[91, 105, 110, 116, 93] })), (4, .const (.string { data := #[123, 105, 110, 116, 58, 105, 110, 116, 125] }))]),
o 6 (pN 5 49),
o 7 (pW .i64 0)]
def k10_r2 := [o 8 (pB .lss 3 7 6 3)]
def k10_r3 := [o 9 (pI 49 5 7),
o 10 (pL 9 9),
o 4 (pA 10)]
def k10_r4 := [o 11 (pF 29 1 3),
o 12 (pL 22 11),
o 13 (pN 12 22),
o 14 (pK .eql 3 13 .i64 0 3),
o 15 (pM 14),
oT 16 (pL 29 1) 15,
oT 17 (pM 4) 15,
oT 18 (pD 21 16 17 29 9) 15,
o 19 (pU 15 18)]
def k10_r5 := [o 20 (pM 4),
o 2 (pA 20)]
def k10_r6 := [o 21 (pK .add 3 7 .i64 1 3),
o 7 (pM 21)]
def k10_l0 : CC := (.seq (.region k10_r2) (.seq (.cond (.tmp 8) .skip (.exit 0)) (.seq (.block 1 (.seq (.region k10_r3) (.seq (.region k10_r4) (.cond (.tmp 19) (.seq (.region k10_r5) .ret) .skip)))) (.region k10_r6))))
def k10_r7 := [o 2 (.assign (.const (.string { data := #[] })))]
def k10 : CC := (.seq (.region k10_r0) (.seq (.seq (.region k10_r1) (.block 0 (.loop k10_l0))) (.seq (.region k10_r7) .ret)))
def k10_p := PLift.up <| aI (vE k10.eq_1) <| aI (oE k10_r0.eq_1) <| aI (oE k10_r1.eq_1) <| aI (oE k10_r2.eq_1) <| aI (oE k10_r3.eq_1) <| aI (oE k10_r4.eq_1) <| aI (oE k10_r5.eq_1) <| aI (oE k10_r6.eq_1) <| aI (vE k10_l0.eq_1) (oE k10_r7.eq_1)
theorem k10_a : type_of% k10_p.down := k10_p.down
/-- quern/code.Type -/
theorem k10_is : FnIs Try.prog prims 10 22 [ResultVar.tmp 2] k10 := FnIs.of_fn Try.func10 (by kernel_rfl) rfl
def k11_r0 := [o 1 (.box 29 (.tmp 0)),
o 2 (.assign (.const (.string { data := #[] })))]
def k11_r1 := [o 6 (pF 29 1 3),
o 7 (pL 22 6),
o 8 (pN 7 22),
o 9 (pK .gtr 3 8 .i64 0 3)]
def k11_r2 := [o 2 (.assign (.const (.string { data := #[] })))]
def k11_r3 := [o 10 (.build 51 #[(0, .const (.string { data := #[105, 110, 116] })), (1, .const (.string { data := #[98, 111, 111, 108] })), (2, .const (.string { data := #[116, 101, 120, 116] })), (3, .const (.string { data := #[91, 105, 110, 116, 93] })), (4, .const (.string { data := #[123, 105, 110, 116, 58, 105, 110, 116, 125] }))]),
o 3 (.alloc 51),
oS 51 3 10]
def k11_r4 := [o 11 (pL 51 3),
o 12 (pW .i64 0)]
def k11_r5 := [o 13 (pK .lss 3 12 .i64 5 3)]
def k11_r6 := [o 14 (.index 51 (.tmp 11) (.tmp 12)),
o 5 (pA 14)]
def k11_r7 := [o 15 (pL 29 1),
o 16 (pM 5),
o 17 (pD 22 15 16 29 9)]
def k11_r8 := [o 18 (pM 5),
o 2 (pA 18)]
def k11_r9 := [o 19 (pK .add 3 12 .i64 1 3),
o 12 (pM 19)]
def k11_l0 : CC := (.seq (.region k11_r5) (.seq (.cond (.tmp 13) .skip (.exit 0)) (.seq (.block 1 (.seq (.region k11_r6) (.seq (.region k11_r7) (.cond (.tmp 17) (.seq (.region k11_r8) .ret) .skip)))) (.region k11_r9))))
def k11_r10 := [o 2 (.assign (.const (.string { data := #[] })))]
def k11 : CC := (.seq (.region k11_r0) (.seq (.seq (.region k11_r1) (.cond (.tmp 9) (.seq (.region k11_r2) .ret) .skip)) (.seq (.region k11_r3) (.seq (.seq (.region k11_r4) (.block 0 (.loop k11_l0))) (.seq (.region k11_r10) .ret)))))
def k12_r0 := [o 2 (.box 25 (.tmp 0)),
o 4 (pZ .i64 0)]
def k12_r1 := [o 11 (pF 25 2 1),
o 12 (pL 23 11),
o 13 (pN 12 23),
o 14 (pK .gtr 3 13 .i64 32 3),
o 15 (pM 14),
oF 16 (pM 1) 15,
oF 17 (pK .lss 3 16 .i64 0 3) 15,
o 18 (pV 15 17),
o 19 (pM 18),
oF 20 (pM 1) 19,
oF 21 (pK .gtr 3 20 .i64 32 3) 19,
o 22 (pV 19 21),
o 23 (pM 22),
oF 24 (pF 25 2 0) 23,
oF 25 (pL 22 24) 23,
oF 26 (pN 25 22) 23,
oF 27 (pK .gtr 3 26 .i64 16384 3) 23,
o 28 (pV 23 27)]
def k12_r2 := [o 4 (pZ .i64 40)]
def k12_r3 := [o 29 (pF 25 2 0),
o 30 (pL 22 29),
o 31 (pN 30 22),
o 32 (pW .i64 0)]
def k12_r4 := [o 33 (pB .lss 3 32 31 3)]
def k12_r5 := [o 34 (pI 22 30 32),
o 35 (pL 29 34),
o 6 (.alloc 29),
oS 29 6 35]
def k12_r6 := [o 36 (pL 29 6),
o 37 (pC 10 36 29),
o 38 (.binOp .eql 9 (.tmp 37) (.const (.string { data := #[] })) 9)]
def k12_r7 := [o 4 (pZ .i64 40)]
def k12_r8 := [o 39 (pK .add 3 32 .i64 1 3),
o 32 (pM 39)]
def k12_l0 : CC := (.seq (.region k12_r4) (.seq (.cond (.tmp 33) .skip (.exit 0)) (.seq (.block 1 (.seq (.region k12_r5) (.seq (.region k12_r6) (.cond (.tmp 38) (.seq (.region k12_r7) .ret) .skip)))) (.region k12_r8))))
def k12_r9 := [o 40 (pF 25 2 1),
o 41 (pL 23 40),
o 42 (pN 41 23),
o 43 (pW .i64 0)]
def k12_r10 := [o 44 (pB .lss 3 43 42 3)]
def k12_r11 := [o 45 (pM 43),
o 46 (pI 23 41 43),
o 47 (pL 37 46),
o 8 (.alloc 37),
o 7 (pA 45),
oS 37 8 47]
def k12_r12 := [o 48 (pF 37 8 0),
o 49 (pL 3 48),
o 50 (pK .lss 3 49 .i64 0 3),
o 51 (pM 50),
oF 52 (pF 37 8 0) 51,
oF 53 (pL 3 52) 51,
oF 54 (pK .gtr 3 53 .i64 8 3) 51,
o 55 (pV 51 54),
o 56 (pM 55),
oF 57 (pF 37 8 1) 56,
oF 58 (pL 3 57) 56,
oF 59 (pF 37 8 0) 56,
oF 60 (pL 3 59) 56,
oF 61 (pB .lss 3 58 60 3) 56,
o 62 (pV 56 61),
o 63 (pM 62),
oF 64 (pF 37 8 1) 63,
oF 65 (pL 3 64) 63,
oF 66 (pK .gtr 3 65 .i64 256 3) 63,
o 67 (pV 63 66),
o 68 (pM 67),
oF 69 (pF 37 8 2) 68,
oF 70 (pL 3 69) 68,
oF 71 (pK .lss 3 70 .i64 0 3) 68,
o 72 (pV 68 71),
o 73 (pM 72),
oF 74 (pF 37 8 2) 73,
oF 75 (pL 3 74) 73,
oF 76 (pF 25 2 0) 73,
oF 77 (pL 22 76) 73,
oF 78 (pN 77 22) 73,
oF 79 (pB .geq 3 75 78 3) 73,
o 80 (pV 73 79),
o 81 (pM 80),
oF 82 (pF 37 8 3) 81,
oF 83 (pL 3 82) 81,
oF 84 (pK .lss 3 83 .i64 1 3) 81,
o 85 (pV 81 84),
o 86 (pM 85),
oF 87 (pF 37 8 3) 86,
oF 88 (pL 3 87) 86,
oF 89 (pK .gtr 3 88 .i64 256 3) 86,
o 90 (pV 86 89),
o 91 (pM 90),
oF 92 (pF 37 8 4) 91,
oF 93 (pL 35 92) 91,
oF 94 (pN 93 35) 91,
oF 95 (pK .lss 3 94 .i64 1 3) 91,
o 96 (pV 91 95),
o 97 (pM 96),
oF 98 (pF 37 8 4) 97,
oF 99 (pL 35 98) 97,
oF 100 (pN 99 35) 97,
oF 101 (pK .gtr 3 100 .i64 16384 3) 97,
o 102 (pV 97 101)]
def k12_r13 := [o 4 (pZ .i64 40)]
def k12_r14 := [o 103 (pF 37 8 4),
o 104 (pL 35 103),
o 105 (pN 104 35),
o 106 (pW .i64 0)]
def k12_r15 := [o 107 (pB .lss 3 106 105 3)]
def k12_r16 := [o 108 (pI 35 104 106),
o 109 (pL 39 108),
o 10 (.alloc 39),
oS 39 10 109]
def k12_r17 := [o 110 (pL 25 2),
o 111 (pM 1),
o 112 (pM 7),
o 113 (pL 39 10),
o 114 (.call { callee := .value (.func 23), args := #[.tmp 110, .tmp 111, .tmp 112, .tmp 113], argTypes := #[25, 3, 3, 39] }),
o 115 (.unOp .not 4 (.tmp 114))]
def k12_r18 := [o 4 (pZ .i64 40)]
def k12_r19 := [o 116 (pK .add 3 106 .i64 1 3),
o 106 (pM 116)]
def k12_l2 : CC := (.seq (.region k12_r15) (.seq (.cond (.tmp 107) .skip (.exit 4)) (.seq (.block 5 (.seq (.region k12_r16) (.seq (.region k12_r17) (.cond (.tmp 115) (.seq (.region k12_r18) .ret) .skip)))) (.region k12_r19))))
def k12_r20 := [o 117 (pL 25 2),
o 118 (pM 7),
o 119 (pD 24 117 118 25 3),
o 120 (.unOp .not 4 (.tmp 119))]
def k12_r21 := [o 4 (pZ .i64 40)]
def k12_r22 := [o 121 (pK .add 3 43 .i64 1 3),
o 43 (pM 121)]
def k12_l1 : CC := (.seq (.region k12_r10) (.seq (.cond (.tmp 44) .skip (.exit 2)) (.seq (.block 3 (.seq (.region k12_r11) (.seq (.seq (.region k12_r12) (.cond (.tmp 102) (.seq (.region k12_r13) .ret) .skip)) (.seq (.seq (.region k12_r14) (.block 4 (.loop k12_l2))) (.seq (.region k12_r20) (.cond (.tmp 120) (.seq (.region k12_r21) .ret) .skip)))))) (.region k12_r22))))
def k12_r23 := [o 4 (pZ .i64 0)]
def k12 : CC := (.seq (.region k12_r0) (.seq (.seq (.region k12_r1) (.cond (.tmp 28) (.seq (.region k12_r2) .ret) .skip)) (.seq (.seq (.region k12_r3) (.block 0 (.loop k12_l0))) (.seq (.seq (.region k12_r9) (.block 2 (.loop k12_l1))) (.seq (.region k12_r23) .ret)))))
def k12_p := PLift.up <| aI (vE k12.eq_1) <| aI (oE k12_r0.eq_1) <| aI (oE k12_r1.eq_1) <| aI (oE k12_r2.eq_1) <| aI (oE k12_r3.eq_1) <| aI (oE k12_r4.eq_1) <| aI (oE k12_r5.eq_1) <| aI (oE k12_r6.eq_1) <| aI (oE k12_r7.eq_1) <| aI (oE k12_r8.eq_1) <| aI (vE k12_l0.eq_1) <| aI (oE k12_r9.eq_1) <| aI (oE k12_r10.eq_1) <| aI (oE k12_r11.eq_1) <| aI (oE k12_r12.eq_1) <| aI (oE k12_r13.eq_1) <| aI (oE k12_r14.eq_1) <| aI (oE k12_r15.eq_1) <| aI (oE k12_r16.eq_1) <| aI (oE k12_r17.eq_1) <| aI (oE k12_r18.eq_1) <| aI (oE k12_r19.eq_1) <| aI (vE k12_l2.eq_1) <| aI (oE k12_r20.eq_1) <| aI (oE k12_r21.eq_1) <| aI (oE k12_r22.eq_1) <| aI (vE k12_l1.eq_1) (oE k12_r23.eq_1)
theorem k12_a : type_of% k12_p.down := k12_p.down
/-- quern/code.Verify -/
theorem k12_is : FnIs Try.prog prims 12 122 [ResultVar.tmp 4] k12 := FnIs.of_fn Try.func12 (by kernel_rfl) rfl
def k13_r0 := [o 2 (.box 25 (.tmp 0)),
o 4 (pZ .i64 0)]
def k13_r1 := [o 11 (pM 1),
o 12 (pK .lss 3 11 .i64 0 3),
o 13 (pM 12),
oF 14 (pM 1) 13,
oF 15 (pK .gtr 3 14 .i64 32 3) 13,
o 16 (pV 13 15),
o 17 (pM 16),
oF 18 (pF 25 2 1) 17,
oF 19 (pL 23 18) 17,
oF 20 (pN 19 23) 17,
oF 21 (pK .gtr 3 20 .i64 32 3) 17,
o 22 (pV 17 21),
o 23 (pM 22),
oF 24 (pF 25 2 0) 23,
oF 25 (pL 22 24) 23,
oF 26 (pN 25 22) 23,
oF 27 (pK .gtr 3 26 .i64 16384 3) 23,
o 28 (pV 23 27)]
def k13_r2 := [o 4 (pZ .i64 40)]
def k13_r3 := [o 29 (pF 25 2 0),
o 30 (pL 22 29),
o 31 (pN 30 22),
o 32 (pW .i64 0)]
def k13_r4 := [o 33 (pB .lss 3 32 31 3)]
def k13_r5 := [o 34 (pI 22 30 32),
o 35 (pL 29 34),
o 6 (.alloc 29),
oS 29 6 35]
def k13_r6 := [o 36 (pL 29 6),
o 37 (pC 11 36 29),
o 38 (.binOp .eql 9 (.tmp 37) (.const (.string { data := #[] })) 9)]
def k13_r7 := [o 4 (pZ .i64 40)]
def k13_r8 := [o 39 (pK .add 3 32 .i64 1 3),
o 32 (pM 39)]
def k13_l0 : CC := (.seq (.region k13_r4) (.seq (.cond (.tmp 33) .skip (.exit 0)) (.seq (.block 1 (.seq (.region k13_r5) (.seq (.region k13_r6) (.cond (.tmp 38) (.seq (.region k13_r7) .ret) .skip)))) (.region k13_r8))))
def k13_r9 := [o 40 (pF 25 2 1),
o 41 (pL 23 40),
o 42 (pN 41 23),
o 43 (pW .i64 0)]
def k13_r10 := [o 44 (pB .lss 3 43 42 3)]
def k13_r11 := [o 45 (pM 43),
o 46 (pI 23 41 43),
o 47 (pL 37 46),
o 8 (.alloc 37),
o 7 (pA 45),
oS 37 8 47]
def k13_r12 := [o 48 (pF 37 8 0),
o 49 (pL 3 48),
o 50 (pK .lss 3 49 .i64 0 3),
o 51 (pM 50),
oF 52 (pF 37 8 0) 51,
oF 53 (pL 3 52) 51,
oF 54 (pK .gtr 3 53 .i64 8 3) 51,
o 55 (pV 51 54),
o 56 (pM 55),
oF 57 (pF 37 8 1) 56,
oF 58 (pL 3 57) 56,
oF 59 (pF 37 8 0) 56,
oF 60 (pL 3 59) 56,
oF 61 (pB .lss 3 58 60 3) 56,
o 62 (pV 56 61),
o 63 (pM 62),
oF 64 (pF 37 8 1) 63,
oF 65 (pL 3 64) 63,
oF 66 (pK .gtr 3 65 .i64 256 3) 63,
o 67 (pV 63 66),
o 68 (pM 67),
oF 69 (pF 37 8 2) 68,
oF 70 (pL 3 69) 68,
oF 71 (pK .lss 3 70 .i64 0 3) 68,
o 72 (pV 68 71),
o 73 (pM 72),
oF 74 (pF 37 8 2) 73,
oF 75 (pL 3 74) 73,
oF 76 (pF 25 2 0) 73,
oF 77 (pL 22 76) 73,
oF 78 (pN 77 22) 73,
oF 79 (pB .geq 3 75 78 3) 73,
o 80 (pV 73 79),
o 81 (pM 80),
oF 82 (pF 37 8 3) 81,
oF 83 (pL 3 82) 81,
oF 84 (pK .lss 3 83 .i64 1 3) 81,
o 85 (pV 81 84),
o 86 (pM 85),
oF 87 (pF 37 8 3) 86,
oF 88 (pL 3 87) 86,
oF 89 (pK .gtr 3 88 .i64 256 3) 86,
o 90 (pV 86 89),
o 91 (pM 90),
oF 92 (pF 37 8 4) 91,
oF 93 (pL 35 92) 91,
oF 94 (pN 93 35) 91,
oF 95 (pK .lss 3 94 .i64 1 3) 91,
o 96 (pV 91 95),
o 97 (pM 96),
oF 98 (pF 37 8 4) 97,
oF 99 (pL 35 98) 97,
oF 100 (pN 99 35) 97,
oF 101 (pK .gtr 3 100 .i64 16384 3) 97,
o 102 (pV 97 101)]
def k13_r13 := [o 4 (pZ .i64 40)]
def k13_r14 := [o 103 (pF 37 8 4),
o 104 (pL 35 103),
o 105 (pN 104 35),
o 106 (pW .i64 0)]
def k13_r15 := [o 107 (pB .lss 3 106 105 3)]
def k13_r16 := [o 108 (pI 35 104 106),
o 109 (pL 39 108),
o 10 (.alloc 39),
oS 39 10 109]
def k13_r17 := [o 110 (pL 25 2),
o 111 (pM 1),
o 112 (pM 7),
o 113 (pL 39 10),
o 114 (.call { callee := .value (.func 25), args := #[.tmp 110, .tmp 111, .tmp 112, .tmp 113], argTypes := #[25, 3, 3, 39] }),
o 115 (.unOp .not 4 (.tmp 114))]
def k13_r18 := [o 4 (pZ .i64 40)]
def k13_r19 := [o 116 (pK .add 3 106 .i64 1 3),
o 106 (pM 116)]
def k13_l2 : CC := (.seq (.region k13_r15) (.seq (.cond (.tmp 107) .skip (.exit 4)) (.seq (.block 5 (.seq (.region k13_r16) (.seq (.region k13_r17) (.cond (.tmp 115) (.seq (.region k13_r18) .ret) .skip)))) (.region k13_r19))))
def k13_r20 := [o 117 (pL 25 2),
o 118 (pM 7),
o 119 (pD 26 117 118 25 3),
o 120 (.unOp .not 4 (.tmp 119))]
def k13_r21 := [o 4 (pZ .i64 40)]
def k13_r22 := [o 121 (pK .add 3 43 .i64 1 3),
o 43 (pM 121)]
def k13_l1 : CC := (.seq (.region k13_r10) (.seq (.cond (.tmp 44) .skip (.exit 2)) (.seq (.block 3 (.seq (.region k13_r11) (.seq (.seq (.region k13_r12) (.cond (.tmp 102) (.seq (.region k13_r13) .ret) .skip)) (.seq (.seq (.region k13_r14) (.block 4 (.loop k13_l2))) (.seq (.region k13_r20) (.cond (.tmp 120) (.seq (.region k13_r21) .ret) .skip)))))) (.region k13_r22))))
def k13_r23 := [o 4 (pZ .i64 0)]
def k13 : CC := (.seq (.region k13_r0) (.seq (.seq (.region k13_r1) (.cond (.tmp 28) (.seq (.region k13_r2) .ret) .skip)) (.seq (.seq (.region k13_r3) (.block 0 (.loop k13_l0))) (.seq (.seq (.region k13_r9) (.block 2 (.loop k13_l1))) (.seq (.region k13_r23) .ret)))))
def k15_r0 := [o 2 (.box 25 (.tmp 0)),
o 4 (.assign (.const (.slice .none 0 0))),
o 5 (pZ .i64 0)]
def k15_r1 := [o 16 (pL 25 2),
o 17 (pM 1),
o 18 (pD 12 16 17 25 3),
o 6 (pA 18)]
def k15_r2 := [o 19 (pM 6),
o 20 (pK .neq 31 19 .i64 0 31)]
def k15_r3 := [o 21 (pM 6),
o 4 (.assign (.const (.slice .none 0 0))),
o 5 (pA 21)]
def k15_r4 := [o 22 (pF 25 2 0),
o 23 (pL 22 22),
o 24 (pN 23 22),
o 25 (pF 25 2 1),
o 26 (pL 23 25),
o 27 (pN 26 23),
o 28 (.buildSlice 70 2 #[(0, .tmp 24), (1, .tmp 27)]),
o 29 (.call { callee := .value (.func 28), args := #[.const (.slice .none 0 0), .tmp 28], argTypes := #[41, 70] }),
o 7 (pA 29)]
def k15_r5 := [o 30 (pF 25 2 0),
o 31 (pL 22 30),
o 32 (pN 31 22),
o 33 (pW .i64 0)]
def k15_r6 := [o 34 (pB .lss 3 33 32 3)]
def k15_r7 := [o 35 (pI 22 31 33),
o 36 (pL 29 35),
o 9 (.alloc 29),
oS 29 9 36]
def k15_r8 : CC := (.wregion [
(true, oX 38 (pL 29 9)),
(false, o 39 (pL 29 9)),
(false, o 40 (pC 10 39 29)),
(true, o 41 (pD 29 38 40 29 9)),
(false, o 37 (pM 41)),
(false, oX 42 (pX 37 0)),
(false, oX 43 (pX 37 1)),
(false, o 10 (pA 42)),
(false, o 11 (pA 43))] false [(0, oX 38 (pL 29 9), [0, 3])])
def k15_r9 := [o 44 (pM 7),
o 45 (pF 29 9 0),
o 46 (pL 3 45),
o 47 (.buildSlice 70 1 #[(0, .tmp 46)]),
o 48 (pD 28 44 47 41 70),
o 49 (pM 10),
o 50 (pQ 48 49 41 41),
o 7 (pA 50)]
def k15_r10 := [o 51 (pK .add 3 33 .i64 1 3),
o 33 (pM 51)]
def k15_l0 : CC := (.seq (.region k15_r6) (.seq (.cond (.tmp 34) .skip (.exit 0)) (.seq (.block 1 (.seq (.region k15_r7) (.seq k15_r8 (.region k15_r9)))) (.region k15_r10))))
def k15_r11 := [o 52 (pF 25 2 1),
o 53 (pL 23 52),
o 54 (pN 53 23),
o 55 (pW .i64 0)]
def k15_r12 := [o 56 (pB .lss 3 55 54 3)]
def k15_r13 := [o 57 (pI 23 53 55),
o 58 (pL 37 57),
o 13 (.alloc 37),
oS 37 13 58]
def k15_r14 := [o 59 (pM 7),
o 60 (pF 37 13 0),
o 61 (pL 3 60),
o 62 (pF 37 13 1),
o 63 (pL 3 62),
o 64 (pF 37 13 2),
o 65 (pL 3 64),
o 66 (pF 37 13 3),
o 67 (pL 3 66),
o 68 (pF 37 13 4),
o 69 (pL 35 68),
o 70 (pN 69 35),
o 71 (.buildSlice 70 5 #[(0, .tmp 61), (1, .tmp 63), (2, .tmp 65), (3, .tmp 67), (4, .tmp 70)]),
o 72 (pD 28 59 71 41 70),
o 7 (pA 72)]
def k15_r15 := [o 73 (pF 37 13 4),
o 74 (pL 35 73),
o 75 (pN 74 35),
o 76 (pW .i64 0)]
def k15_r16 := [o 77 (pB .lss 3 76 75 3)]
def k15_r17 := [o 78 (pI 35 74 76),
o 79 (pL 39 78),
o 15 (.alloc 39),
oS 39 15 79]
def k15_r18 := [o 80 (pM 7),
o 81 (pF 39 15 0),
o 82 (pL 3 81),
o 83 (pF 39 15 1),
o 84 (pL 3 83),
o 85 (.buildSlice 70 2 #[(0, .tmp 82), (1, .tmp 84)]),
o 86 (pD 28 80 85 41 70),
o 7 (pA 86)]
def k15_r19 := [o 87 (pK .add 3 76 .i64 1 3),
o 76 (pM 87)]
def k15_l2 : CC := (.seq (.region k15_r16) (.seq (.cond (.tmp 77) .skip (.exit 4)) (.seq (.block 5 (.seq (.region k15_r17) (.region k15_r18))) (.region k15_r19))))
def k15_r20 := [o 88 (pK .add 3 55 .i64 1 3),
o 55 (pM 88)]
def k15_l1 : CC := (.seq (.region k15_r12) (.seq (.cond (.tmp 56) .skip (.exit 2)) (.seq (.block 3 (.seq (.region k15_r13) (.seq (.region k15_r14) (.seq (.region k15_r15) (.block 4 (.loop k15_l2)))))) (.region k15_r20))))
def k15_r21 := [o 89 (pM 7),
o 4 (pA 89),
o 5 (pZ .i64 0)]
def k15 : CC := (.seq (.region k15_r0) (.seq (.seq (.region k15_r1) (.seq (.region k15_r2) (.cond (.tmp 20) (.seq (.region k15_r3) .ret) .skip))) (.seq (.region k15_r4) (.seq (.seq (.region k15_r5) (.block 0 (.loop k15_l0))) (.seq (.seq (.region k15_r11) (.block 2 (.loop k15_l1))) (.seq (.region k15_r21) .ret))))))
def k23_r0 := [o 4 (.box 25 (.tmp 0)),
o 7 (.box 39 (.tmp 3)),
o 8 (pO false)]
def k23_r1 := [o 13 (pF 25 4 1),
o 14 (pL 23 13),
o 15 (pM 2),
o 16 (pI 23 14 15),
o 17 (pL 37 16),
o 9 (.alloc 37),
oS 37 9 17]
def k23_r2 := [o 18 (.makeMap 68 .none),
o 19 (pF 25 4 0),
o 20 (pL 22 19),
o 21 (pN 20 22),
⟨none, .insert 68 (.tmp 18) (.const (.int .i64 1)) (.tmp 21), none, true⟩,
o 22 (pF 37 9 1),
o 23 (pL 3 22),
⟨none, .insert 68 (.tmp 18) (.const (.int .i64 2)) (.tmp 23), none, true⟩,
o 24 (pF 37 9 1),
o 25 (pL 3 24),
⟨none, .insert 68 (.tmp 18) (.const (.int .i64 3)) (.tmp 25), none, true⟩,
o 26 (pM 1),
⟨none, .insert 68 (.tmp 18) (.const (.int .i64 4)) (.tmp 26), none, true⟩,
o 27 (pM 1),
⟨none, .insert 68 (.tmp 18) (.const (.int .i64 5)) (.tmp 27), none, true⟩,
o 28 (pF 37 9 4),
o 29 (pL 35 28),
o 30 (pN 29 35),
⟨none, .insert 68 (.tmp 18) (.const (.int .i64 7)) (.tmp 30), none, true⟩,
o 31 (pF 37 9 4),
o 32 (pL 35 31),
o 33 (pN 32 35),
⟨none, .insert 68 (.tmp 18) (.const (.int .i64 8)) (.tmp 33), none, true⟩,
o 34 (pM 2),
⟨none, .insert 68 (.tmp 18) (.const (.int .i64 9)) (.tmp 34), none, true⟩,
⟨none, .insert 68 (.tmp 18) (.const (.int .i64 11)) (.const (.int .i64 1099511627777)), none, true⟩,
⟨none, .insert 68 (.tmp 18) (.const (.int .i64 12)) (.const (.int .i64 14)), none, true⟩,
o 35 (pM 18),
o 10 (pA 35)]
def k23_r3 := [o 37 (pM 10),
o 38 (pF 39 7 0),
o 39 (pL 3 38),
o 40 (.lookup 68 (.tmp 37) (.tmp 39) true),
o 36 (pM 40),
o 41 (pX 36 0),
o 42 (pX 36 1),
o 11 (pA 41),
o 12 (pA 42)]
def k23_r4 := [o 43 (pM 12)]
def k23_r5 := [o 44 (pF 39 7 1),
o 45 (pL 3 44),
o 46 (pK .geq 3 45 .i64 0 3),
o 47 (pM 46),
oT 48 (pF 39 7 1) 47,
oT 49 (pL 3 48) 47,
oT 50 (pM 11) 47,
oT 51 (pB .lss 3 49 50 3) 47,
o 52 (pU 47 51),
o 53 (pM 52),
oT 54 (pF 39 7 0) 53,
oT 55 (pL 3 54) 53,
oT 56 (pK .neq 3 55 .i64 12 3) 53,
oT 57 (pM 56) 53,
oF 58 (pF 39 7 1) 57,
oF 59 (pL 3 58) 57,
oF 60 (pK .geq 3 59 .i64 3 3) 57,
oT 61 (pV 57 60) 53,
o 62 (pU 53 61),
o 8 (pA 62)]
def k23_r6 := [o 63 (pF 39 7 0),
o 64 (pL 3 63),
o 65 (pK .geq 3 64 .i64 1 3),
o 66 (pM 65),
oT 67 (pF 39 7 0) 66,
oT 68 (pL 3 67) 66,
oT 69 (pK .leq 3 68 .i64 21 3) 66,
o 70 (pU 66 69),
o 71 (pM 70),
oT 72 (pF 39 7 1) 71,
oT 73 (pL 3 72) 71,
oT 74 (pK .eql 3 73 .i64 0 3) 71,
o 75 (pU 71 74),
o 8 (pA 75)]
def k23 : CC := (.seq (.region k23_r0) (.seq (.region k23_r1) (.seq (.region k23_r2) (.seq (.seq (.region k23_r3) (.seq (.region k23_r4) (.cond (.tmp 43) (.seq (.region k23_r5) .ret) .skip))) (.seq (.region k23_r6) .ret)))))
def k23_p := PLift.up <| aI (vE k23.eq_1) <| aI (oE k23_r0.eq_1) <| aI (oE k23_r1.eq_1) <| aI (oE k23_r2.eq_1) <| aI (oE k23_r3.eq_1) <| aI (oE k23_r4.eq_1) <| aI (oE k23_r5.eq_1) (oE k23_r6.eq_1)
theorem k23_a : type_of% k23_p.down := k23_p.down
/-- quern/code.right -/
theorem k23_is : FnIs Try.prog prims 23 76 [ResultVar.tmp 8] k23 := FnIs.of_fn Try.func23 (by kernel_rfl) rfl
def k24_r0 := [o 2 (.box 25 (.tmp 0)),
o 4 (pO false)]
def k24_r1 := [o 17 (pF 25 2 1),
o 18 (pL 23 17),
o 19 (pM 1),
o 20 (pI 23 18 19),
o 21 (pL 37 20),
o 5 (.alloc 37),
oS 37 5 21]
def k24_r2 : CC := (.hreg [
(false, o 22 (pF 37 5 4)),
(false, o 23 (pL 35 22)),
(false, o 24 (pN 23 35)),
(true, o 25 (.makeSlice 70 (.tmp 24) (.tmp 24))),
(false, o 6 (pA 25))])
def k24_r3 : CC := (.hreg [
(true, o 26 (.buildSlice 70 1 #[(0, .const (.int .i64 0))])),
(false, o 7 (pA 26))])
def k24_r4 := [o 27 (pM 6),
o 28 (pN 27 70),
o 29 (pW .i64 0)]
def k24_r5 := [o 30 (pB .lss 3 29 28 3)]
def k24_r6 := [o 31 (pM 29),
o 8 (pA 31)]
def k24_r7 := [o 32 (pM 6),
o 33 (pM 8),
o 34 (pI 70 32 33),
⟨none, .store 3 (.tmp 34) (.const (.int .i64 (-1))), none, true⟩]
def k24_r8 := [o 35 (pK .add 3 29 .i64 1 3),
o 29 (pM 35)]
def k24_l0 : CC := (.seq (.region k24_r5) (.seq (.cond (.tmp 30) .skip (.exit 0)) (.seq (.block 1 (.seq (.region k24_r6) (.region k24_r7))) (.region k24_r8))))
def k24_r9 := [o 36 (pM 6),
o 37 (.indexAddr 70 (.tmp 36) (.const (.int .i64 0))),
⟨none, .store 3 (.tmp 37) (.const (.int .i64 0)), none, true⟩]
def k24_r10 := [o 38 (pM 7),
o 39 (pN 38 70),
o 40 (pK .gtr 3 39 .i64 0 3)]
def k24_r11 := [o 41 (pM 7),
o 42 (pM 7),
o 43 (pN 42 70),
o 44 (pK .sub 3 43 .i64 1 3),
o 45 (pI 70 41 44),
o 46 (pL 3 45),
o 9 (pA 46)]
def k24_r12 := [o 47 (pM 7),
o 48 (pM 7),
o 49 (pN 48 70),
o 50 (pK .sub 3 49 .i64 1 3),
o 51 (.slice 70 (.tmp 47) .none (some (.tmp 50)) .none),
o 7 (pA 51)]
def k24_r13 := [o 52 (pF 37 5 4),
o 53 (pL 35 52),
o 54 (pM 9),
o 55 (pI 35 53 54),
o 56 (pL 39 55),
o 10 (.alloc 39),
oS 39 10 56]
def k24_r14 := [o 58 (pL 25 2),
o 59 (pL 39 10),
o 60 (pD 45 58 59 25 39),
o 57 (pM 60),
o 61 (pX 57 0),
o 62 (pX 57 1),
o 11 (pA 61),
o 12 (pA 62)]
def k24_r15 := [o 63 (pM 6),
o 64 (pM 9),
o 65 (pI 70 63 64),
o 66 (pL 3 65),
o 67 (pM 11),
o 68 (pB .sub 3 66 67 3),
o 13 (pA 68)]
def k24_r16 := [o 69 (pM 13),
o 70 (pK .lss 3 69 .i64 0 3),
o 71 (pM 70),
oF 72 (pM 13) 71,
oF 73 (pM 12) 71,
oF 74 (pB .add 3 72 73 3) 71,
oF 75 (pF 37 5 3) 71,
oF 76 (pL 3 75) 71,
oF 77 (pB .gtr 3 74 76 3) 71,
o 78 (pV 71 77)]
def k24_r17 := [o 4 (pO false)]
def k24_r18 := [o 79 (pM 13),
o 80 (pM 12),
o 81 (pB .add 3 79 80 3),
o 13 (pA 81)]
def k24_r19 := [o 14 (.assign (.const (.slice .none 0 0)))]
def k24_r20 := [o 82 (pF 39 10 0),
o 83 (pL 3 82)]
def k24_r22 := [o 88 (pK .eql 3 83 .i64 10 3),
o 87 (pA 88)]
def k24_r23 := [o 90 (pK .eql 3 83 .i64 7 3),
o 89 (pA 90)]
def k24_r24 := [o 91 (pF 39 10 1),
o 92 (pL 3 91),
o 93 (.buildSlice 70 1 #[(0, .tmp 92)]),
o 14 (pA 93)]
def k24_r25 := [o 95 (pK .eql 3 83 .i64 8 3),
o 94 (pA 95)]
def k24_r26 := [o 96 (pM 9),
o 97 (pK .add 3 96 .i64 1 3),
o 98 (pF 39 10 1),
o 99 (pL 3 98),
o 100 (.buildSlice 70 2 #[(0, .tmp 97), (1, .tmp 99)]),
o 14 (pA 100)]
def k24_r21 := [o 84 (pM 9),
o 85 (pK .add 3 84 .i64 1 3),
o 86 (.buildSlice 70 1 #[(0, .tmp 85)]),
o 14 (pA 86)]
def k24_r27 := [o 101 (pM 14),
o 102 (pN 101 70),
o 103 (pW .i64 0)]
def k24_r28 := [o 104 (pB .lss 3 103 102 3)]
def k24_r29 := [o 105 (pI 70 101 103),
o 106 (pL 3 105),
o 16 (pA 106)]
def k24_r30 := [o 108 (pM 16),
o 109 (pF 37 5 4),
o 110 (pL 35 109),
o 111 (pN 110 35),
o 112 (pB .geq 3 108 111 3),
o 113 (pM 112),
oF 114 (pM 6) 113,
oF 115 (pM 16) 113,
oF 116 (pI 70 114 115) 113,
oF 117 (pL 3 116) 113,
oF 118 (pK .geq 3 117 .i64 0 3) 113,
oF 119 (pM 118) 113,
oT 120 (pM 6) 119,
oT 121 (pM 16) 119,
oT 122 (pI 70 120 121) 119,
oT 123 (pL 3 122) 119,
oT 124 (pM 13) 119,
oT 125 (pB .neq 3 123 124 3) 119,
oF 126 (pU 119 125) 113,
o 127 (pV 113 126),
o 107 (pA 127)]
def k24_r31 := [o 4 (pO false)]
def k24_r32 := [o 129 (pM 6),
o 130 (pM 16),
o 131 (pI 70 129 130),
o 132 (pL 3 131),
o 133 (pK .lss 3 132 .i64 0 3),
o 128 (pA 133)]
def k24_r33 := [o 134 (pM 6),
o 135 (pM 16),
o 136 (pM 13),
o 137 (pI 70 134 135),
oS 3 137 136]
def k24_r34 : CC := (.hreg [
(false, o 138 (pM 7)),
(false, o 139 (pM 16)),
(true, o 140 (.buildSlice 70 1 #[(0, .tmp 139)])),
(true, o 141 (pQ 138 140 70 70)),
(false, o 7 (pA 141))])
def k24_r35 := [o 142 (pK .add 3 103 .i64 1 3),
o 103 (pM 142)]
def k24_l2 : CC := (.seq (.region k24_r28) (.seq (.cond (.tmp 104) .skip (.exit 5)) (.seq (.block 6 (.seq (.region k24_r29) (.block 7 (.seq (.region k24_r30) (.cond (.tmp 107) (.seq (.region k24_r31) .ret) (.seq (.region k24_r32) (.cond (.tmp 128) (.seq (.region k24_r33) k24_r34) .skip))))))) (.region k24_r35))))
def k24_l1 : CC := (.seq (.seq (.region k24_r10) (.cond (.tmp 40) .skip (.exit 2))) (.block 3 (.seq (.region k24_r11) (.seq (.region k24_r12) (.seq (.region k24_r13) (.seq (.region k24_r14) (.seq (.region k24_r15) (.seq (.seq (.region k24_r16) (.cond (.tmp 78) (.seq (.region k24_r17) .ret) .skip)) (.seq (.region k24_r18) (.seq (.region k24_r19) (.seq (.seq (.region k24_r20) (.block 4 (.seq (.region k24_r22) (.cond (.tmp 87) .skip (.seq (.region k24_r23) (.cond (.tmp 89) (.region k24_r24) (.seq (.region k24_r25) (.cond (.tmp 94) (.region k24_r26) (.region k24_r21))))))))) (.seq (.region k24_r27) (.block 5 (.loop k24_l2))))))))))))))
def k24_r36 := [o 4 (pO true)]
def k24 : CC := (.seq (.region k24_r0) (.seq (.region k24_r1) (.seq k24_r2 (.seq k24_r3 (.seq (.seq (.region k24_r4) (.block 0 (.loop k24_l0))) (.seq (.region k24_r9) (.seq (.block 2 (.loop k24_l1)) (.seq (.region k24_r36) .ret))))))))
def k24_p := PLift.up <| aI (vE k24.eq_1) <| aI (oE k24_r0.eq_1) <| aI (oE k24_r1.eq_1) <| aI (vE k24_r2.eq_1) <| aI (vE k24_r3.eq_1) <| aI (oE k24_r4.eq_1) <| aI (oE k24_r5.eq_1) <| aI (oE k24_r6.eq_1) <| aI (oE k24_r7.eq_1) <| aI (oE k24_r8.eq_1) <| aI (vE k24_l0.eq_1) <| aI (oE k24_r9.eq_1) <| aI (oE k24_r10.eq_1) <| aI (oE k24_r11.eq_1) <| aI (oE k24_r12.eq_1) <| aI (oE k24_r13.eq_1) <| aI (oE k24_r14.eq_1) <| aI (oE k24_r15.eq_1) <| aI (oE k24_r16.eq_1) <| aI (oE k24_r17.eq_1) <| aI (oE k24_r18.eq_1) <| aI (oE k24_r19.eq_1) <| aI (oE k24_r20.eq_1) <| aI (oE k24_r22.eq_1) <| aI (oE k24_r23.eq_1) <| aI (oE k24_r24.eq_1) <| aI (oE k24_r25.eq_1) <| aI (oE k24_r26.eq_1) <| aI (oE k24_r21.eq_1) <| aI (oE k24_r27.eq_1) <| aI (oE k24_r28.eq_1) <| aI (oE k24_r29.eq_1) <| aI (oE k24_r30.eq_1) <| aI (oE k24_r31.eq_1) <| aI (oE k24_r32.eq_1) <| aI (oE k24_r33.eq_1) <| aI (vE k24_r34.eq_1) <| aI (oE k24_r35.eq_1) <| aI (vE k24_l2.eq_1) <| aI (vE k24_l1.eq_1) (oE k24_r36.eq_1)
theorem k24_a : type_of% k24_p.down := k24_p.down
/-- quern/code.heights -/
theorem k24_is : FnIs Try.prog prims 24 143 [ResultVar.tmp 4] k24 := FnIs.of_fn Try.func24 (by kernel_rfl) rfl
def k45_r0 := [o 2 (.box 25 (.tmp 0)),
o 3 (.box 39 (.tmp 1)),
o 4 (pZ .i64 0),
o 5 (pZ .i64 0)]
def k45_r1 := [o 6 (pF 39 3 0),
o 7 (pL 3 6)]
def k45_r2 := [o 9 (pK .eql 3 7 .i64 1 3),
o 8 (pA 9)]
def k45_r3 := [o 10 (pK .eql 3 7 .i64 2 3),
o 8 (pA 10)]
def k45_r4 := [o 11 (pK .eql 3 7 .i64 4 3),
o 8 (pA 11)]
def k45_r5 := [o 4 (pZ .i64 0),
o 5 (pZ .i64 1)]
def k45_r6 := [o 13 (pK .eql 3 7 .i64 3 3),
o 12 (pA 13)]
def k45_r7 := [o 14 (pK .eql 3 7 .i64 5 3),
o 12 (pA 14)]
def k45_r8 := [o 15 (pK .eql 3 7 .i64 6 3),
o 12 (pA 15)]
def k45_r9 := [o 16 (pK .eql 3 7 .i64 8 3),
o 12 (pA 16)]
def k45_r10 := [o 17 (pK .eql 3 7 .i64 10 3),
o 12 (pA 17)]
def k45_r11 := [o 4 (pZ .i64 1),
o 5 (pZ .i64 0)]
def k45_r12 := [o 19 (pK .eql 3 7 .i64 9 3),
o 18 (pA 19)]
def k45_r13 := [o 20 (pF 25 2 1),
o 21 (pL 23 20),
o 22 (pF 39 3 1),
o 23 (pL 3 22),
o 24 (pI 23 21 23),
o 25 (pF 37 24 0),
o 26 (pL 3 25),
o 4 (pA 26),
o 5 (pZ .i64 1)]
def k45_r14 := [o 28 (pK .eql 3 7 .i64 13 3),
o 27 (pA 28)]
def k45_r15 := [o 29 (pK .eql 3 7 .i64 14 3),
o 27 (pA 29)]
def k45_r16 := [o 30 (pK .eql 3 7 .i64 15 3),
o 27 (pA 30)]
def k45_r17 := [o 31 (pK .eql 3 7 .i64 16 3),
o 27 (pA 31)]
def k45_r18 := [o 4 (pZ .i64 1),
o 5 (pZ .i64 1)]
def k45_r19 := [o 33 (pK .eql 3 7 .i64 12 3),
o 32 (pA 33)]
def k45_r20 := [o 34 (pK .eql 3 7 .i64 17 3),
o 32 (pA 34)]
def k45_r21 := [o 35 (pK .eql 3 7 .i64 18 3),
o 32 (pA 35)]
def k45_r22 := [o 36 (pK .eql 3 7 .i64 19 3),
o 32 (pA 36)]
def k45_r23 := [o 37 (pK .eql 3 7 .i64 21 3),
o 32 (pA 37)]
def k45_r24 := [o 4 (pZ .i64 2),
o 5 (pZ .i64 1)]
def k45_r25 := [o 39 (pK .eql 3 7 .i64 20 3),
o 38 (pA 39)]
def k45_r26 := [o 4 (pZ .i64 3),
o 5 (pZ .i64 1)]
def k45_r27 := [o 4 (pZ .i64 0),
o 5 (pZ .i64 0)]
def k45 : CC := (.seq (.region k45_r0) (.seq (.seq (.region k45_r1) (.block 0 (.seq (.seq (.region k45_r2) (.cond (.tmp 8) .skip (.seq (.region k45_r3) (.cond (.tmp 8) .skip (.region k45_r4))))) (.cond (.tmp 8) (.seq (.region k45_r5) .ret) (.seq (.seq (.region k45_r6) (.cond (.tmp 12) .skip (.seq (.region k45_r7) (.cond (.tmp 12) .skip (.seq (.region k45_r8) (.cond (.tmp 12) .skip (.seq (.region k45_r9) (.cond (.tmp 12) .skip (.region k45_r10))))))))) (.cond (.tmp 12) (.seq (.region k45_r11) .ret) (.seq (.region k45_r12) (.cond (.tmp 18) (.seq (.region k45_r13) .ret) (.seq (.seq (.region k45_r14) (.cond (.tmp 27) .skip (.seq (.region k45_r15) (.cond (.tmp 27) .skip (.seq (.region k45_r16) (.cond (.tmp 27) .skip (.region k45_r17))))))) (.cond (.tmp 27) (.seq (.region k45_r18) .ret) (.seq (.seq (.region k45_r19) (.cond (.tmp 32) .skip (.seq (.region k45_r20) (.cond (.tmp 32) .skip (.seq (.region k45_r21) (.cond (.tmp 32) .skip (.seq (.region k45_r22) (.cond (.tmp 32) .skip (.region k45_r23))))))))) (.cond (.tmp 32) (.seq (.region k45_r24) .ret) (.seq (.region k45_r25) (.cond (.tmp 38) (.seq (.region k45_r26) .ret) .skip)))))))))))))) (.seq (.region k45_r27) .ret)))
def k45_p := PLift.up <| aI (vE k45.eq_1) <| aI (oE k45_r0.eq_1) <| aI (oE k45_r1.eq_1) <| aI (oE k45_r2.eq_1) <| aI (oE k45_r3.eq_1) <| aI (oE k45_r4.eq_1) <| aI (oE k45_r5.eq_1) <| aI (oE k45_r6.eq_1) <| aI (oE k45_r7.eq_1) <| aI (oE k45_r8.eq_1) <| aI (oE k45_r9.eq_1) <| aI (oE k45_r10.eq_1) <| aI (oE k45_r11.eq_1) <| aI (oE k45_r12.eq_1) <| aI (oE k45_r13.eq_1) <| aI (oE k45_r14.eq_1) <| aI (oE k45_r15.eq_1) <| aI (oE k45_r16.eq_1) <| aI (oE k45_r17.eq_1) <| aI (oE k45_r18.eq_1) <| aI (oE k45_r19.eq_1) <| aI (oE k45_r20.eq_1) <| aI (oE k45_r21.eq_1) <| aI (oE k45_r22.eq_1) <| aI (oE k45_r23.eq_1) <| aI (oE k45_r24.eq_1) <| aI (oE k45_r25.eq_1) <| aI (oE k45_r26.eq_1) (oE k45_r27.eq_1)
theorem k45_a : type_of% k45_p.down := k45_p.down
/-- quern/code.effect -/
theorem k45_is : FnIs Try.prog prims 45 40 [ResultVar.tmp 4, ResultVar.tmp 5] k45 := FnIs.of_fn Try.func45 (by kernel_rfl) rfl
def k58_r0 := [o 2 (.assign (.const (.string { data := #[] }))),
o 3 (pO false)]
def k58_r1 := [o 4 (pM 0),
o 5 (pC 39 4 9),
o 6 (.unOp .not 4 (.tmp 5)),
o 7 (pM 6),
oF 8 (pM 0) 7,
oF 9 (.index 9 (.tmp 8) (.const (.int .i64 0))) 7,
oF 10 (pK .neq 5 9 .u8 91 5) 7,
o 11 (pV 7 10)]
def k58_r2 := [o 2 (.assign (.const (.string { data := #[] }))),
o 3 (pO false)]
def k58_r3 := [o 12 (pM 0),
o 13 (pM 0),
o 14 (pN 13 9),
o 15 (pK .sub 3 14 .i64 1 3),
o 16 (.slice 9 (.tmp 12) (some (.const (.int .i64 1))) (some (.tmp 15)) .none),
o 2 (pA 16),
o 3 (pO true)]
def k58 : CC := (.seq (.region k58_r0) (.seq (.seq (.region k58_r1) (.cond (.tmp 11) (.seq (.region k58_r2) .ret) .skip)) (.seq (.region k58_r3) .ret)))
def k58_p := PLift.up <| aI (vE k58.eq_1) <| aI (oE k58_r0.eq_1) <| aI (oE k58_r1.eq_1) <| aI (oE k58_r2.eq_1) (oE k58_r3.eq_1)
theorem k58_a : type_of% k58_p.down := k58_p.down
/-- quern/value.List -/
theorem k58_is : FnIs Try.prog prims 58 17 [ResultVar.tmp 2, ResultVar.tmp 3] k58 := FnIs.of_fn Try.func58 (by kernel_rfl) rfl
def k61_r0 := [o 2 (.assign (.const (.string { data := #[] }))),
o 3 (.assign (.const (.string { data := #[] }))),
o 4 (pO false)]
def k61_r1 := [o 8 (pM 0),
o 9 (pC 39 8 9),
o 10 (.unOp .not 4 (.tmp 9)),
o 11 (pM 10),
oF 12 (pM 0) 11,
oF 13 (.index 9 (.tmp 12) (.const (.int .i64 0))) 11,
oF 14 (pK .neq 5 13 .u8 123 5) 11,
o 15 (pV 11 14)]
def k61_r2 := [o 2 (.assign (.const (.string { data := #[] }))),
o 3 (.assign (.const (.string { data := #[] }))),
o 4 (pO false)]
def k61_r3 := [o 17 (pM 0),
o 18 (pM 0),
o 19 (pN 18 9),
o 20 (pK .sub 3 19 .i64 1 3),
o 21 (.slice 9 (.tmp 17) (some (.const (.int .i64 1))) (some (.tmp 20)) .none),
o 22 (.call { callee := .value (.func 71), args := #[.tmp 21, .const (.string { data := #[58] })], argTypes := #[9, 9] }),
o 16 (pM 22),
o 23 (pX 16 0),
o 24 (pX 16 1),
o 25 (pX 16 2),
o 5 (pA 23),
o 6 (pA 24),
o 7 (pA 25)]
def k61_r4 := [o 26 (pM 5),
o 27 (pM 6),
o 2 (pA 26),
o 3 (pA 27),
o 4 (pO true)]
def k61 : CC := (.seq (.region k61_r0) (.seq (.seq (.region k61_r1) (.cond (.tmp 15) (.seq (.region k61_r2) .ret) .skip)) (.seq (.region k61_r3) (.seq (.region k61_r4) .ret))))
def k61_p := PLift.up <| aI (vE k61.eq_1) <| aI (oE k61_r0.eq_1) <| aI (oE k61_r1.eq_1) <| aI (oE k61_r2.eq_1) <| aI (oE k61_r3.eq_1) (oE k61_r4.eq_1)
theorem k61_a : type_of% k61_p.down := k61_p.down
/-- quern/value.Map -/
theorem k61_is : FnIs Try.prog prims 61 28 [ResultVar.tmp 2, ResultVar.tmp 3, ResultVar.tmp 4] k61 := FnIs.of_fn Try.func61 (by kernel_rfl) rfl
def k21_r0 := [o 2 (.box 29 (.tmp 0)),
o 4 (pO false)]
def k21_r1 := [o 5 (pM 1),
o 6 (pC 39 5 9),
o 7 (pM 6),
oT 8 (pL 29 2) 7,
oT 9 (pC 40 8 29) 7,
oT 10 (pK .leq 3 9 .i64 16384 3) 7,
o 11 (pU 7 10),
o 12 (pM 11),
oT 13 (pL 29 2) 12,
oT 14 (pM 1) 12,
oT 15 (pD 41 13 14 29 9) 12,
o 16 (pU 12 15),
o 4 (pA 16)]
def k21 : CC := (.seq (.region k21_r0) (.seq (.region k21_r1) .ret))
def k21_p := PLift.up <| aI (vE k21.eq_1) <| aI (oE k21_r0.eq_1) (oE k21_r1.eq_1)
theorem k21_a : type_of% k21_p.down := k21_p.down
/-- quern/value.Fits -/
theorem k21_is : FnIs Try.prog prims 21 17 [ResultVar.tmp 4] k21 := FnIs.of_fn Try.func21 (by kernel_rfl) rfl
def k62_r0 := [o 2 (.box 29 (.tmp 0)),
o 3 (.box 29 (.tmp 1)),
o 4 (pZ .i64 0)]
def k62_r1 : CC := (.wregion [
(true, oX 5 (pF 29 2 0)),
(false, oX 6 (pL 3 5)),
(false, oX 7 (pF 29 3 0)),
(false, oX 8 (pL 3 7)),
(false, oX 9 (pD 73 6 8 3 3)),
(true, oX 10 (pF 29 2 1)),
(true, oX 11 (pL 3 10)),
(false, oX 12 (pF 29 3 1)),
(true, oX 13 (pL 3 12)),
(false, oX 14 (pD 73 11 13 3 3)),
(true, oX 15 (pF 29 2 2)),
(true, oX 16 (pL 9 15)),
(false, oX 17 (pF 29 3 2)),
(true, oX 18 (pL 9 17)),
(false, oX 19 (pD 74 16 18 9 9)),
(true, oX 20 (pF 29 2 3)),
(true, oX 21 (pL 22 20)),
(false, o 22 (pF 29 3 3)),
(true, o 23 (pL 22 22)),
(false, o 24 (.call { callee := .value (.func 75), args := #[.tmp 21, .tmp 23, .func 62], argTypes := #[22, 22, 91] })),
(false, o 25 (.buildSlice 70 4 #[(0, .tmp 9), (1, .tmp 14), (2, .tmp 19), (3, .tmp 24)])),
(false, o 26 (pC 72 25 70)),
(false, o 4 (pA 26))] false [(6, oX 11 (pL 3 10), [0, 5]), (8, oX 13 (pL 3 12), [0, 5]), (11, oX 16 (pL 9 15), [0, 5, 10]), (13, oX 18 (pL 9 17), [0, 5, 10]), (16, oX 21 (pL 22 20), [0, 5, 10, 15]), (18, o 23 (pL 22 22), [0, 5, 10, 15])])
def k62 : CC := (.seq (.region k62_r0) (.seq k62_r1 .ret))
def k62_p := PLift.up <| aI (vE k62.eq_1) <| aI (oE k62_r0.eq_1) (vE k62_r1.eq_1)
theorem k62_a : type_of% k62_p.down := k62_p.down
/-- quern/value.Compare -/
theorem k62_is : FnIs Try.prog prims 62 27 [ResultVar.tmp 4] k62 := FnIs.of_fn Try.func62 (by kernel_rfl) rfl
def k40_r0 := [o 1 (.box 29 (.tmp 0)),
o 2 (pZ .i64 0)]
def k40_r1 := [o 6 (pF 29 1 2),
o 7 (pL 9 6),
o 8 (pN 7 9),
o 9 (.binOp .add 3 (.const (.int .i64 1)) (.tmp 8) 3),
o 3 (pA 9)]
def k40_r2 := [o 10 (pF 29 1 3),
o 11 (pL 22 10),
o 12 (pN 11 22),
o 13 (pW .i64 0)]
def k40_r3 := [o 14 (pB .lss 3 13 12 3)]
def k40_r4 := [o 15 (pI 22 11 13),
o 16 (pL 29 15),
o 5 (.alloc 29),
oS 29 5 16]
def k40_r5 := [o 17 (pM 3),
o 18 (pL 29 5),
o 19 (pC 40 18 29),
o 20 (pB .add 3 17 19 3),
o 3 (pA 20)]
def k40_r6 := [o 21 (pK .add 3 13 .i64 1 3),
o 13 (pM 21)]
def k40_l0 : CC := (.seq (.region k40_r3) (.seq (.cond (.tmp 14) .skip (.exit 0)) (.seq (.block 1 (.seq (.region k40_r4) (.region k40_r5))) (.region k40_r6))))
def k40_r7 := [o 22 (pM 3),
o 2 (pA 22)]
def k40 : CC := (.seq (.region k40_r0) (.seq (.region k40_r1) (.seq (.seq (.region k40_r2) (.block 0 (.loop k40_l0))) (.seq (.region k40_r7) .ret))))
def k40_p := PLift.up <| aI (vE k40.eq_1) <| aI (oE k40_r0.eq_1) <| aI (oE k40_r1.eq_1) <| aI (oE k40_r2.eq_1) <| aI (oE k40_r3.eq_1) <| aI (oE k40_r4.eq_1) <| aI (oE k40_r5.eq_1) <| aI (oE k40_r6.eq_1) <| aI (vE k40_l0.eq_1) (oE k40_r7.eq_1)
theorem k40_a : type_of% k40_p.down := k40_p.down
/-- quern/value.Weight -/
theorem k40_is : FnIs Try.prog prims 40 23 [ResultVar.tmp 2] k40 := FnIs.of_fn Try.func40 (by kernel_rfl) rfl
def k39_r0 := [o 2 (pO false)]
def k39_r1 := [o 3 (pM 0),
o 4 (.call { callee := .value (.func 57), args := #[.tmp 3, .const (.int .i64 1)], argTypes := #[9, 3] }),
o 2 (pA 4)]
def k39 : CC := (.seq (.region k39_r0) (.seq (.region k39_r1) .ret))
def k39_p := PLift.up <| aI (vE k39.eq_1) <| aI (oE k39_r0.eq_1) (oE k39_r1.eq_1)
theorem k39_a : type_of% k39_p.down := k39_p.down
/-- quern/show.Type -/
theorem k39_is : FnIs Try.prog prims 39 5 [ResultVar.tmp 2] k39 := FnIs.of_fn Try.func39 (by kernel_rfl) rfl
def k71_r0 := [o 4 (.assign (.const (.string { data := #[] }))),
o 5 (.assign (.const (.string { data := #[] }))),
o 6 (pO false)]
def k71_r1 := [o 7 (pM 0),
o 8 (pM 1),
o 9 (pD 77 7 8 9 9),
o 10 (pX 9 0),
o 11 (pX 9 1),
o 12 (pX 9 2),
o 4 (pA 10),
o 5 (pA 11),
o 6 (pA 12)]
def k71 : CC := (.seq (.region k71_r0) (.seq (.region k71_r1) .ret))
def k71_p := PLift.up <| aI (vE k71.eq_1) <| aI (oE k71_r0.eq_1) (oE k71_r1.eq_1)
theorem k71_a : type_of% k71_p.down := k71_p.down
/-- strings.Cut -/
theorem k71_is : FnIs Try.prog prims 71 13 [ResultVar.tmp 4, ResultVar.tmp 5, ResultVar.tmp 6] k71 := FnIs.of_fn Try.func71 (by kernel_rfl) rfl
def k41_r0 := [o 2 (.box 29 (.tmp 0)),
o 4 (pO false)]
def k41_r1 := [o 12 (pM 1),
o 13 (.binOp .eql 9 (.tmp 12) (.const (.string { data := #[105, 110, 116] })) 9),
o 11 (pA 13)]
def k41_r2 := [o 14 (pF 29 2 0),
o 15 (pL 3 14),
o 16 (pK .eql 3 15 .i64 1 3),
o 17 (pM 16),
oT 18 (pF 29 2 2) 17,
oT 19 (pL 9 18) 17,
oT 20 (.binOp .eql 9 (.tmp 19) (.const (.string { data := #[] })) 9) 17,
o 21 (pU 17 20),
o 22 (pM 21),
oT 23 (pF 29 2 3) 22,
oT 24 (pL 22 23) 22,
oT 25 (pN 24 22) 22,
oT 26 (pK .eql 3 25 .i64 0 3) 22,
o 27 (pU 22 26),
o 4 (pA 27)]
def k41_r3 := [o 29 (pM 1),
o 30 (.binOp .eql 9 (.tmp 29) (.const (.string { data := #[98, 111, 111, 108] })) 9),
o 28 (pA 30)]
def k41_r4 := [o 31 (pF 29 2 0),
o 32 (pL 3 31),
o 33 (pK .eql 3 32 .i64 2 3),
o 34 (pM 33),
oT 35 (pF 29 2 1) 34,
oT 36 (pL 3 35) 34,
oT 37 (pK .eql 3 36 .i64 0 3) 34,
oT 38 (pM 37) 34,
oF 39 (pF 29 2 1) 38,
oF 40 (pL 3 39) 38,
oF 41 (pK .eql 3 40 .i64 1 3) 38,
oT 42 (pV 38 41) 34,
o 43 (pU 34 42),
o 44 (pM 43),
oT 45 (pF 29 2 2) 44,
oT 46 (pL 9 45) 44,
oT 47 (.binOp .eql 9 (.tmp 46) (.const (.string { data := #[] })) 9) 44,
o 48 (pU 44 47),
o 49 (pM 48),
oT 50 (pF 29 2 3) 49,
oT 51 (pL 22 50) 49,
oT 52 (pN 51 22) 49,
oT 53 (pK .eql 3 52 .i64 0 3) 49,
o 54 (pU 49 53),
o 4 (pA 54)]
def k41_r5 := [o 56 (pF 29 2 1),
o 57 (pL 3 56),
o 58 (pK .neq 3 57 .i64 0 3),
o 59 (pM 58),
oF 60 (pM 1) 59,
oF 61 (.binOp .neq 9 (.tmp 60) (.const (.string { data := #[116, 101, 120, 116] })) 9) 59,
oF 62 (pM 61) 59,
oT 63 (pF 29 2 2) 62,
oT 64 (pL 9 63) 62,
oT 65 (.binOp .neq 9 (.tmp 64) (.const (.string { data := #[] })) 9) 62,
oF 66 (pU 62 65) 59,
o 67 (pV 59 66),
o 55 (pA 67)]
def k41_r6 := [o 4 (pO false)]
def k41_r7 := [o 69 (pM 1),
o 70 (.binOp .eql 9 (.tmp 69) (.const (.string { data := #[116, 101, 120, 116] })) 9),
o 68 (pA 70)]
def k41_r8 := [o 71 (pF 29 2 0),
o 72 (pL 3 71),
o 73 (pK .eql 3 72 .i64 3 3),
o 74 (pM 73),
oT 75 (pF 29 2 2) 74,
oT 76 (pL 9 75) 74,
oT 77 (pN 76 9) 74,
oT 78 (pK .leq 3 77 .i64 256 3) 74,
o 79 (pU 74 78),
o 80 (pM 79),
oT 81 (pF 29 2 3) 80,
oT 82 (pL 22 81) 80,
oT 83 (pN 82 22) 80,
oT 84 (pK .eql 3 83 .i64 0 3) 80,
o 85 (pU 80 84),
o 4 (pA 85)]
def k41_r9 := [o 87 (pM 1),
o 88 (pC 58 87 9),
o 86 (pM 88),
o 89 (pX 86 0),
o 90 (pX 86 1),
o 5 (.alloc 9),
oS 9 5 89,
o 6 (pA 90)]
def k41_r10 := [o 91 (pM 6)]
def k41_r11 := [o 92 (pF 29 2 0),
o 93 (pL 3 92),
o 94 (pK .eql 3 93 .i64 4 3),
o 95 (pM 94),
oT 96 (pF 29 2 3) 95,
oT 97 (pL 22 96) 95,
oT 98 (pN 97 22) 95,
oT 99 (pK .leq 3 98 .i64 64 3) 95,
o 100 (pU 95 99),
o 101 (pM 100),
oT 102 (pF 29 2 3) 101,
oT 103 (pL 22 102) 101,
oT 104 (.makeFunc (.func 60) #[] #[.tmp 5]) 101,
oT 105 (pD 59 103 104 22 88) 101,
oT 106 (.unOp .not 4 (.tmp 105)) 101,
o 107 (pU 101 106),
o 4 (pA 107)]
def k41_r12 := [o 109 (pM 1),
o 110 (pC 61 109 9),
o 108 (pM 110),
o 111 (pX 108 0),
o 112 (pX 108 1),
o 113 (pX 108 2),
o 7 (pA 111),
o 8 (pA 112),
o 9 (pA 113)]
def k41_r13 := [o 114 (pF 29 2 0),
o 115 (pL 3 114),
o 116 (pK .neq 3 115 .i64 5 3),
o 117 (pM 116),
oF 118 (pF 29 2 3) 117,
oF 119 (pL 22 118) 117,
oF 120 (pN 119 22) 117,
oF 121 (pK .rem 3 120 .i64 2 3) 117,
oF 122 (pK .neq 3 121 .i64 0 3) 117,
o 123 (pV 117 122),
o 124 (pM 123),
oF 125 (pF 29 2 3) 124,
oF 126 (pL 22 125) 124,
oF 127 (pN 126 22) 124,
oF 128 (pK .gtr 3 127 .i64 128 3) 124,
o 129 (pV 124 128)]
def k41_r14 := [o 4 (pO false)]
def k41_r15 := [o 10 (pZ .i64 0)]
def k41_r16 := [o 130 (pM 10),
o 131 (pF 29 2 3),
o 132 (pL 22 131),
o 133 (pN 132 22),
o 134 (pB .lss 3 130 133 3)]
def k41_r18 := [oX 137 (pF 29 2 3),
oX 138 (pL 22 137),
oX 139 (pM 10),
oX 140 (pI 22 138 139),
oX 141 (pL 29 140),
o 142 (pM 7),
o 143 (pD 41 141 142 29 9),
o 144 (.unOp .not 4 (.tmp 143)),
o 145 (pM 144),
⟨some 146, .fieldAddr 29 (.tmp 2) 3, some (145, false), false⟩,
⟨some 147, .load 22 (.tmp 146), some (145, false), false⟩,
⟨some 148, .move (.tmp 10), some (145, false), false⟩,
⟨some 149, .binOp .add 3 (.tmp 148) (.const (.int .i64 1)) 3, some (145, false), false⟩,
⟨some 150, .indexAddr 22 (.tmp 147) (.tmp 149), some (145, false), false⟩,
⟨some 151, .load 29 (.tmp 150), some (145, false), false⟩,
oF 152 (pM 8) 145,
oF 153 (pD 41 151 152 29 9) 145,
oF 154 (.unOp .not 4 (.tmp 153)) 145,
o 155 (pV 145 154),
o 156 (pM 155),
oF 157 (pM 10) 156,
oF 158 (pK .gtr 3 157 .i64 0 3) 156,
oF 159 (pM 158) 156,
⟨some 160, .fieldAddr 29 (.tmp 2) 3, some (159, true), false⟩,
⟨some 161, .load 22 (.tmp 160), some (159, true), false⟩,
⟨some 162, .move (.tmp 10), some (159, true), false⟩,
⟨some 163, .binOp .sub 3 (.tmp 162) (.const (.int .i64 2)) 3, some (159, true), false⟩,
⟨some 164, .indexAddr 22 (.tmp 161) (.tmp 163), some (159, true), false⟩,
⟨some 165, .load 29 (.tmp 164), some (159, true), false⟩,
⟨some 166, .fieldAddr 29 (.tmp 2) 3, some (159, true), false⟩,
⟨some 167, .load 22 (.tmp 166), some (159, true), false⟩,
oT 168 (pM 10) 159,
oT 169 (pI 22 167 168) 159,
oT 170 (pL 29 169) 159,
oT 171 (pD 62 165 170 29 29) 159,
oT 172 (pK .geq 3 171 .i64 0 3) 159,
oF 173 (pU 159 172) 156,
o 174 (pV 156 173)]
def k41_r19 := [o 4 (pO false)]
def k41_r17 := [o 135 (pM 10),
o 136 (pK .add 3 135 .i64 2 3),
o 10 (pA 136)]
def k41_l0 : CC := (.seq (.seq (.region k41_r16) (.cond (.tmp 134) .skip (.exit 1))) (.seq (.block 2 (.seq (.region k41_r18) (.cond (.tmp 174) (.seq (.region k41_r19) .ret) .skip))) (.region k41_r17)))
def k41_r20 := [o 4 (pO true)]
def k41 : CC := (.seq (.region k41_r0) (.seq (.block 0 (.seq (.region k41_r1) (.cond (.tmp 11) (.seq (.region k41_r2) .ret) (.seq (.region k41_r3) (.cond (.tmp 28) (.seq (.region k41_r4) .ret) (.seq (.region k41_r5) (.cond (.tmp 55) (.seq (.region k41_r6) .ret) (.seq (.region k41_r7) (.cond (.tmp 68) (.seq (.region k41_r8) .ret) .skip))))))))) (.seq (.seq (.region k41_r9) (.seq (.region k41_r10) (.cond (.tmp 91) (.seq (.region k41_r11) .ret) .skip))) (.seq (.region k41_r12) (.seq (.seq (.region k41_r13) (.cond (.tmp 129) (.seq (.region k41_r14) .ret) .skip)) (.seq (.seq (.region k41_r15) (.block 1 (.loop k41_l0))) (.seq (.region k41_r20) .ret)))))))
def k41_p := PLift.up <| aI (vE k41.eq_1) <| aI (oE k41_r0.eq_1) <| aI (oE k41_r1.eq_1) <| aI (oE k41_r2.eq_1) <| aI (oE k41_r3.eq_1) <| aI (oE k41_r4.eq_1) <| aI (oE k41_r5.eq_1) <| aI (oE k41_r6.eq_1) <| aI (oE k41_r7.eq_1) <| aI (oE k41_r8.eq_1) <| aI (oE k41_r9.eq_1) <| aI (oE k41_r10.eq_1) <| aI (oE k41_r11.eq_1) <| aI (oE k41_r12.eq_1) <| aI (oE k41_r13.eq_1) <| aI (oE k41_r14.eq_1) <| aI (oE k41_r15.eq_1) <| aI (oE k41_r16.eq_1) <| aI (oE k41_r18.eq_1) <| aI (oE k41_r19.eq_1) <| aI (oE k41_r17.eq_1) <| aI (vE k41_l0.eq_1) (oE k41_r20.eq_1)
theorem k41_a : type_of% k41_p.down := k41_p.down
/-- quern/value.fits -/
theorem k41_is : FnIs Try.prog prims 41 175 [ResultVar.tmp 4] k41 := FnIs.of_fn Try.func41 (by kernel_rfl) rfl
def k72_r0 := [o 2 (pZ .i64 0)]
def k72_r1 := [o 3 (pZ .i64 0)]
def k72_r2 := [o 6 (pM 0),
o 7 (pN 6 70),
o 8 (pW .i64 0)]
def k72_r3 := [o 9 (pB .lss 3 8 7 3)]
def k72_r4 := [o 10 (pI 70 6 8),
o 11 (pL 3 10),
o 5 (pA 11)]
def k72_r5 := [o 12 (pM 5),
o 13 (pM 3),
o 14 (pB .neq 3 12 13 3)]
def k72_r6 := [o 15 (pM 5),
o 2 (pA 15)]
def k72_r7 := [o 16 (pK .add 3 8 .i64 1 3),
o 8 (pM 16)]
def k72_l0 : CC := (.seq (.region k72_r3) (.seq (.cond (.tmp 9) .skip (.exit 0)) (.seq (.block 1 (.seq (.region k72_r4) (.seq (.region k72_r5) (.cond (.tmp 14) (.seq (.region k72_r6) .ret) .skip)))) (.region k72_r7))))
def k72_r8 := [o 17 (pM 3),
o 2 (pA 17)]
def k72 : CC := (.seq (.region k72_r0) (.seq (.region k72_r1) (.seq (.seq (.region k72_r2) (.block 0 (.loop k72_l0))) (.seq (.region k72_r8) .ret))))
def k72_p := PLift.up <| aI (vE k72.eq_1) <| aI (oE k72_r0.eq_1) <| aI (oE k72_r1.eq_1) <| aI (oE k72_r2.eq_1) <| aI (oE k72_r3.eq_1) <| aI (oE k72_r4.eq_1) <| aI (oE k72_r5.eq_1) <| aI (oE k72_r6.eq_1) <| aI (oE k72_r7.eq_1) <| aI (vE k72_l0.eq_1) (oE k72_r8.eq_1)
theorem k72_a : type_of% k72_p.down := k72_p.down
/-- cmp.Or[int] -/
theorem k72_is : FnIs Try.prog prims 72 18 [ResultVar.tmp 2] k72 := FnIs.of_fn Try.func72 (by kernel_rfl) rfl
def k73_r0 := [o 4 (pZ .i64 0)]
def k73_r1 := [o 7 (pM 0),
o 8 (pC 78 7 3),
o 5 (pA 8)]
def k73_r2 := [o 9 (pM 1),
o 10 (pC 78 9 3),
o 6 (pA 10)]
def k73_r3 := [o 11 (pM 5)]
def k73_r4 := [o 12 (pM 6)]
def k73_r5 := [o 4 (pZ .i64 0)]
def k73_r6 := [o 4 (pZ .i64 (-1))]
def k73_r7 := [o 13 (pM 6)]
def k73_r8 := [o 4 (pZ .i64 1)]
def k73_r9 := [o 14 (pM 0),
o 15 (pM 1),
o 16 (pB .lss 3 14 15 3)]
def k73_r10 := [o 4 (pZ .i64 (-1))]
def k73_r11 := [o 17 (pM 0),
o 18 (pM 1),
o 19 (pB .gtr 3 17 18 3)]
def k73_r12 := [o 4 (pZ .i64 1)]
def k73_r13 := [o 4 (pZ .i64 0)]
def k73 : CC := (.seq (.region k73_r0) (.seq (.region k73_r1) (.seq (.region k73_r2) (.seq (.seq (.region k73_r3) (.cond (.tmp 11) (.seq (.seq (.region k73_r4) (.cond (.tmp 12) (.seq (.region k73_r5) .ret) .skip)) (.seq (.region k73_r6) .ret)) .skip)) (.seq (.seq (.region k73_r7) (.cond (.tmp 13) (.seq (.region k73_r8) .ret) .skip)) (.seq (.seq (.region k73_r9) (.cond (.tmp 16) (.seq (.region k73_r10) .ret) .skip)) (.seq (.seq (.region k73_r11) (.cond (.tmp 19) (.seq (.region k73_r12) .ret) .skip)) (.seq (.region k73_r13) .ret))))))))
def k73_p := PLift.up <| aI (vE k73.eq_1) <| aI (oE k73_r0.eq_1) <| aI (oE k73_r1.eq_1) <| aI (oE k73_r2.eq_1) <| aI (oE k73_r3.eq_1) <| aI (oE k73_r4.eq_1) <| aI (oE k73_r5.eq_1) <| aI (oE k73_r6.eq_1) <| aI (oE k73_r7.eq_1) <| aI (oE k73_r8.eq_1) <| aI (oE k73_r9.eq_1) <| aI (oE k73_r10.eq_1) <| aI (oE k73_r11.eq_1) <| aI (oE k73_r12.eq_1) (oE k73_r13.eq_1)
theorem k73_a : type_of% k73_p.down := k73_p.down
/-- cmp.Compare[int] -/
theorem k73_is : FnIs Try.prog prims 73 20 [ResultVar.tmp 4] k73 := FnIs.of_fn Try.func73 (by kernel_rfl) rfl
def k75_r0 := [o 6 (pZ .i64 0)]
def k75_r1 := [o 11 (pM 0),
o 12 (pN 11 22),
o 13 (pW .i64 0)]
def k75_r2 := [o 14 (pB .lss 3 13 12 3)]
def k75_r3 := [o 15 (pM 13),
o 16 (pI 22 11 13),
o 17 (pL 29 16),
o 8 (.alloc 29),
o 7 (pA 15),
oS 29 8 17]
def k75_r4 := [o 18 (pM 7),
o 19 (pM 1),
o 20 (pN 19 22),
o 21 (pB .geq 3 18 20 3)]
def k75_r5 := [o 6 (pZ .i64 1)]
def k75_r6 := [o 22 (pM 1),
o 23 (pM 7),
o 24 (pI 22 22 23),
o 25 (pL 29 24),
o 9 (.alloc 29),
oS 29 9 25]
def k75_r7 := [o 26 (pM 2),
o 27 (pL 29 8),
o 28 (pL 29 9),
o 29 (.call { callee := .value (.tmp 26), args := #[.tmp 27, .tmp 28], argTypes := #[29, 29] }),
o 10 (pA 29)]
def k75_r8 := [o 30 (pM 10),
o 31 (pK .neq 3 30 .i64 0 3)]
def k75_r9 := [o 32 (pM 10),
o 6 (pA 32)]
def k75_r10 := [o 33 (pK .add 3 13 .i64 1 3),
o 13 (pM 33)]
def k75_l0 : CC := (.seq (.region k75_r2) (.seq (.cond (.tmp 14) .skip (.exit 0)) (.seq (.block 1 (.seq (.region k75_r3) (.seq (.seq (.region k75_r4) (.cond (.tmp 21) (.seq (.region k75_r5) .ret) .skip)) (.seq (.region k75_r6) (.seq (.region k75_r7) (.seq (.region k75_r8) (.cond (.tmp 31) (.seq (.region k75_r9) .ret) .skip))))))) (.region k75_r10))))
def k75_r11 := [o 34 (pM 0),
o 35 (pN 34 22),
o 36 (pM 1),
o 37 (pN 36 22),
o 38 (pB .lss 3 35 37 3)]
def k75_r12 := [o 6 (pZ .i64 (-1))]
def k75_r13 := [o 6 (pZ .i64 0)]
def k75 : CC := (.seq (.region k75_r0) (.seq (.seq (.region k75_r1) (.block 0 (.loop k75_l0))) (.seq (.seq (.region k75_r11) (.cond (.tmp 38) (.seq (.region k75_r12) .ret) .skip)) (.seq (.region k75_r13) .ret))))
def k75_p := PLift.up <| aI (vE k75.eq_1) <| aI (oE k75_r0.eq_1) <| aI (oE k75_r1.eq_1) <| aI (oE k75_r2.eq_1) <| aI (oE k75_r3.eq_1) <| aI (oE k75_r4.eq_1) <| aI (oE k75_r5.eq_1) <| aI (oE k75_r6.eq_1) <| aI (oE k75_r7.eq_1) <| aI (oE k75_r8.eq_1) <| aI (oE k75_r9.eq_1) <| aI (oE k75_r10.eq_1) <| aI (vE k75_l0.eq_1) <| aI (oE k75_r11.eq_1) <| aI (oE k75_r12.eq_1) (oE k75_r13.eq_1)
theorem k75_a : type_of% k75_p.down := k75_p.down
/-- slices.CompareFunc[[]quern/api.Value,[]quern/api.Value,quern/api.Value,quern/api.Value] -/
theorem k75_is : FnIs Try.prog prims 75 39 [ResultVar.tmp 6] k75 := FnIs.of_fn Try.func75 (by kernel_rfl) rfl
def k35_r0 := [o 2 (pO false)]
def k35_r1 := [o 3 (pM 0),
o 4 (.binOp .neq 57 (.tmp 3) (.const (.pointer .none)) 57),
o 5 (pM 4),
oT 6 (pM 0) 5,
oT 7 (.nilCheck (.tmp 6)) 5,
oT 8 (pF 81 7 1) 5,
oT 9 (pL 4 8) 5,
oT 10 (.unOp .not 4 (.tmp 9)) 5,
o 11 (pU 5 10),
o 12 (pM 11),
oT 13 (pM 0) 12,
oT 14 (.nilCheck (.tmp 13)) 12,
oT 15 (pF 81 14 0) 12,
oT 16 (pL 41 15) 12,
oT 17 (pN 16 41) 12,
oT 18 (pK .eql 3 17 .i64 0 3) 12,
o 19 (pU 12 18),
o 2 (pA 19)]
def k35 : CC := (.seq (.region k35_r0) (.seq (.region k35_r1) .ret))
def k57_r0 := [o 4 (pO false)]
def k57_r1 := [o 11 (pM 0)]
def k57_r2 := [o 13 (.binOp .eql 9 (.tmp 11) (.const (.string { data := #[105, 110, 116] })) 9),
o 12 (pA 13)]
def k57_r3 := [o 14 (.binOp .eql 9 (.tmp 11) (.const (.string { data := #[98, 111, 111, 108] })) 9),
o 12 (pA 14)]
def k57_r4 := [o 15 (.binOp .eql 9 (.tmp 11) (.const (.string { data := #[116, 101, 120, 116] })) 9),
o 12 (pA 15)]
def k57_r5 := [o 16 (pM 1),
o 17 (pK .leq 3 16 .i64 4 3),
o 4 (pA 17)]
def k57_r6 := [o 18 (pM 0),
o 19 (pN 18 9),
o 20 (pK .lss 3 19 .i64 2 3),
o 21 (pM 20),
oF 22 (pM 1) 21,
oF 23 (pK .geq 3 22 .i64 4 3) 21,
o 24 (pV 21 23)]
def k57_r7 := [o 4 (pO false)]
def k57_r8 := [o 26 (pM 0),
o 27 (pM 0),
o 28 (pN 27 9),
o 29 (pK .sub 3 28 .i64 1 3),
o 30 (.slice 9 (.tmp 26) .none (some (.tmp 29)) .none),
o 31 (.call { callee := .value (.func 69), args := #[.tmp 30, .const (.string { data := #[91] })], argTypes := #[9, 9] }),
o 25 (pM 31),
o 32 (pX 25 0),
o 33 (pX 25 1),
o 5 (pA 32),
o 6 (pA 33)]
def k57_r9 := [o 34 (pM 6)]
def k57_r10 := [o 35 (pM 0),
o 36 (pM 0),
o 37 (pN 36 9),
o 38 (pK .sub 3 37 .i64 1 3),
o 39 (.index 9 (.tmp 35) (.tmp 38)),
o 40 (pK .eql 5 39 .u8 93 5),
o 41 (pM 40),
oT 42 (pM 5) 41,
oT 43 (pM 1) 41,
oT 44 (pK .add 3 43 .i64 1 3) 41,
oT 45 (pD 57 42 44 9 3) 41,
o 46 (pU 41 45),
o 4 (pA 46)]
def k57_r11 := [o 47 (.buildSlice 49 2 #[(0, .const (.string { data := #[123, 105, 110, 116, 58] })), (1, .const (.string { data := #[123, 116, 101, 120, 116, 58] }))]),
o 48 (pN 47 49),
o 49 (pW .i64 0)]
def k57_r12 := [o 50 (pB .lss 3 49 48 3)]
def k57_r13 := [o 51 (pI 49 47 49),
o 52 (pL 9 51),
o 8 (pA 52)]
def k57_r14 := [o 54 (pM 0),
o 55 (pM 0),
o 56 (pN 55 9),
o 57 (pK .sub 3 56 .i64 1 3),
o 58 (.slice 9 (.tmp 54) .none (some (.tmp 57)) .none),
o 59 (pM 8),
o 60 (pD 69 58 59 9 9),
o 53 (pM 60),
o 61 (pX 53 0),
o 62 (pX 53 1),
o 9 (pA 61),
o 10 (pA 62)]
def k57_r15 := [o 63 (pM 10)]
def k57_r16 := [o 64 (pM 0),
o 65 (pM 0),
o 66 (pN 65 9),
o 67 (pK .sub 3 66 .i64 1 3),
o 68 (.index 9 (.tmp 64) (.tmp 67)),
o 69 (pK .eql 5 68 .u8 125 5),
o 70 (pM 69),
oT 71 (pM 9) 70,
oT 72 (pM 1) 70,
oT 73 (pK .add 3 72 .i64 1 3) 70,
oT 74 (pD 57 71 73 9 3) 70,
o 75 (pU 70 74),
o 4 (pA 75)]
def k57_r17 := [o 76 (pK .add 3 49 .i64 1 3),
o 49 (pM 76)]
def k57_l0 : CC := (.seq (.region k57_r12) (.seq (.cond (.tmp 50) .skip (.exit 1)) (.seq (.block 2 (.seq (.region k57_r13) (.seq (.region k57_r14) (.seq (.region k57_r15) (.cond (.tmp 63) (.seq (.region k57_r16) .ret) .skip))))) (.region k57_r17))))
def k57_r18 := [o 4 (pO false)]
def k57 : CC := (.seq (.region k57_r0) (.seq (.seq (.region k57_r1) (.block 0 (.seq (.seq (.region k57_r2) (.cond (.tmp 12) .skip (.seq (.region k57_r3) (.cond (.tmp 12) .skip (.region k57_r4))))) (.cond (.tmp 12) (.seq (.region k57_r5) .ret) .skip)))) (.seq (.seq (.region k57_r6) (.cond (.tmp 24) (.seq (.region k57_r7) .ret) .skip)) (.seq (.seq (.region k57_r8) (.seq (.region k57_r9) (.cond (.tmp 34) (.seq (.region k57_r10) .ret) .skip))) (.seq (.seq (.region k57_r11) (.block 1 (.loop k57_l0))) (.seq (.region k57_r18) .ret))))))
def k57_p := PLift.up <| aI (vE k57.eq_1) <| aI (oE k57_r0.eq_1) <| aI (oE k57_r1.eq_1) <| aI (oE k57_r2.eq_1) <| aI (oE k57_r3.eq_1) <| aI (oE k57_r4.eq_1) <| aI (oE k57_r5.eq_1) <| aI (oE k57_r6.eq_1) <| aI (oE k57_r7.eq_1) <| aI (oE k57_r8.eq_1) <| aI (oE k57_r9.eq_1) <| aI (oE k57_r10.eq_1) <| aI (oE k57_r11.eq_1) <| aI (oE k57_r12.eq_1) <| aI (oE k57_r13.eq_1) <| aI (oE k57_r14.eq_1) <| aI (oE k57_r15.eq_1) <| aI (oE k57_r16.eq_1) <| aI (oE k57_r17.eq_1) <| aI (vE k57_l0.eq_1) (oE k57_r18.eq_1)
theorem k57_a : type_of% k57_p.down := k57_p.down
/-- quern/show.kind -/
theorem k57_is : FnIs Try.prog prims 57 77 [ResultVar.tmp 4] k57 := FnIs.of_fn Try.func57 (by kernel_rfl) rfl
def k77_r0 := [o 4 (.assign (.const (.string { data := #[] }))),
o 5 (.assign (.const (.string { data := #[] }))),
o 6 (pO false)]
def k77_r1 := [o 8 (pM 0),
o 9 (pM 1),
o 10 (pD 81 8 9 9 9),
o 7 (pA 10)]
def k77_r2 := [o 11 (pM 7),
o 12 (pK .geq 3 11 .i64 0 3)]
def k77_r3 := [oX 13 (pM 0),
oX 14 (pM 7),
oX 15 (.slice 9 (.tmp 13) .none (some (.tmp 14)) .none),
oX 16 (pM 0),
oX 17 (pM 7),
oX 18 (pM 1),
oX 19 (pN 18 9),
oX 20 (pB .add 3 17 19 3),
oX 21 (.slice 9 (.tmp 16) (some (.tmp 20)) .none .none),
o 4 (pA 15),
o 5 (pA 21),
o 6 (pO true)]
def k77_r4 := [o 22 (pM 0),
o 4 (pA 22),
o 5 (.assign (.const (.string { data := #[] }))),
o 6 (pO false)]
def k77 : CC := (.seq (.region k77_r0) (.seq (.seq (.region k77_r1) (.seq (.region k77_r2) (.cond (.tmp 12) (.seq (.region k77_r3) .ret) .skip))) (.seq (.region k77_r4) .ret)))
def k77_p := PLift.up <| aI (vE k77.eq_1) <| aI (oE k77_r0.eq_1) <| aI (oE k77_r1.eq_1) <| aI (oE k77_r2.eq_1) <| aI (oE k77_r3.eq_1) (oE k77_r4.eq_1)
theorem k77_a : type_of% k77_p.down := k77_p.down
/-- internal/stringslite.Cut -/
theorem k77_is : FnIs Try.prog prims 77 23 [ResultVar.tmp 4, ResultVar.tmp 5, ResultVar.tmp 6] k77 := FnIs.of_fn Try.func77 (by kernel_rfl) rfl
def k59_r0 := [o 4 (pO false)]
def k59_r1 := [o 5 (pM 0),
o 6 (pM 1),
o 7 (pD 70 5 6 22 88),
o 8 (pK .geq 3 7 .i64 0 3),
o 4 (pA 8)]
def k59 : CC := (.seq (.region k59_r0) (.seq (.region k59_r1) .ret))
def k59_p := PLift.up <| aI (vE k59.eq_1) <| aI (oE k59_r0.eq_1) (oE k59_r1.eq_1)
theorem k59_a : type_of% k59_p.down := k59_p.down
/-- slices.ContainsFunc[[]quern/api.Value,quern/api.Value] -/
theorem k59_is : FnIs Try.prog prims 59 9 [ResultVar.tmp 4] k59 := FnIs.of_fn Try.func59 (by kernel_rfl) rfl
def k60_r0 := [o 2 (.box 29 (.tmp 0)),
o 3 (pO false)]
def k60_r1 := [o 4 (pL 29 2),
o 5 (pL 9 1),
o 6 (pD 41 4 5 29 9),
o 7 (.unOp .not 4 (.tmp 6)),
o 3 (pA 7)]
def k60 : CC := (.seq (.region k60_r0) (.seq (.region k60_r1) .ret))
def k60_p := PLift.up <| aI (vE k60.eq_1) <| aI (oE k60_r0.eq_1) (oE k60_r1.eq_1)
theorem k60_a : type_of% k60_p.down := k60_p.down
/-- quern/value.fits$1 -/
theorem k60_is : FnIs Try.prog prims 60 8 [ResultVar.tmp 3] k60 := FnIs.of_fn Try.func60 (by kernel_rfl) rfl
def k78_r0 := [o 2 (pO false)]
def k78_r1 := [o 3 (pM 0),
o 4 (pM 0),
o 5 (pB .neq 3 3 4 3),
o 2 (pA 5)]
def k78 : CC := (.seq (.region k78_r0) (.seq (.region k78_r1) .ret))
def k78_p := PLift.up <| aI (vE k78.eq_1) <| aI (oE k78_r0.eq_1) (oE k78_r1.eq_1)
theorem k78_a : type_of% k78_p.down := k78_p.down
/-- cmp.isNaN[int] -/
theorem k78_is : FnIs Try.prog prims 78 6 [ResultVar.tmp 2] k78 := FnIs.of_fn Try.func78 (by kernel_rfl) rfl
def k69_r0 := [o 4 (.assign (.const (.string { data := #[] }))),
o 5 (pO false)]
def k69_r1 := [o 6 (pM 0),
o 7 (pM 1),
o 8 (pD 76 6 7 9 9),
o 9 (pX 8 0),
o 10 (pX 8 1),
o 4 (pA 9),
o 5 (pA 10)]
def k69 : CC := (.seq (.region k69_r0) (.seq (.region k69_r1) .ret))
def k69_p := PLift.up <| aI (vE k69.eq_1) <| aI (oE k69_r0.eq_1) (oE k69_r1.eq_1)
theorem k69_a : type_of% k69_p.down := k69_p.down
/-- strings.CutPrefix -/
theorem k69_is : FnIs Try.prog prims 69 11 [ResultVar.tmp 4, ResultVar.tmp 5] k69 := FnIs.of_fn Try.func69 (by kernel_rfl) rfl
def k81_r0 := [o 4 (pZ .i64 0)]
def k81_r1 := [o 14 (pM 1),
o 15 (pN 14 9),
o 5 (pA 15)]
def k81_r2 := [o 17 (pM 5),
o 18 (pK .eql 3 17 .i64 0 3),
o 19 (pM 18),
oF 20 (pM 1) 19,
oF 21 (pM 0) 19,
oF 22 (pB .eql 9 20 21 9) 19,
o 23 (pV 19 22),
o 16 (pA 23)]
def k81_r3 := [o 4 (pZ .i64 0)]
def k81_r4 := [o 25 (pM 5),
o 26 (pK .eql 3 25 .i64 1 3),
o 24 (pA 26)]
def k81_r5 := [o 27 (pM 0),
o 28 (pM 1),
o 29 (.index 9 (.tmp 28) (.const (.int .i64 0))),
o 30 (pD 83 27 29 9 5),
o 4 (pA 30)]
def k81_r6 := [o 32 (pM 5),
o 33 (pM 0),
o 34 (pN 33 9),
o 35 (pB .geq 3 32 34 3),
o 31 (pA 35)]
def k81_r7 := [o 4 (pZ .i64 (-1))]
def k81_r8 := [o 37 (pM 5),
o 38 (.load 3 (.global 0)),
o 39 (pB .leq 3 37 38 3),
o 40 (pM 39),
oT 41 (pM 0) 40,
oT 42 (pN 41 9) 40,
oT 43 (pK .leq 3 42 .i64 64 3) 40,
o 44 (pU 40 43),
o 36 (pA 44)]
def k81_r9 := [o 45 (pM 0),
o 46 (pM 1),
o 47 (pD 84 45 46 9 9),
o 4 (pA 47)]
def k81_r10 := [o 48 (pM 1),
o 49 (.index 9 (.tmp 48) (.const (.int .i64 0))),
o 6 (pA 49)]
def k81_r11 := [o 50 (pM 1),
o 51 (.index 9 (.tmp 50) (.const (.int .i64 1))),
o 7 (pA 51)]
def k81_r12 := [o 8 (pZ .i64 0)]
def k81_r13 := [o 52 (pM 0),
o 53 (pN 52 9),
o 54 (pM 5),
o 55 (pB .sub 3 53 54 3),
o 56 (pK .add 3 55 .i64 1 3),
o 9 (pA 56)]
def k81_r14 := [o 10 (pZ .i64 0)]
def k81_r15 := [o 57 (pM 8),
o 58 (pM 9),
o 59 (pB .lss 3 57 58 3)]
def k81_r16 := [o 60 (pM 0),
o 61 (pM 8),
o 62 (.index 9 (.tmp 60) (.tmp 61)),
o 63 (pM 6),
o 64 (pB .neq 5 62 63 5)]
def k81_r17 := [o 65 (pM 0),
o 66 (pM 8),
o 67 (pK .add 3 66 .i64 1 3),
o 68 (pM 9),
o 69 (.slice 9 (.tmp 65) (some (.tmp 67)) (some (.tmp 68)) .none),
o 70 (pM 6),
o 71 (pD 83 69 70 9 5),
o 11 (pA 71)]
def k81_r18 := [o 72 (pM 11),
o 73 (pK .lss 3 72 .i64 0 3)]
def k81_r19 := [o 4 (pZ .i64 (-1))]
def k81_r20 := [o 74 (pM 8),
o 75 (pM 11),
o 76 (pK .add 3 75 .i64 1 3),
o 77 (pB .add 3 74 76 3),
o 8 (pA 77)]
def k81_r21 := [o 78 (pM 0),
o 79 (pM 8),
o 80 (pK .add 3 79 .i64 1 3),
o 81 (.index 9 (.tmp 78) (.tmp 80)),
o 82 (pM 7),
o 83 (pB .eql 5 81 82 5),
o 84 (pM 83),
oT 85 (pM 0) 84,
oT 86 (pM 8) 84,
oT 87 (pM 8) 84,
oT 88 (pM 5) 84,
oT 89 (pB .add 3 87 88 3) 84,
oT 90 (.slice 9 (.tmp 85) (some (.tmp 86)) (some (.tmp 89)) .none) 84,
oT 91 (pM 1) 84,
oT 92 (pB .eql 9 90 91 9) 84,
o 93 (pU 84 92)]
def k81_r22 := [o 94 (pM 8),
o 4 (pA 94)]
def k81_r23 := [o 95 (pM 8),
o 96 (pK .add 3 95 .i64 1 3),
o 8 (pA 96)]
def k81_r24 := [o 97 (pM 10),
o 98 (pK .add 3 97 .i64 1 3),
o 10 (pA 98)]
def k81_r25 := [o 99 (pM 5),
o 100 (.load 3 (.global 0)),
o 101 (pB .leq 3 99 100 3),
o 102 (pM 101),
oT 103 (pM 10) 102,
oT 104 (pM 8) 102,
oT 105 (pC 85 104 3) 102,
oT 106 (pB .gtr 3 103 105 3) 102,
o 107 (pU 102 106)]
def k81_r26 := [o 108 (pM 0),
o 109 (pM 8),
o 110 (.slice 9 (.tmp 108) (some (.tmp 109)) .none .none),
o 111 (pM 1),
o 112 (pD 84 110 111 9 9),
o 12 (pA 112)]
def k81_r27 := [o 113 (pM 12),
o 114 (pK .geq 3 113 .i64 0 3)]
def k81_r28 := [o 115 (pM 12),
o 116 (pM 8),
o 117 (pB .add 3 115 116 3),
o 4 (pA 117)]
def k81_r29 := [o 4 (pZ .i64 (-1))]
def k81_r30 := [o 118 (pM 5),
o 119 (.load 3 (.global 0)),
o 120 (pB .gtr 3 118 119 3),
o 121 (pM 120),
oT 122 (pM 10) 121,
oT 123 (pM 8) 121,
oT 124 (pK .shr 3 123 .u64 4 97) 121,
oT 125 (.binOp .add 3 (.const (.int .i64 4)) (.tmp 124) 3) 121,
oT 126 (pB .geq 3 122 125 3) 121,
o 127 (pU 121 126),
o 128 (pM 127),
oT 129 (pM 8) 128,
oT 130 (pM 9) 128,
oT 131 (pB .lss 3 129 130 3) 128,
o 132 (pU 128 131)]
def k81_r31 := [o 133 (pM 0),
o 134 (pM 8),
o 135 (.slice 9 (.tmp 133) (some (.tmp 134)) .none .none),
o 136 (pM 1),
o 137 (pD 86 135 136 9 9),
o 13 (pA 137)]
def k81_r32 := [o 138 (pM 13),
o 139 (pK .lss 3 138 .i64 0 3)]
def k81_r33 := [o 4 (pZ .i64 (-1))]
def k81_r34 := [o 140 (pM 8),
o 141 (pM 13),
o 142 (pB .add 3 140 141 3),
o 4 (pA 142)]
def k81_l0 : CC := (.seq (.seq (.region k81_r15) (.cond (.tmp 59) .skip (.exit 1))) (.block 2 (.seq (.seq (.region k81_r16) (.cond (.tmp 64) (.seq (.region k81_r17) (.seq (.seq (.region k81_r18) (.cond (.tmp 73) (.seq (.region k81_r19) .ret) .skip)) (.region k81_r20))) .skip)) (.seq (.seq (.region k81_r21) (.cond (.tmp 93) (.seq (.region k81_r22) .ret) .skip)) (.seq (.region k81_r23) (.seq (.region k81_r24) (.seq (.region k81_r25) (.cond (.tmp 107) (.seq (.region k81_r26) (.seq (.seq (.region k81_r27) (.cond (.tmp 114) (.seq (.region k81_r28) .ret) .skip)) (.seq (.region k81_r29) .ret))) (.seq (.region k81_r30) (.cond (.tmp 132) (.seq (.region k81_r31) (.seq (.seq (.region k81_r32) (.cond (.tmp 139) (.seq (.region k81_r33) .ret) .skip)) (.seq (.region k81_r34) .ret))) .skip))))))))))
def k81_r35 := [o 4 (pZ .i64 (-1))]
def k81 : CC := (.seq (.region k81_r0) (.seq (.region k81_r1) (.seq (.block 0 (.seq (.region k81_r2) (.cond (.tmp 16) (.seq (.region k81_r3) .ret) (.seq (.region k81_r4) (.cond (.tmp 24) (.seq (.region k81_r5) .ret) (.seq (.region k81_r6) (.cond (.tmp 31) (.seq (.region k81_r7) .ret) (.seq (.region k81_r8) (.cond (.tmp 36) (.seq (.region k81_r9) .ret) .skip))))))))) (.seq (.region k81_r10) (.seq (.region k81_r11) (.seq (.region k81_r12) (.seq (.region k81_r13) (.seq (.region k81_r14) (.seq (.block 1 (.loop k81_l0)) (.seq (.region k81_r35) .ret))))))))))
def k81_p := PLift.up <| aI (vE k81.eq_1) <| aI (oE k81_r0.eq_1) <| aI (oE k81_r1.eq_1) <| aI (oE k81_r2.eq_1) <| aI (oE k81_r3.eq_1) <| aI (oE k81_r4.eq_1) <| aI (oE k81_r5.eq_1) <| aI (oE k81_r6.eq_1) <| aI (oE k81_r7.eq_1) <| aI (oE k81_r8.eq_1) <| aI (oE k81_r9.eq_1) <| aI (oE k81_r10.eq_1) <| aI (oE k81_r11.eq_1) <| aI (oE k81_r12.eq_1) <| aI (oE k81_r13.eq_1) <| aI (oE k81_r14.eq_1) <| aI (oE k81_r15.eq_1) <| aI (oE k81_r16.eq_1) <| aI (oE k81_r17.eq_1) <| aI (oE k81_r18.eq_1) <| aI (oE k81_r19.eq_1) <| aI (oE k81_r20.eq_1) <| aI (oE k81_r21.eq_1) <| aI (oE k81_r22.eq_1) <| aI (oE k81_r23.eq_1) <| aI (oE k81_r24.eq_1) <| aI (oE k81_r25.eq_1) <| aI (oE k81_r26.eq_1) <| aI (oE k81_r27.eq_1) <| aI (oE k81_r28.eq_1) <| aI (oE k81_r29.eq_1) <| aI (oE k81_r30.eq_1) <| aI (oE k81_r31.eq_1) <| aI (oE k81_r32.eq_1) <| aI (oE k81_r33.eq_1) <| aI (oE k81_r34.eq_1) <| aI (vE k81_l0.eq_1) (oE k81_r35.eq_1)
theorem k81_a : type_of% k81_p.down := k81_p.down
/-- internal/stringslite.Index -/
theorem k81_is : FnIs Try.prog prims 81 143 [ResultVar.tmp 4] k81 := FnIs.of_fn Try.func81 (by kernel_rfl) rfl
def k70_r0 := [o 4 (pZ .i64 0)]
def k70_r1 := [o 6 (pM 0),
o 7 (pN 6 22),
o 8 (pW .i64 0)]
def k70_r2 := [o 9 (pB .lss 3 8 7 3)]
def k70_r3 := [o 10 (pM 8),
o 5 (pA 10)]
def k70_r4 := [o 11 (pM 1),
o 12 (pM 0),
o 13 (pM 5),
o 14 (pI 22 12 13),
o 15 (pL 29 14),
o 16 (.call { callee := .value (.tmp 11), args := #[.tmp 15], argTypes := #[29] })]
def k70_r5 := [o 17 (pM 5),
o 4 (pA 17)]
def k70_r6 := [o 18 (pK .add 3 8 .i64 1 3),
o 8 (pM 18)]
def k70_l0 : CC := (.seq (.region k70_r2) (.seq (.cond (.tmp 9) .skip (.exit 0)) (.seq (.block 1 (.seq (.region k70_r3) (.seq (.region k70_r4) (.cond (.tmp 16) (.seq (.region k70_r5) .ret) .skip)))) (.region k70_r6))))
def k70_r7 := [o 4 (pZ .i64 (-1))]
def k70 : CC := (.seq (.region k70_r0) (.seq (.seq (.region k70_r1) (.block 0 (.loop k70_l0))) (.seq (.region k70_r7) .ret)))
def k70_p := PLift.up <| aI (vE k70.eq_1) <| aI (oE k70_r0.eq_1) <| aI (oE k70_r1.eq_1) <| aI (oE k70_r2.eq_1) <| aI (oE k70_r3.eq_1) <| aI (oE k70_r4.eq_1) <| aI (oE k70_r5.eq_1) <| aI (oE k70_r6.eq_1) <| aI (vE k70_l0.eq_1) (oE k70_r7.eq_1)
theorem k70_a : type_of% k70_p.down := k70_p.down
/-- slices.IndexFunc[[]quern/api.Value,quern/api.Value] -/
theorem k70_is : FnIs Try.prog prims 70 19 [ResultVar.tmp 4] k70 := FnIs.of_fn Try.func70 (by kernel_rfl) rfl
def k76_r0 := [o 4 (.assign (.const (.string { data := #[] }))),
o 5 (pO false)]
def k76_r1 := [o 6 (pM 0),
o 7 (pM 1),
o 8 (pD 80 6 7 9 9),
o 9 (.unOp .not 4 (.tmp 8))]
def k76_r2 := [o 10 (pM 0),
o 4 (pA 10),
o 5 (pO false)]
def k76_r3 := [o 11 (pM 0),
o 12 (pM 1),
o 13 (pN 12 9),
o 14 (.slice 9 (.tmp 11) (some (.tmp 13)) .none .none),
o 4 (pA 14),
o 5 (pO true)]
def k76 : CC := (.seq (.region k76_r0) (.seq (.seq (.region k76_r1) (.cond (.tmp 9) (.seq (.region k76_r2) .ret) .skip)) (.seq (.region k76_r3) .ret)))
def k76_p := PLift.up <| aI (vE k76.eq_1) <| aI (oE k76_r0.eq_1) <| aI (oE k76_r1.eq_1) <| aI (oE k76_r2.eq_1) (oE k76_r3.eq_1)
theorem k76_a : type_of% k76_p.down := k76_p.down
/-- internal/stringslite.CutPrefix -/
theorem k76_is : FnIs Try.prog prims 76 15 [ResultVar.tmp 4, ResultVar.tmp 5] k76 := FnIs.of_fn Try.func76 (by kernel_rfl) rfl
def k80_r0 := [o 4 (pO false)]
def k80_r1 := [o 5 (pM 0),
o 6 (pN 5 9),
o 7 (pM 1),
o 8 (pN 7 9),
o 9 (pB .geq 3 6 8 3),
o 10 (pM 9),
oT 11 (pM 0) 10,
oT 12 (pM 1) 10,
oT 13 (pN 12 9) 10,
oT 14 (.slice 9 (.tmp 11) .none (some (.tmp 13)) .none) 10,
oT 15 (pM 1) 10,
oT 16 (pB .eql 9 14 15 9) 10,
o 17 (pU 10 16),
o 4 (pA 17)]
def k80 : CC := (.seq (.region k80_r0) (.seq (.region k80_r1) .ret))
def k80_p := PLift.up <| aI (vE k80.eq_1) <| aI (oE k80_r0.eq_1) (oE k80_r1.eq_1)
theorem k80_a : type_of% k80_p.down := k80_p.down
/-- internal/stringslite.HasPrefix -/
theorem k80_is : FnIs Try.prog prims 80 18 [ResultVar.tmp 4] k80 := FnIs.of_fn Try.func80 (by kernel_rfl) rfl
def k14_r0 := [o 1 (.box 25 (.tmp 0)),
o 2 (.alloc 25)]
def k14_r1 := [o 6 (pF 25 1 0),
o 7 (pL 22 6),
o 8 (pC 27 7 22),
o 9 (.build 25 #[(0, .tmp 8)]),
o 3 (.alloc 25),
oS 25 3 9]
def k14_r2 := [o 10 (pF 25 1 1),
o 11 (pL 23 10),
o 12 (pN 11 23),
o 13 (pW .i64 0)]
def k14_r3 := [o 14 (pB .lss 3 13 12 3)]
def k14_r4 := [o 15 (pI 23 11 13),
o 16 (pL 37 15),
o 5 (.alloc 37),
oS 37 5 16]
def k14_r5 := [o 17 (.buildSlice 35 0 #[]),
o 18 (pF 37 5 4),
o 19 (pL 35 18),
o 20 (pQ 17 19 35 35),
o 21 (pF 37 5 4),
oS 35 21 20]
def k14_r6 : CC := (.hreg [
(false, o 22 (pF 25 3 1)),
(false, o 23 (pL 23 22)),
(false, o 24 (pL 37 5)),
(true, o 25 (.buildSlice 23 1 #[(0, .tmp 24)])),
(true, o 26 (pQ 23 25 23 23)),
(false, o 27 (pF 25 3 1)),
(false, oS 23 27 26)])
def k14_r7 := [o 28 (pK .add 3 13 .i64 1 3),
o 13 (pM 28)]
def k14_l0 : CC := (.seq (.region k14_r3) (.seq (.cond (.tmp 14) .skip (.exit 0)) (.seq (.block 1 (.seq (.region k14_r4) (.seq (.region k14_r5) k14_r6))) (.region k14_r7))))
def k14_r8 := [o 29 (pL 25 3),
oS 25 2 29]
def k14 : CC := (.seq (.region k14_r0) (.seq (.region k14_r1) (.seq (.seq (.region k14_r2) (.block 0 (.loop k14_l0))) (.seq (.region k14_r8) .ret))))
def k14_p := PLift.up <| aI (vE k14.eq_1) <| aI (oE k14_r0.eq_1) <| aI (oE k14_r1.eq_1) <| aI (oE k14_r2.eq_1) <| aI (oE k14_r3.eq_1) <| aI (oE k14_r4.eq_1) <| aI (oE k14_r5.eq_1) <| aI (vE k14_r6.eq_1) <| aI (oE k14_r7.eq_1) <| aI (vE k14_l0.eq_1) (oE k14_r8.eq_1)
theorem k14_a : type_of% k14_p.down := k14_p.down
/-- quern/quernref13.Copy -/
theorem k14_is : FnIs Try.prog prims 14 30 [ResultVar.cell 2 25] k14 := FnIs.of_fn Try.func14 (by kernel_rfl) rfl
def k27_r0 := [o 2 (.assign (.const (.slice .none 0 0)))]
def k27_r1 := [o 3 (.assign (.const (.slice .none 0 0)))]
def k27_r2 := [o 6 (pM 0),
o 7 (pN 6 22),
o 8 (pW .i64 0)]
def k27_r3 := [o 9 (pB .lss 3 8 7 3)]
def k27_r4 := [o 10 (pI 22 6 8),
o 11 (pL 29 10),
o 5 (.alloc 29),
oS 29 5 11]
def k27_r5 := [o 12 (pM 3),
o 13 (pL 29 5),
o 14 (pC 48 13 29),
o 15 (.buildSlice 22 1 #[(0, .tmp 14)]),
o 16 (pQ 12 15 22 22),
o 3 (pA 16)]
def k27_r6 := [o 17 (pK .add 3 8 .i64 1 3),
o 8 (pM 17)]
def k27_l0 : CC := (.seq (.region k27_r3) (.seq (.cond (.tmp 9) .skip (.exit 0)) (.seq (.block 1 (.seq (.region k27_r4) (.region k27_r5))) (.region k27_r6))))
def k27_r7 := [o 18 (pM 3),
o 2 (pA 18)]
def k27 : CC := (.seq (.region k27_r0) (.seq (.region k27_r1) (.seq (.seq (.region k27_r2) (.block 0 (.loop k27_l0))) (.seq (.region k27_r7) .ret))))
def k27_p := PLift.up <| aI (vE k27.eq_1) <| aI (oE k27_r0.eq_1) <| aI (oE k27_r1.eq_1) <| aI (oE k27_r2.eq_1) <| aI (oE k27_r3.eq_1) <| aI (oE k27_r4.eq_1) <| aI (oE k27_r5.eq_1) <| aI (oE k27_r6.eq_1) <| aI (vE k27_l0.eq_1) (oE k27_r7.eq_1)
theorem k27_a : type_of% k27_p.down := k27_p.down
/-- quern/quernref09.CopyAll -/
theorem k27_is : FnIs Try.prog prims 27 19 [ResultVar.tmp 2] k27 := FnIs.of_fn Try.func27 (by kernel_rfl) rfl
def k48_r0 := [o 1 (.box 29 (.tmp 0)),
o 2 (.alloc 29)]
def k48_r1 := [o 6 (pF 29 1 0),
o 7 (pL 3 6),
o 8 (pF 29 1 1),
o 9 (pL 3 8),
o 10 (pF 29 1 2),
o 11 (pL 9 10),
o 12 (.build 29 #[(0, .tmp 7), (1, .tmp 9), (2, .tmp 11)]),
o 3 (.alloc 29),
oS 29 3 12]
def k48_r2 := [o 13 (pF 29 1 3),
o 14 (pL 22 13),
o 15 (pN 14 22),
o 16 (pW .i64 0)]
def k48_r3 := [o 17 (pB .lss 3 16 15 3)]
def k48_r4 := [o 18 (pI 22 14 16),
o 19 (pL 29 18),
o 5 (.alloc 29),
oS 29 5 19]
def k48_r5 : CC := (.wregion [
(true, oX 20 (pF 29 3 3)),
(true, oX 21 (pL 22 20)),
(false, o 22 (pL 29 5)),
(false, o 23 (pC 48 22 29)),
(true, o 24 (.buildSlice 22 1 #[(0, .tmp 23)])),
(false, o 25 (pQ 21 24 22 22)),
(false, o 26 (pF 29 3 3)),
(false, oS 22 26 25)] false [(1, oX 21 (pL 22 20), [0, 4])])
def k48_r6 := [o 27 (pK .add 3 16 .i64 1 3),
o 16 (pM 27)]
def k48_l0 : CC := (.seq (.region k48_r3) (.seq (.cond (.tmp 17) .skip (.exit 0)) (.seq (.block 1 (.seq (.region k48_r4) k48_r5)) (.region k48_r6))))
def k48_r7 := [o 28 (pL 29 3),
oS 29 2 28]
def k48 : CC := (.seq (.region k48_r0) (.seq (.region k48_r1) (.seq (.seq (.region k48_r2) (.block 0 (.loop k48_l0))) (.seq (.region k48_r7) .ret))))
def k48_p := PLift.up <| aI (vE k48.eq_1) <| aI (oE k48_r0.eq_1) <| aI (oE k48_r1.eq_1) <| aI (oE k48_r2.eq_1) <| aI (oE k48_r3.eq_1) <| aI (oE k48_r4.eq_1) <| aI (vE k48_r5.eq_1) <| aI (oE k48_r6.eq_1) <| aI (vE k48_l0.eq_1) (oE k48_r7.eq_1)
theorem k48_a : type_of% k48_p.down := k48_p.down
/-- quern/quernref09.Copy -/
theorem k48_is : FnIs Try.prog prims 48 29 [ResultVar.cell 2 29] k48 := FnIs.of_fn Try.func48 (by kernel_rfl) rfl
def k5_r0 := [o 3 (.box 25 (.tmp 0)),
o 6 (pO false)]
def k5_r1 := [o 15 (.call { callee := .value (.func 8), args := #[], argTypes := #[] }),
o 16 (.unOp .not 4 (.tmp 15))]
def k5_r2 := [o 6 (pO false)]
def k5_r3 := [o 17 (pL 25 3),
o 18 (pC 9 17 25),
o 19 (pM 18),
oF 20 (pM 2) 19,
oF 21 (pN 20 41) 19,
oF 22 (pK .gtr 3 21 .i64 8192 3) 19,
o 23 (pV 19 22)]
def k5_r4 := [o 6 (pO true)]
def k5_r5 := [o 25 (pL 25 3),
o 26 (pM 1),
o 27 (pD 15 25 26 25 3),
o 24 (pM 27),
o 28 (pX 24 0),
o 29 (pX 24 1),
o 7 (pA 28),
o 8 (pA 29)]
def k5_r6 := [o 31 (pL 25 3),
o 32 (pM 1),
o 33 (pD 16 31 32 25 3),
o 30 (pM 33),
o 34 (pX 30 0),
o 35 (pX 30 1),
o 9 (pA 34),
o 10 (pA 35)]
def k5_r7 := [o 37 (pM 2),
o 38 (pM 1),
o 39 (pD 17 37 38 41 3),
o 36 (pM 39),
o 40 (pX 36 0),
o 41 (pX 36 1),
o 11 (.alloc 25),
oS 25 11 40,
o 12 (pA 41)]
def k5_r8 := [o 43 (pM 2),
o 44 (pM 1),
o 45 (pD 18 43 44 41 3),
o 42 (pM 45),
o 46 (pX 42 0),
o 47 (pX 42 1),
o 13 (.alloc 25),
oS 25 13 46,
o 14 (pA 47)]
def k5_r9 := [o 48 (pM 7),
o 49 (.convert 41 9 (.tmp 48)),
o 50 (pM 9),
o 51 (.convert 41 9 (.tmp 50)),
o 52 (pB .eql 9 49 51 9),
o 53 (pM 52),
oT 54 (pM 8) 53,
oT 55 (pM 10) 53,
oT 56 (pB .eql 31 54 55 31) 53,
o 57 (pU 53 56),
o 58 (pM 57),
oT 59 (pL 25 11) 58,
oT 60 (pL 25 13) 58,
oT 61 (pD 19 59 60 25 25) 58,
o 62 (pU 58 61),
o 63 (pM 62),
oT 64 (pM 12) 63,
oT 65 (pM 14) 63,
oT 66 (pB .eql 31 64 65 31) 63,
o 67 (pU 63 66),
o 6 (pA 67)]
def k5 : CC := (.seq (.region k5_r0) (.seq (.seq (.region k5_r1) (.cond (.tmp 16) (.seq (.region k5_r2) .ret) .skip)) (.seq (.seq (.region k5_r3) (.cond (.tmp 23) (.seq (.region k5_r4) .ret) .skip)) (.seq (.region k5_r5) (.seq (.region k5_r6) (.seq (.region k5_r7) (.seq (.region k5_r8) (.seq (.region k5_r9) .ret))))))))
def k6_r0 := [o 3 (.box 25 (.tmp 0)),
o 6 (pO false)]
def k6_r1 := [o 15 (.call { callee := .value (.func 8), args := #[], argTypes := #[] }),
o 16 (.unOp .not 4 (.tmp 15))]
def k6_r2 := [o 6 (pO false)]
def k6_r3 := [o 17 (pL 25 3),
o 18 (pC 9 17 25),
o 19 (pM 18),
oF 20 (pM 2) 19,
oF 21 (pN 20 41) 19,
oF 22 (pK .gtr 3 21 .i64 8192 3) 19,
o 23 (pV 19 22)]
def k6_r4 := [o 6 (pO true)]
def k6_r5 := [o 25 (pL 25 3),
o 26 (pM 1),
o 27 (pD 15 25 26 25 3),
o 24 (pM 27),
o 28 (pX 24 0),
o 29 (pX 24 1),
o 7 (pA 28),
o 8 (pA 29)]
def k6_r6 := [o 30 (pM 8),
o 31 (pK .eql 31 30 .i64 0 31)]
def k6_r7 := [o 33 (pM 7),
o 34 (pM 1),
o 35 (pD 17 33 34 41 3),
o 32 (pM 35),
o 36 (pX 32 0),
o 37 (pX 32 1),
o 9 (.alloc 25),
oS 25 9 36,
o 10 (pA 37)]
def k6_r8 := [o 38 (pM 10),
o 39 (pK .neq 31 38 .i64 0 31),
o 40 (pM 39),
oF 41 (pL 25 9) 40,
oF 42 (pL 25 3) 40,
oF 43 (pD 19 41 42 25 25) 40,
oF 44 (.unOp .not 4 (.tmp 43)) 40,
o 45 (pV 40 44)]
def k6_r9 := [o 6 (pO false)]
def k6_r10 := [o 11 (pZ .i64 0)]
def k6_r11 := [o 46 (pM 11),
o 47 (pM 7),
o 48 (pN 47 41),
o 49 (pB .lss 3 46 48 3)]
def k6_r13 := [o 57 (pM 7),
o 58 (pM 11),
o 59 (.slice 41 (.tmp 57) .none (some (.tmp 58)) .none),
o 60 (pM 1),
o 61 (pD 17 59 60 41 3),
o 56 (pM 61),
o 62 (pX 56 0),
o 63 (pX 56 1),
o 10 (pA 63)]
def k6_r14 := [o 64 (pM 10),
o 65 (pK .neq 31 64 .i64 11 31)]
def k6_r15 := [o 6 (pO false)]
def k6_r12 := [o 50 (pM 11),
o 51 (pM 7),
o 52 (pN 51 41),
o 53 (pK .quo 3 52 .i64 30 3),
o 54 (.binOp .add 3 (.const (.int .i64 1)) (.tmp 53) 3),
o 55 (pB .add 3 50 54 3),
o 11 (pA 55)]
def k6_l0 : CC := (.seq (.seq (.region k6_r11) (.cond (.tmp 49) .skip (.exit 0))) (.seq (.block 1 (.seq (.region k6_r13) (.seq (.region k6_r14) (.cond (.tmp 65) (.seq (.region k6_r15) .ret) .skip)))) (.region k6_r12)))
def k6_r16 := [o 67 (.buildSlice 41 0 #[]),
o 68 (pM 7),
o 69 (pQ 67 68 41 41),
o 70 (.buildSlice 41 1 #[(0, .const (.int .u8 0))]),
o 71 (pQ 69 70 41 41),
o 72 (pM 1),
o 73 (pD 17 71 72 41 3),
o 66 (pM 73),
o 74 (pX 66 0),
o 75 (pX 66 1),
o 10 (pA 75)]
def k6_r17 := [o 76 (pM 10),
o 77 (pK .neq 31 76 .i64 11 31)]
def k6_r18 := [o 6 (pO false)]
def k6_r19 := [o 79 (pM 2),
o 80 (pM 1),
o 81 (pD 17 79 80 41 3),
o 78 (pM 81),
o 82 (pX 78 0),
o 83 (pX 78 1),
o 12 (.alloc 25),
oS 25 12 82,
o 8 (pA 83)]
def k6_r20 := [o 84 (pM 8),
o 85 (pK .neq 31 84 .i64 0 31)]
def k6_r21 := [o 86 (pF 25 12 1),
o 87 (pL 23 86),
o 88 (pN 87 23),
o 89 (pK .eql 3 88 .i64 0 3),
o 90 (pM 89),
oT 91 (pF 25 12 0) 90,
oT 92 (pL 22 91) 90,
oT 93 (pN 92 22) 90,
oT 94 (pK .eql 3 93 .i64 0 3) 90,
o 95 (pU 90 94),
o 6 (pA 95)]
def k6_r22 := [o 97 (pL 25 12),
o 98 (pM 1),
o 99 (pD 15 97 98 25 3),
o 96 (pM 99),
o 100 (pX 96 0),
o 101 (pX 96 1),
o 13 (pA 100),
o 14 (pA 101)]
def k6_r23 := [o 102 (pM 14),
o 103 (pK .eql 31 102 .i64 0 31),
o 104 (pM 103),
oT 105 (pM 13) 104,
oT 106 (.convert 41 9 (.tmp 105)) 104,
oT 107 (pM 2) 104,
oT 108 (.convert 41 9 (.tmp 107)) 104,
oT 109 (pB .eql 9 106 108 9) 104,
o 110 (pU 104 109),
o 111 (pM 110),
oT 112 (pL 25 12) 111,
oT 113 (pM 1) 111,
oT 114 (pD 12 112 113 25 3) 111,
oT 115 (pK .eql 31 114 .i64 0 31) 111,
o 116 (pU 111 115),
o 6 (pA 116)]
def k6 : CC := (.seq (.region k6_r0) (.seq (.seq (.region k6_r1) (.cond (.tmp 16) (.seq (.region k6_r2) .ret) .skip)) (.seq (.seq (.region k6_r3) (.cond (.tmp 23) (.seq (.region k6_r4) .ret) .skip)) (.seq (.region k6_r5) (.seq (.seq (.region k6_r6) (.cond (.tmp 31) (.seq (.region k6_r7) (.seq (.seq (.region k6_r8) (.cond (.tmp 45) (.seq (.region k6_r9) .ret) .skip)) (.seq (.seq (.region k6_r10) (.block 0 (.loop k6_l0))) (.seq (.region k6_r16) (.seq (.region k6_r17) (.cond (.tmp 77) (.seq (.region k6_r18) .ret) .skip)))))) .skip)) (.seq (.region k6_r19) (.seq (.seq (.region k6_r20) (.cond (.tmp 85) (.seq (.region k6_r21) .ret) .skip)) (.seq (.region k6_r22) (.seq (.region k6_r23) .ret)))))))))
def k4_r0 := [o 3 (.box 25 (.tmp 0)),
o 6 (pO false)]
def k4_r1 := [o 10 (.call { callee := .value (.func 8), args := #[], argTypes := #[] }),
o 11 (.unOp .not 4 (.tmp 10))]
def k4_r2 := [o 6 (pO false)]
def k4_r3 := [o 12 (pL 25 3),
o 13 (pC 9 12 25),
o 14 (pM 13),
oF 15 (pL 25 3) 14,
oF 16 (pM 1) 14,
oF 17 (pD 12 15 16 25 3) 14,
oF 18 (pK .neq 31 17 .i64 0 31) 14,
o 19 (pV 14 18),
o 20 (pM 19),
oF 21 (pM 2) 20,
oF 22 (pK .lss 3 21 .i64 0 3) 20,
o 23 (pV 20 22),
o 24 (pM 23),
oF 25 (pM 2) 24,
oF 26 (pK .gtr 3 25 .i64 40 3) 24,
o 27 (pV 24 26)]
def k4_r4 := [o 6 (pO true)]
def k4_r5 := [o 28 (pL 25 3),
o 29 (pC 14 28 25),
o 7 (.alloc 25),
oS 25 7 29]
def k4_r6 := [o 30 (pM 1),
o 31 (pM 2),
o 32 (pB .add 3 30 31 3),
o 33 (pK .leq 3 32 .i64 32 3),
o 34 (pM 33),
oT 35 (pL 25 7) 34,
oT 36 (pM 1) 34,
oT 37 (pM 2) 34,
oT 38 (pB .add 3 36 37 3) 34,
oT 39 (pD 12 35 38 25 3) 34,
oT 40 (pK .neq 31 39 .i64 0 31) 34,
o 41 (pU 34 40)]
def k4_r7 := [o 6 (pO false)]
def k4_r8 := [o 42 (pF 25 7 0),
o 43 (pL 22 42),
o 44 (.build 29 #[(0, .const (.int .i64 2))]),
o 45 (.buildSlice 22 1 #[(0, .tmp 44)]),
o 46 (pQ 43 45 22 22),
o 47 (pF 25 7 0),
oS 22 47 46]
def k4_r9 := [o 48 (pF 25 7 0),
o 49 (pL 22 48),
o 50 (pN 49 22),
o 51 (pK .leq 3 50 .i64 16384 3),
o 52 (pM 51),
oT 53 (pL 25 7) 52,
oT 54 (pM 1) 52,
oT 55 (pD 12 53 54 25 3) 52,
oT 56 (pK .neq 31 55 .i64 0 31) 52,
o 57 (pU 52 56)]
def k4_r10 := [o 6 (pO false)]
def k4_r11 := [o 58 (pF 25 7 1),
o 59 (pL 23 58),
o 60 (pN 59 23),
o 61 (pK .eql 3 60 .i64 0 3)]
def k4_r12 := [o 6 (pO true)]
def k4_r13 := [o 62 (pF 25 7 1),
o 63 (pL 23 62),
o 64 (pN 63 23),
o 65 (pK .sub 3 64 .i64 1 3),
o 8 (pA 65)]
def k4_r14 := [o 66 (pF 25 7 1),
o 67 (pL 23 66),
o 68 (pM 8),
o 69 (pI 23 67 68),
o 70 (pL 37 69),
o 9 (.alloc 37),
oS 37 9 70]
def k4_r15 := [o 71 (pF 37 9 4),
o 72 (pL 35 71),
o 73 (.build 39 #[(0, .const (.int .i64 6))]),
o 74 (.buildSlice 35 1 #[(0, .tmp 73)]),
o 75 (pQ 72 74 35 35),
o 76 (pF 37 9 4),
oS 35 76 75]
def k4_r16 := [o 77 (pF 25 7 1),
o 78 (pL 23 77),
o 79 (pM 8),
o 80 (pL 37 9),
o 81 (pI 23 78 79),
oS 37 81 80]
def k4_r17 := [o 82 (pF 37 9 4),
o 83 (pL 35 82),
o 84 (pN 83 35),
o 85 (pK .leq 3 84 .i64 16384 3),
o 86 (pM 85),
oT 87 (pL 25 7) 86,
oT 88 (pM 1) 86,
oT 89 (pD 12 87 88 25 3) 86,
oT 90 (pK .neq 31 89 .i64 0 31) 86,
o 91 (pU 86 90)]
def k4_r18 := [o 6 (pO false)]
def k4_r19 := [o 92 (pF 25 7 1),
o 93 (pL 23 92),
o 94 (pM 8),
o 95 (.slice 23 (.tmp 93) .none (some (.tmp 94)) .none),
o 96 (pF 25 7 1),
oS 23 96 95]
def k4_r20 := [o 97 (pL 25 7),
o 98 (pM 1),
o 99 (pD 12 97 98 25 3),
o 100 (pK .eql 31 99 .i64 0 31),
o 6 (pA 100)]
def k4 : CC := (.seq (.region k4_r0) (.seq (.seq (.region k4_r1) (.cond (.tmp 11) (.seq (.region k4_r2) .ret) .skip)) (.seq (.seq (.region k4_r3) (.cond (.tmp 27) (.seq (.region k4_r4) .ret) .skip)) (.seq (.region k4_r5) (.seq (.seq (.region k4_r6) (.cond (.tmp 41) (.seq (.region k4_r7) .ret) .skip)) (.seq (.region k4_r8) (.seq (.seq (.region k4_r9) (.cond (.tmp 57) (.seq (.region k4_r10) .ret) .skip)) (.seq (.seq (.region k4_r11) (.cond (.tmp 61) (.seq (.region k4_r12) .ret) .skip)) (.seq (.region k4_r13) (.seq (.region k4_r14) (.seq (.region k4_r15) (.seq (.region k4_r16) (.seq (.seq (.region k4_r17) (.cond (.tmp 91) (.seq (.region k4_r18) .ret) .skip)) (.seq (.region k4_r19) (.seq (.region k4_r20) .ret)))))))))))))))
def k4_p := PLift.up <| aI (vE k4.eq_1) <| aI (oE k4_r0.eq_1) <| aI (oE k4_r1.eq_1) <| aI (oE k4_r2.eq_1) <| aI (oE k4_r3.eq_1) <| aI (oE k4_r4.eq_1) <| aI (oE k4_r5.eq_1) <| aI (oE k4_r6.eq_1) <| aI (oE k4_r7.eq_1) <| aI (oE k4_r8.eq_1) <| aI (oE k4_r9.eq_1) <| aI (oE k4_r10.eq_1) <| aI (oE k4_r11.eq_1) <| aI (oE k4_r12.eq_1) <| aI (oE k4_r13.eq_1) <| aI (oE k4_r14.eq_1) <| aI (oE k4_r15.eq_1) <| aI (oE k4_r16.eq_1) <| aI (oE k4_r17.eq_1) <| aI (oE k4_r18.eq_1) <| aI (oE k4_r19.eq_1) (oE k4_r20.eq_1)
theorem k4_a : type_of% k4_p.down := k4_p.down
/-- quern/quernlaw13.CodeGrows -/
theorem k4_is : FnIs Try.prog prims 4 101 [ResultVar.tmp 6] k4 := FnIs.of_fn Try.func4 (by kernel_rfl) rfl
theorem noSB : isSB Try.prog 9 = false ∧ isSB Try.prog 25 = false ∧ isSB Try.prog 29 = false ∧ isSB Try.prog 37 = false ∧ isSB Try.prog 39 = false ∧ isSB Try.prog 51 = false ∧ True := ⟨by kernel_rfl, by kernel_rfl, by kernel_rfl, by kernel_rfl, by kernel_rfl, by kernel_rfl, trivial⟩
end Go.Proofs.Ytplhelapcpcncaa.Q

/- Objects: what pointers read and write. -/
set_option linter.unusedVariables false
set_option linter.unusedSimpArgs false
namespace Go.Proofs.Ytplhelapcpcncaa.Q
open Go Go.RowKit
theorem vcells_one {v : V} (h : one v = true) : vcells v = [v] := by
  cases v <;> first | rfl | cases h
theorem BtsV.one {v : V} {bs : List UInt8} (h : BtsV v bs) : one v = true := by
  rcases h with ⟨rfl, _⟩ | ⟨p, rfl⟩ <;> rfl
section
variable {P : Program}
theorem vload_obj {objs : List Ob} {r off : Nat} {cs : List V} {t : TypeId} (h : objs[r]? = some (.cells cs)) (ha : isAggT P t = some false) : vload P objs t (.optr r off) = cs[off]? := by
  simp [vload, vcellsAt, h, vpart, ha]
theorem vstore_obj {σ : St} {r off : Nat} {cs : List V} {t : TypeId} {v : V} (h : σ.objs[r]? = some (.cells cs)) (hs : sizeT P t = some 1) (h1 : one v = true) (hl : off < cs.length) : vstore P σ t (.optr r off) v = some ⟨σ.objs.set r (.cells (cs.set off v)), σ.toks⟩ := by
  have h2 : off + 1 ≤ cs.length := hl
  simp [vstore, h, hs, vcells_one h1, h1, h2, setAll]
end
theorem ofVal_nilp : ofVal (.pointer none) = some .nilp := rfl
theorem vnil_optr {r o : Nat} : vnil (.optr r o) = some (.optr r o) := rfl
/-- All objects but one, and all tokens, stay. -/
def KeepX (r : Nat) (σ σ' : St) : Prop := (∀ (q : Nat) (o : Ob), q ≠ r → σ.objs[q]? = some o → σ'.objs[q]? = some o) ∧ σ.toks.length ≤ σ'.toks.length ∧ ∀ k, tokLive σ.toks k = true → tokLive σ'.toks k = true
theorem Keep.x {σ σ' : St} (h : Keep σ σ') (r : Nat) : KeepX r σ σ' := ⟨fun q o _ ho => h.1 q o ho, h.2⟩
theorem KeepX.refl (r : Nat) (σ : St) : KeepX r σ σ := (Keep.refl σ).x r
theorem KeepX.trans {r : Nat} {a b c : St} (h : KeepX r a b) (h2 : KeepX r b c) : KeepX r a c := ⟨fun q o hq ho => h2.1 q o hq (h.1 q o hq ho), Nat.le_trans h.2.1 h2.2.1, fun k hk => h2.2.2 k (h.2.2 k hk)⟩
theorem KeepX.set (r : Nat) (o : Ob) (σ : St) : KeepX r σ ⟨σ.objs.set r o, σ.toks⟩ := ⟨fun q o' hq ho => by simp only; rw [List.getElem?_set_ne (Ne.symm hq)]; exact ho, Nat.le_refl _, fun _ h => h⟩
theorem obj_set {objs : List Ob} {r : Nat} {o o' : Ob} (h : objs[r]? = some o) : (objs.set r o')[r]? = some o' := by
  rw [List.getElem?_set_self (List.getElem?_eq_some_iff.1 h).1]
theorem KeepX.set_eq {σ σ' : St} {r : Nat} {o o' : Ob} (h : σ.objs[r]? = some o) (hs : σ' = ⟨σ.objs.set r o', σ.toks⟩) : KeepX r σ σ' ∧ σ'.objs[r]? = some o' := by
  subst hs
  exact ⟨KeepX.set r o' σ, obj_set h⟩
end Go.Proofs.Ytplhelapcpcncaa.Q

/- Rows whose elements have any number of cells; appended texts. -/
set_option linter.unusedVariables false
set_option linter.unusedSimpArgs false
namespace Go.Proofs.Ytplhelapcpcncaa.Q
open Go Go.RowKit
/-- v is a row of n elements of k cells each. -/
def RowV (k : Nat) (v : V) (cs : List V) (n : Nat) : Prop := cs.length = n * k ∧ ((v = .nils ∧ n = 0) ∨ ∃ p, v = .slice p k cs n)
theorem RowV.one {k n : Nat} {v : V} {cs : List V} (h : RowV k v cs n) : one v = true := by
  rcases h.2 with ⟨rfl, _⟩ | ⟨p, rfl⟩ <;> rfl
theorem RowV.nil (k : Nat) : RowV k .nils [] 0 := ⟨by simp, .inl ⟨rfl, rfl⟩⟩
section
variable {P : Program}
/-- What one must know of a row's types. -/
structure RowT (P : Program) (t e : TypeId) (k by_ : Nat) : Prop where
  u : P.underlying t = some (.slice e)
  s : sizeT P e = some k
  z : ∃ z, zeroT P e = some z ∧ (vcells z).length = k
  b : (P.info? e).map (·.bytes) = some by_
  k0 : 0 < k
theorem RowV.len {k n : Nat} {v : V} {cs : List V} (h : RowV k v cs n) {t e : TypeId} (ht : P.underlying t = some (.slice e)) : vlen P t v = some (.int .i64 n) := by
  rcases h.2 with ⟨rfl, rfl⟩ | ⟨p, rfl⟩ <;> simp [vlen, ht]
theorem RowV.addr {k n : Nat} {v : V} {cs : List V} (h : RowV k v cs n) {t e : TypeId} (ht : P.underlying t = some (.slice e)) (hs : sizeT P e = some k) (hk : 0 < k) {kk : IntKind} {i : Int} (h0 : 0 ≤ i) (h1 : i < n) : vindexAddr P t v (.int kk i) = some (.eptr cs (i.toNat * k)) := by
  rcases h.2 with ⟨rfl, rfl⟩ | ⟨p, rfl⟩
  · omega
  · have hne : cs ≠ [] := by
      rintro rfl
      have := h.1
      simp only [List.length_nil] at this
      have : 1 * 1 ≤ n * k := Nat.mul_le_mul (by omega) hk
      omega
    simp [vindexAddr, ht, hs, h0, h1, hne]
/-- A part of a row. -/
theorem RowV.slice {k n : Nat} {v : V} {cs : List V} (h : RowV k v cs n) {t e : TypeId} (ht : P.underlying t = some (.slice e)) (hs : sizeT P e = some k) {lo hi : Option V} {a b : Nat} (hb : vbounds n lo hi none = some (a, b, none)) (hab : a ≤ b) (hbl : b ≤ n) :
    ∃ v', vslice P t v lo hi none = some v' ∧ RowV k v' ((cs.drop (a * k)).take ((b - a) * k)) (b - a) := by
  have hl : ((cs.drop (a * k)).take ((b - a) * k)).length = (b - a) * k := by
    have h1 := h.1
    have h2 : b * k ≤ n * k := Nat.mul_le_mul_right k hbl
    have h3 : b * k = a * k + (b - a) * k := by rw [← Nat.add_mul]; congr 1; omega
    rw [List.length_take, List.length_drop]
    omega
  rcases h.2 with ⟨rfl, rfl⟩ | ⟨p, rfl⟩
  · exact ⟨.nils, by simp [vslice, ht, hs, hb], hl, .inl ⟨rfl, by omega⟩⟩
  · refine ⟨_, ?_, hl, .inr ⟨if p = Perm.exact ∧ b = n then Perm.exact else if a = 0 ∧ b = n then p else Perm.ro, rfl⟩⟩
    simp only [vslice, ht, hs, if_true, hb]
/-- v is such a row, and an append to it finds that nobody else has a part in what stands behind it; its token is not below m. -/
def OwnR (e : TypeId) (k m : Nat) (σ : St) (v : V) (cs : List V) (n : Nat) : Prop :=
  cs.length = n * k ∧ ((v = .nils ∧ n = 0) ∨ ∃ p, v = .slice p k cs n ∧ (p = .exact ∨ ∃ q, p = .tok q e ∧ tokLive σ.toks q = true ∧ m ≤ q))
theorem OwnR.row {e k m n : Nat} {σ : St} {v : V} {cs : List V} (h : OwnR e k m σ v cs n) : RowV k v cs n := by
  rcases h with ⟨h1, h | ⟨p, h, _⟩⟩
  · exact ⟨h1, .inl h⟩
  · exact ⟨h1, .inr ⟨p, h⟩⟩
theorem OwnR.nil {e k m : Nat} {σ : St} : OwnR e k m σ .nils [] 0 := ⟨by simp, .inl ⟨rfl, rfl⟩⟩
theorem OwnR.keep {e k m n : Nat} {σ σ' : St} {v : V} {cs : List V} (h : OwnR e k m σ v cs n) (hk : ∀ k, tokLive σ.toks k = true → tokLive σ'.toks k = true) : OwnR e k m σ' v cs n := by
  rcases h with ⟨h1, h | ⟨p, h, h2⟩⟩
  · exact ⟨h1, .inl h⟩
  · refine ⟨h1, .inr ⟨p, h, ?_⟩⟩
    rcases h2 with h2 | ⟨q, h2, h3, h4⟩
    · exact .inl h2
    · exact .inr ⟨q, h2, hk q h3, h4⟩
theorem OwnR.low {e k m m' n : Nat} {σ : St} {v : V} {cs : List V} (h : OwnR e k m σ v cs n) (hm : m' ≤ m) : OwnR e k m' σ v cs n := by
  rcases h with ⟨h1, h | ⟨p, h, h2⟩⟩
  · exact ⟨h1, .inl h⟩
  · refine ⟨h1, .inr ⟨p, h, ?_⟩⟩
    rcases h2 with h2 | ⟨q, h2, h3, h4⟩
    · exact .inl h2
    · exact .inr ⟨q, h2, h3, Nat.le_trans hm h4⟩
/-- An append to a row of one's own. -/
theorem OwnR.appendO {t t2 e : TypeId} {k by_ : Nat} (hT : RowT P t e k by_) {m : Nat} {σ0 σ : St} {v y : V} {cs ys : List V} {n l : Nat} (h : OwnR e k m σ v cs n) (hn : m = σ0.toks.length) (hk : Keep σ0 σ) (hnews : vnewsO P σ.objs t2 y k = some (ys, l)) (hyl : ys.length = l * k) (hone : ys.all one = true) (hl : n + l ≤ 140737488355328) (hb : (n + l) * by_ ≤ 140737488355328) :
    ∃ v' σ', vappend P σ t t2 v y = some (v', σ') ∧ OwnR e k m σ' v' (cs ++ ys) (n + l) ∧ Keep σ0 σ' ∧ σ'.objs = σ.objs := by
  obtain ⟨z, hz, hzl⟩ := hT.z
  have hk0 : ¬ k = 0 := by have := hT.k0; omega
  have hml : m ≤ σ.toks.length := by rw [hn]; exact hk.2.1
  have keep1 : Keep σ0 ⟨σ.objs, σ.toks ++ [true]⟩ := ⟨hk.1, by simp; have := hk.2.1; omega, fun k h => tokLive_app (hk.2.2 k h)⟩
  have hlen : (cs ++ ys).length = (n + l) * k := by rw [List.length_append, Nat.add_mul, h.1, hyl]
  by_cases hm : l = 0
  · subst hm
    have hys : ys = [] := List.length_eq_zero_iff.1 (by simpa using hyl)
    subst hys
    refine ⟨v, σ, ?_, by simpa using h, hk, rfl⟩
    rcases h.2 with ⟨rfl, rfl⟩ | ⟨p, rfl, _⟩
    · simp [vappend, hT.u, hT.b, hT.s, hz, hnews, hzl, hk0]
    · simp [vappend, hT.u, hT.b, hT.s, hz, hnews, hzl, hk0]
  · rcases h.2 with ⟨rfl, rfl⟩ | ⟨p, rfl, hp⟩
    · have hcs : cs = [] := List.length_eq_zero_iff.1 (by simpa using h.1)
      subst hcs
      refine ⟨_, _, ?_, ⟨hlen, .inr ⟨.tok σ.toks.length e, rfl, .inr ⟨_, rfl, tokLive_new _, hml⟩⟩⟩, keep1, rfl⟩
      simp only [Nat.zero_add] at hl hb
      simp [vappend, hT.u, hT.b, hT.s, hz, hnews, hzl, hk0, hm, hl, hb]
    · rcases hp with rfl | ⟨q, rfl, hlive, hnk⟩
      · refine ⟨_, _, ?_, ⟨hlen, .inr ⟨.tok σ.toks.length e, rfl, .inr ⟨_, rfl, tokLive_new _, hml⟩⟩⟩, keep1, rfl⟩
        simp [vappend, hT.u, hT.b, hT.s, hz, hnews, hzl, hk0, hm, hl, hb]
      · have hkl : (killTok σ.toks q).length = σ.toks.length := by simp [killTok]
        refine ⟨.slice (.tok σ.toks.length e) k (cs ++ ys) (n + l), ⟨σ.objs, killTok σ.toks q ++ [true]⟩, ?_, ⟨hlen, .inr ⟨.tok σ.toks.length e, rfl, .inr ⟨_, rfl, by have := tokLive_new (killTok σ.toks q); rwa [hkl] at this, hml⟩⟩⟩, ?_, rfl⟩
        · simp [vappend, hT.u, hT.b, hT.s, hz, hnews, hzl, hk0, hm, hl, hb, hlive, hone] at hone ⊢
          first | exact hone | done
        · refine ⟨hk.1, by simp [hkl]; have := hk.2.1; omega, fun j hj => ?_⟩
          refine tokLive_app (tokLive_kill_ne (hk.2.2 j hj) ?_)
          have := tokLive_lt hj
          omega
theorem OwnR.append {t t2 e : TypeId} {k by_ : Nat} (hT : RowT P t e k by_) {m : Nat} {σ0 σ : St} {v y : V} {cs ys : List V} {n l : Nat} (h : OwnR e k m σ v cs n) (hn : m = σ0.toks.length) (hk : Keep σ0 σ) (hnews : vnews P t2 y k = some (ys, l)) (hyl : ys.length = l * k) (hone : ys.all one = true) (hl : n + l ≤ 140737488355328) (hb : (n + l) * by_ ≤ 140737488355328) :
    ∃ v' σ', vappend P σ t t2 v y = some (v', σ') ∧ OwnR e k m σ' v' (cs ++ ys) (n + l) ∧ Keep σ0 σ' ∧ σ'.objs = σ.objs := h.appendO hT hn hk (vnewsO_of hnews) hyl hone hl hb
theorem ByteT.row {t e : TypeId} (h : ByteT P t e) : RowT P t e 1 1 := ⟨h.u, h.s, ⟨_, h.z, rfl⟩, h.b, by omega⟩
/-- A row's elements, one behind the other. -/
theorem flat_drop {α : Type} {f : α → List V} {k : Nat} (hf : ∀ a, (f a).length = k) : ∀ (l : List α) (i : Nat), (l.flatMap f).drop (i * k) = (l.drop i).flatMap f
  | l, 0 => by simp
  | [], i + 1 => by simp
  | a :: l, i + 1 => by
    have : (i + 1) * k = (f a).length + i * k := by rw [hf, Nat.add_mul, Nat.one_mul, Nat.add_comm]
    rw [List.flatMap_cons, this, List.drop_length_add_append, List.drop_succ_cons]
    exact flat_drop hf l i
theorem flat_len {α : Type} {f : α → List V} {k : Nat} (hf : ∀ a, (f a).length = k) : ∀ (l : List α), (l.flatMap f).length = l.length * k
  | [] => by simp
  | a :: l => by rw [List.flatMap_cons, List.length_append, flat_len hf l, hf, List.length_cons, Nat.add_mul, Nat.one_mul, Nat.add_comm]
theorem flat_part {α : Type} {f : α → List V} {k : Nat} (hf : ∀ a, (f a).length = k) {l : List α} {i : Nat} (h : i < l.length) : ((l.flatMap f).drop (i * k)).take k = f l[i] := by
  rw [flat_drop hf, List.drop_eq_getElem_cons h, List.flatMap_cons]
  have := List.take_left (l₁ := f l[i]) (l₂ := (l.drop (i + 1)).flatMap f)
  rw [hf] at this
  exact this
/-- An object as a whole. -/
theorem vload_agg {objs : List Ob} {r : Nat} {cs : List V} {t : TypeId} (h : objs[r]? = some (.cells cs)) (ha : isAggT P t = some true) (hs : sizeT P t = some cs.length) : vload P objs t (.optr r 0) = some (.agg cs) := by
  simp [vload, vcellsAt, h, vpart, ha, hs]
/-- A part of it that is one itself. -/
theorem vload_sub {objs : List Ob} {r off n : Nat} {cs : List V} {t : TypeId} (h : objs[r]? = some (.cells cs)) (ha : isAggT P t = some true) (hs : sizeT P t = some n) (hl : off + n ≤ cs.length) : vload P objs t (.optr r off) = some (.agg ((cs.drop off).take n)) := by
  simp [vload, vcellsAt, h, vpart, ha, hs, hl]
theorem setAll_take : ∀ (vs : List V) (cs : List V) (off : Nat), off + vs.length ≤ cs.length → setAll cs off vs = cs.take off ++ vs ++ cs.drop (off + vs.length)
  | [], cs, off, h => by simp [setAll]
  | v :: vs, cs, off, h => by
    simp only [List.length_cons] at h
    rw [setAll, setAll_take vs _ _ (by simp; omega)]
    apply List.ext_getElem?
    intro i
    simp only [List.length_cons, List.getElem?_append, List.length_take, List.length_set, List.length_append, List.getElem?_drop, List.getElem?_take, List.getElem?_set]
    have e1 : min (off + 1) cs.length = off + 1 := by omega
    have e2 : min off cs.length = off := by omega
    rw [e1, e2]
    rcases Nat.lt_trichotomy i off with h1 | h1 | h1
    · simp [h1, show i < off + 1 by omega, show i < off + 1 + vs.length by omega, show i < off + (vs.length + 1) by omega, show off ≠ i by omega]
    · subst h1
      simp [show i < cs.length by omega]
      omega
    · by_cases h2 : i < off + 1 + vs.length
      · simp [show ¬ i < off by omega, show ¬ i < off + 1 by omega, h2, show i < off + (vs.length + 1) by omega]
        have : i - off = (i - (off + 1)) + 1 := by omega
        rw [this, List.getElem?_cons_succ]
      · simp [show ¬ i < off by omega, h2, show ¬ i < off + (vs.length + 1) by omega]
        have e3 : off + 1 + vs.length + (i - (off + 1 + vs.length)) = i := by omega
        have e4 : off + (vs.length + 1) + (i - (off + (vs.length + 1))) = i := by omega
        rw [e3, e4]
        simp [show off ≠ i by omega]
/-- A whole object is written. -/
theorem vstore_agg {σ : St} {r : Nat} {cs cs' : List V} {t : TypeId} (h : σ.objs[r]? = some (.cells cs)) (hs : sizeT P t = some cs'.length) (hl : cs'.length = cs.length) (h1 : cs'.all one = true) : vstore P σ t (.optr r 0) (.agg cs') = some ⟨σ.objs.set r (.cells cs'), σ.toks⟩ := by
  simp only [vstore, h, vcells]
  have h2 : setAll cs 0 cs' = cs' := by rw [setAll_take _ _ _ (by omega)]; simp [hl]
  have h3 : 0 + cs'.length ≤ cs.length := by omega
  simp only [hs, h3, h1, and_self, if_true, h2]
theorem Keep.push {σ0 σ : St} (h : Keep σ0 σ) (o : Ob) : Keep σ0 ⟨σ.objs ++ [o], σ.toks⟩ :=
  ⟨fun r o' ho => by
    have := h.1 r o' ho
    simp only
    rw [List.getElem?_append_left (List.getElem?_eq_some_iff.1 this).1]
    exact this, h.2⟩
/-- Objects of one's own may be written. -/
theorem Keep.setNew {σ0 σ : St} (h : Keep σ0 σ) {r : Nat} (hr : σ0.objs.length ≤ r) (o : Ob) : Keep σ0 ⟨σ.objs.set r o, σ.toks⟩ :=
  ⟨fun q o' ho => by
    have hq := (List.getElem?_eq_some_iff.1 ho).1
    simp only
    rw [List.getElem?_set_ne (by omega)]
    exact h.1 q o' ho, h.2⟩
theorem KeepX.setNew {q : Nat} {σ0 σ : St} (h : KeepX q σ0 σ) {r : Nat} (hr : σ0.objs.length ≤ r) (o : Ob) : KeepX q σ0 ⟨σ.objs.set r o, σ.toks⟩ :=
  ⟨fun i o' hi ho => by
    have hq := (List.getElem?_eq_some_iff.1 ho).1
    simp only
    rw [List.getElem?_set_ne (by omega)]
    exact h.1 i o' hi ho, h.2⟩
theorem KeepX.push {q : Nat} {σ0 σ : St} (h : KeepX q σ0 σ) (o : Ob) : KeepX q σ0 ⟨σ.objs ++ [o], σ.toks⟩ :=
  ⟨fun r o' hi ho => by
    have := h.1 r o' hi ho
    simp only
    rw [List.getElem?_append_left (List.getElem?_eq_some_iff.1 this).1]
    exact this, h.2⟩
theorem push_new (objs : List Ob) (o : Ob) : (objs ++ [o])[objs.length]? = some o := by simp
/-- Texts and bytes. -/
theorem BtsV.str {v : V} {bs : List UInt8} (h : BtsV v bs) {t t2 e : TypeId} (ht : P.underlying t = some (.slice e)) (he : isU8 P e = true) (ht2 : P.underlying t2 = some .string) : vconv P t t2 v = some (.str bs) := by
  have hb : ∀ l : List UInt8, bytesOf' (l.map byteV) = some l := by
    intro l
    induction l with
    | nil => rfl
    | cons b l ih =>
      have h1 : byteOf1 (.int .u8 (b.toNat : Int)) = some b := by
        have := b.toNat_lt
        simp [byteOf1]
      simp only [List.map_cons, bytesOf', byteV, ih, h1]
  rcases h with ⟨rfl, rfl⟩ | ⟨p, rfl⟩
  · simp [vconv, ht, ht2, he]
  · simp [vconv, ht, ht2, he, hb]
end
end Go.Proofs.Ytplhelapcpcncaa.Q

/- Structures are compared field by field. -/
set_option linter.unusedVariables false
set_option linter.unusedSimpArgs false
namespace Go.Proofs.Ytplhelapcpcncaa.Q
open Go Go.RowKit
section
variable {P : Program}
/-- A structure's fields: type and place. -/
def fieldsOf (P : Program) (t : TypeId) : List (TypeId × Nat) := match P.underlying t with
  | some (.struct fs) => if P.stoodInHeld t || fs.toList.any (fun f => decide (f.name = "_")) then [] else fs.toList.map fun f => (f.type, f.offset)
  | _ => []
def allEq (P : Program) (d : Nat) : List (TypeId × Nat) → List V → List V → Option Bool
  | [], _, _ => some true
  | f :: fs, xs, ys => match vpart P f.1 xs f.2, vpart P f.1 ys f.2 with
    | some a, some b => match aggEq P d f.1 a b with
      | some true => allEq P d fs xs ys
      | some false => some false
      | none => none
    | _, _ => none
end
end Go.Proofs.Ytplhelapcpcncaa.Q

/- Arguments that are structures, and rows of them. -/
set_option linter.unusedVariables false
set_option linter.unusedSimpArgs false
namespace Go.Proofs.Ytplhelapcpcncaa.Q
open Go Go.RowKit
section
variable {P : Program}
theorem VT_int {k : Nat} {t : TypeId} {i : IntKind} {cs : List V} (hu : P.underlying t = some (.int i)) (h : VT P k t cs) : ∃ n, cs = [.int i n] ∧ (Lit.int i n).wf = true := by
  cases k with
  | zero => exact h.elim
  | succ k => simpa [VT, hu] using h
theorem VT_str {k : Nat} {t : TypeId} {cs : List V} (hu : P.underlying t = some .string) (h : VT P k t cs) : ∃ l, cs = [.str l] ∧ l.length ≤ maxLen := by
  cases k with
  | zero => exact h.elim
  | succ k => simpa [VT, hu] using h
theorem VT_slice {k : Nat} {t e : TypeId} {cs : List V} (hu : P.underlying t = some (.slice e)) (h : VT P k t cs) : ∃ k', cs = [.nils] ∨ ∃ vs len, cs = [.slice .ro (P.cellsOf e) vs len] ∧ vs.length = len * P.cellsOf e ∧ len ≤ maxLen ∧ ∀ i, i < len → VT P k' e ((vs.drop (i * P.cellsOf e)).take (P.cellsOf e)) := by
  cases k with
  | zero => exact h.elim
  | succ k => exact ⟨k, by simpa [VT, hu] using h⟩
theorem VT_struct {k : Nat} {t : TypeId} {p : TypeId × Nat} {ps : List (TypeId × Nat)} {cs : List V} (hu : fieldsOf P t = p :: ps) (h : VT P k t cs) : ∃ k', cs.length = P.cellsOf t ∧ ∀ q ∈ p :: ps, VT P k' q.1 ((cs.drop q.2).take (P.cellsOf q.1)) := by
  cases k with
  | zero => exact h.elim
  | succ k =>
    unfold fieldsOf at hu
    split at hu
    · rename_i fs hf
      split at hu
      · cases hu
      · simp only [VT, hf] at h
        refine ⟨k, h.1, fun q hq => ?_⟩
        rw [← hu, List.mem_map] at hq
        obtain ⟨f, hfm, rfl⟩ := hq
        exact h.2 f hfm
    · cases hu
theorem ArgT_struct {t : TypeId} {p : TypeId × Nat} {ps : List (TypeId × Nat)} {x : V} (hu : fieldsOf P t = p :: ps) (h : ArgT P t x) : ∃ k vs, x = .agg vs ∧ VT P k t vs := by
  unfold fieldsOf at hu
  split at hu
  · rename_i fs hf
    unfold ArgT at h
    rw [hf] at h
    exact h
  · cases hu
end
theorem rows_of {α : Type} {f : α → List V} {R : α → Prop} {c : Nat} : ∀ (len : Nat) (vs : List V), vs.length = len * c → (∀ i, i < len → ∃ x, (vs.drop (i * c)).take c = f x ∧ R x) → ∃ l : List α, vs = l.flatMap f ∧ l.length = len ∧ ∀ x ∈ l, R x
  | 0, vs, hl, _ => ⟨[], by simpa using hl, rfl, by simp⟩
  | len + 1, vs, hl, h => by
    obtain ⟨x, hx, hr⟩ := h 0 (by omega)
    have hl' : (vs.drop c).length = len * c := by rw [List.length_drop, hl, Nat.add_mul]; omega
    obtain ⟨l, h1, h2, h3⟩ := rows_of len (vs.drop c) hl' fun i hi => by
      obtain ⟨y, hy, hry⟩ := h (i + 1) (by omega)
      have he : c + i * c = (i + 1) * c := by rw [Nat.add_mul]; omega
      exact ⟨y, by rw [List.drop_drop, he]; exact hy, hry⟩
    refine ⟨x :: l, ?_, by simp [h2], ?_⟩
    · rw [List.flatMap_cons, ← h1, ← hx]
      simp
    · intro y hy
      rcases List.mem_cons.1 hy with rfl | hy
      · exact hr
      · exact h3 y hy
theorem bulk_len {α : Type} {f : α → List V} {k : Nat} (hf : ∀ a, (f a).length = k) (hk : 0 < k) (l : List α) : l.length ≤ vbulks (l.flatMap f) := by
  have h1 := vbulks_len (l.flatMap f)
  rw [flat_len hf] at h1
  have : l.length * 1 ≤ l.length * k := Nat.mul_le_mul_left _ hk
  omega
end Go.Proofs.Ytplhelapcpcncaa.Q

/- The rules of a walk, as one. -/
set_option linter.unusedVariables false
namespace Go.Proofs.Ytplhelapcpcncaa.Q
open Go Go.RowKit
theorem WK0 : type_of% @Ev_seq' ∧ type_of% @Ev_region ∧ type_of% @Ev_wregion ∧ type_of% @EoW_nil ∧ type_of% @EoW_cons ∧ type_of% @wC_normal ∧ type_of% @wC_pan ∧ type_of% @pushB_true ∧ type_of% @pushB_false ∧ type_of% @look_nil ∧ type_of% @look_cons ∧ type_of% @WOk_nil ∧ type_of% @WOk_cons ∧ type_of% @WV_some ∧ type_of% @WJ_nil ∧ type_of% @WJ_cons ∧ type_of% @KQ_some ∧ type_of% @wantC_none ∧ type_of% @wantC_tt ∧ type_of% @Ev_block' := ⟨@Ev_seq', @Ev_region, @Ev_wregion, @EoW_nil, @EoW_cons, @wC_normal, @wC_pan, @pushB_true, @pushB_false, @look_nil, @look_cons, @WOk_nil, @WOk_cons, @WV_some, @WJ_nil, @WJ_cons, @KQ_some, @wantC_none, @wantC_tt, @Ev_block'⟩
theorem WK1 : type_of% @Ev_skip' ∧ type_of% @Ev_exit' ∧ type_of% @Ev_ret' ∧ type_of% @Ev_if ∧ type_of% @Eo_nil ∧ type_of% @Eo_builtin ∧ type_of% @Eo_call ∧ type_of% @Eo_callv ∧ type_of% @Eo_panic ∧ type_of% @Eo_guard ∧ type_of% @Eo_move ∧ type_of% @Eo_assign ∧ type_of% @Eo_pick ∧ type_of% @Eo_alloc ∧ type_of% @Eo_box ∧ type_of% @Eo_build ∧ type_of% @Eo_buildSlice ∧ type_of% @Eo_load ∧ type_of% @Eo_store ∧ type_of% @Eo_nilCheck := ⟨@Ev_skip', @Ev_exit', @Ev_ret', @Ev_if, @Eo_nil, @Eo_builtin, @Eo_call, @Eo_callv, @Eo_panic, @Eo_guard, @Eo_move, @Eo_assign, @Eo_pick, @Eo_alloc, @Eo_box, @Eo_build, @Eo_buildSlice, @Eo_load, @Eo_store, @Eo_nilCheck⟩
theorem WK2 : type_of% @Eo_binOp ∧ type_of% @Eo_unOp ∧ type_of% @Eo_convert ∧ type_of% @Eo_makeInterface ∧ type_of% @Eo_makeFunc ∧ type_of% @Eo_makeSlice ∧ type_of% @Eo_slice ∧ type_of% @Eo_fieldAddr ∧ type_of% @Eo_field ∧ type_of% @Eo_indexAddr ∧ type_of% @Eo_index ∧ type_of% @Eo_typeAssert ∧ type_of% @Eo_extract ∧ type_of% @Kop_some ∧ type_of% @KB_true ∧ type_of% @KB_false ∧ type_of% @KI_some ∧ type_of% @KG_tt ∧ type_of% @KG_ff ∧ type_of% @KG_tf ∧ type_of% @KG_ft := ⟨@Eo_binOp, @Eo_unOp, @Eo_convert, @Eo_makeInterface, @Eo_makeFunc, @Eo_makeSlice, @Eo_slice, @Eo_fieldAddr, @Eo_field, @Eo_indexAddr, @Eo_index, @Eo_typeAssert, @Eo_extract, @Kop_some, @KB_true, @KB_false, @KI_some, @KG_tt, @KG_ff, @KG_tf, @KG_ft⟩
theorem WK3 : type_of% @KG_tup ∧ type_of% @KC_some ∧ type_of% @KF_some ∧ type_of% @KP_some ∧ type_of% @KR_some ∧ type_of% @seqC_normal ∧ type_of% @seqC_exit ∧ type_of% @seqC_ret ∧ type_of% @seqC_pan ∧ type_of% @loopC_normal ∧ type_of% @loopC_exit ∧ type_of% @loopC_ret ∧ type_of% @loopC_pan ∧ type_of% @blockK_normal ∧ type_of% @blockK_exit ∧ type_of% @blockK_exit_ne ∧ type_of% @blockK_ret ∧ type_of% @blockK_pan ∧ type_of% @fnK_normal ∧ type_of% @fnK_ret := ⟨@KG_tup, @KC_some, @KF_some, @KP_some, @KR_some, @seqC_normal, @seqC_exit, @seqC_ret, @seqC_pan, @loopC_normal, @loopC_exit, @loopC_ret, @loopC_pan, @blockK_normal, @blockK_exit, @blockK_exit_ne, @blockK_ret, @blockK_pan, @fnK_normal, @fnK_ret⟩
theorem WK4 : type_of% @fnK_pan ∧ type_of% @evs_env ∧ type_of% @evs_const ∧ type_of% @evs_func ∧ type_of% @ofVal_int ∧ type_of% @ofVal_bool ∧ type_of% @ofVal_nil ∧ type_of% @ofVal_nilp ∧ type_of% @vnil_optr ∧ type_of% @vbin_add ∧ type_of% @vbin_sub ∧ type_of% @vbin_mul ∧ type_of% @vbin_quo ∧ type_of% @vbin_rem ∧ type_of% @vbin_eql ∧ type_of% @vbin_neq ∧ type_of% @vbin_lss ∧ type_of% @vbin_leq ∧ type_of% @vbin_gtr ∧ type_of% @vbin_geq := ⟨@fnK_pan, @evs_env, @evs_const, @evs_func, @ofVal_int, @ofVal_bool, @ofVal_nil, @ofVal_nilp, @vnil_optr, @vbin_add, @vbin_sub, @vbin_mul, @vbin_quo, @vbin_rem, @vbin_eql, @vbin_neq, @vbin_lss, @vbin_leq, @vbin_gtr, @vbin_geq⟩
theorem WK5 : type_of% @vbin_and ∧ type_of% @vbin_or ∧ type_of% @vbin_xor ∧ type_of% @vbin_andNot ∧ type_of% @vbin_shl ∧ type_of% @vbin_shr ∧ type_of% @vbin_str ∧ type_of% @upd_some ∧ type_of% @upd_none ∧ type_of% @vresults_tmp ∧ type_of% @vresults_nil ∧ type_of% @vresults_cell ∧ type_of% @vtuple_0 ∧ type_of% @vtuple_1 ∧ type_of% @vtuple_2 := ⟨@vbin_and, @vbin_or, @vbin_xor, @vbin_andNot, @vbin_shl, @vbin_shr, @vbin_str, @upd_some, @upd_none, @vresults_tmp, @vresults_nil, @vresults_cell, @vtuple_0, @vtuple_1, @vtuple_2⟩
theorem WK6 : type_of% @true_implies ∧ type_of% @decide_true ∧ type_of% @decide_false ∧ type_of% @Bool.not_true ∧ type_of% @Bool.not_false ∧ type_of% @not_true_eq_false ∧ type_of% @not_false_eq_true ∧ type_of% @Bool.false_eq_true ∧ type_of% @and_self ∧ type_of% @and_true ∧ type_of% @true_and ∧ type_of% @Option.map_some.{0,0} ∧ type_of% @Option.map_none.{0,0} ∧ type_of% @List.append_nil.{0} ∧ type_of% @List.getElem?_cons_zero.{0} ∧ type_of% @List.getElem?_cons_succ.{0} ∧ type_of% @ne_eq.{1} ∧ type_of% @List.getD_cons_zero.{0} ∧ type_of% @List.getD_cons_succ.{0} := ⟨@true_implies, @decide_true, @decide_false, @Bool.not_true, @Bool.not_false, @not_true_eq_false, @not_false_eq_true, @Bool.false_eq_true, @and_self, @and_true, @true_and, @Option.map_some.{0,0}, @Option.map_none.{0,0}, @List.append_nil.{0}, @List.getElem?_cons_zero.{0}, @List.getElem?_cons_succ.{0}, @ne_eq.{1}, @List.getD_cons_zero.{0}, @List.getD_cons_succ.{0}⟩
theorem WK7 : type_of% @Ev_hreg ∧ type_of% @EoH_nil ∧ type_of% @EoH_cold ∧ type_of% @EoH_hot ∧ type_of% @hC_normal ∧ type_of% @hC_pan ∧ type_of% @KH_some ∧ type_of% @Eo_makeMap ∧ type_of% @Eo_insert ∧ type_of% @Eo_mapUpdate ∧ type_of% @Eo_lookup := ⟨@Ev_hreg, @EoH_nil, @EoH_cold, @EoH_hot, @hC_normal, @hC_pan, @KH_some, @Eo_makeMap, @Eo_insert, @Eo_mapUpdate, @Eo_lookup⟩
theorem WK : type_of% WK0 ∧ type_of% WK1 ∧ type_of% WK2 ∧ type_of% WK3 ∧ type_of% WK4 ∧ type_of% WK5 ∧ type_of% WK6 ∧ type_of% WK7 := ⟨WK0, WK1, WK2, WK3, WK4, WK5, WK6, WK7⟩
end Go.Proofs.Ytplhelapcpcncaa.Q

set_option linter.unusedVariables false
set_option linter.unusedSimpArgs false
namespace Go.Proofs.Ytplhelapcpcncaa.Q
open Go Go.RowKit Go.Proofs
theorem T3 : Try.prog.underlying 3 = some (.int .i64) := by kernel_rfl
theorem C5 : Try.prog.cellsOf 5 = 1 := by kernel_rfl
theorem G3 : isAggT Try.prog 3 = some false := by kernel_rfl
theorem G4 : isAggT Try.prog 4 = some false := by kernel_rfl
theorem S3 : sizeT Try.prog 3 = some 1 := by kernel_rfl
theorem S4 : sizeT Try.prog 4 = some 1 := by kernel_rfl
def isTrue : Option (VRes × St) → Bool
  | some (.ret (.bool true), _) => true
  | _ => false
theorem isTrue_eq {o : Option (VRes × St)} (h : isTrue o = true) : ∃ σ, o = some (.ret (.bool true), σ) := by
  unfold isTrue at h
  split at h
  · exact ⟨_, rfl⟩
  · cases h
theorem wrap_nat {n : Nat} (h : n < 2 ^ 63) : IntKind.i64.wrap (n : Int) = n := wrap_i64 (by omega) (by omega)
end Go.Proofs.Ytplhelapcpcncaa.Q

/- Rows, written or not. -/
set_option linter.unusedVariables false
set_option linter.unusedSimpArgs false
set_option maxRecDepth 100000
namespace Go.Proofs.Ytplhelapcpcncaa.Q
open Go Go.RowKit Go.Proofs
/-- w is a row of n elements of k cells each; it may be a part of an object. -/
def RowS (σ : St) (k : Nat) (w : V) (cs : List V) (n : Nat) : Prop := RowV k w cs n ∨ (cs.length = n * k ∧ ∃ r off c, w = .hslice r off k n ∧ σ.objs[r]? = some (.cells c) ∧ off + n * k ≤ c.length ∧ (c.drop off).take (n * k) = cs)
section
variable {σ : St} {k n : Nat} {w : V} {cs : List V}
theorem RowS.keep {σ' : St} (h : RowS σ k w cs n) (hk : Keep σ σ') : RowS σ' k w cs n := by
  rcases h with h | ⟨h0, r, off, c, h1, h2, h3⟩
  · exact .inl h
  · exact .inr ⟨h0, r, off, c, h1, hk.1 _ _ h2, h3⟩
theorem RowS.size (h : RowS σ k w cs n) : cs.length = n * k := by
  rcases h with h | ⟨h0, _⟩
  · exact h.1
  · exact h0
theorem RowS.one (h : RowS σ k w cs n) : one w = true := by
  rcases h with h | ⟨h0, r, off, c, rfl, _⟩
  · exact h.one
  · rfl
theorem RowS.len (h : RowS σ k w cs n) {t e : TypeId} (ht : Try.prog.underlying t = some (.slice e)) : vlen Try.prog t w = some (.int .i64 (n : Nat)) := by
  rcases h with h | ⟨h0, r, off, c, rfl, _⟩
  · exact h.len ht
  · simp [vlen, ht]
/-- The place of an element: what may be read there. -/
def At (σ : St) (p : V) (c : List V) : Prop := (∃ cs o, p = .eptr cs o ∧ o + c.length ≤ cs.length ∧ (cs.drop o).take c.length = c) ∨ ∃ r o cs, p = .optr r o ∧ σ.objs[r]? = some (.cells cs) ∧ o + c.length ≤ cs.length ∧ (cs.drop o).take c.length = c
theorem RowS.at (h : RowS σ k w cs n) {t e : TypeId} (ht : Try.prog.underlying t = some (.slice e)) (hs : sizeT Try.prog e = some k) (hk : 0 < k) {i : Nat} (hi : i < n) {kk : IntKind} :
    ∃ p, vindexAddr Try.prog t w (.int kk (i : Int)) = some p ∧ At σ p ((cs.drop (i * k)).take k) := by
  have hsz := h.size
  have hle : i * k + k ≤ n * k := by
    have : (i + 1) * k ≤ n * k := Nat.mul_le_mul_right k hi
    rwa [Nat.add_mul, Nat.one_mul] at this
  have hpl : ((cs.drop (i * k)).take k).length = k := by rw [List.length_take, List.length_drop]; omega
  rcases h with h | ⟨h0, r, off, c, rfl, h2, h3, h4⟩
  · refine ⟨_, RowV.addr h ht hs hk (kk := kk) (i := (i : Int)) (by omega) (by omega), .inl ⟨cs, i * k, by rw [Int.toNat_natCast], by rw [hpl]; omega, by rw [hpl]⟩⟩
  · have hi' : (i : Int) < n := by omega
    refine ⟨.optr r (off + i * k), by simp [vindexAddr, ht, hs, hi'], .inr ⟨r, _, c, rfl, h2, by rw [hpl]; omega, ?_⟩⟩
    rw [hpl, ← h4, List.drop_take, List.drop_drop, List.take_take]
    congr 1
    omega
theorem At.keep {σ' : St} {p : V} {c : List V} (h : At σ p c) (hk : Keep σ σ') : At σ' p c := by
  rcases h with h | ⟨r, o, cs, h1, h2, h3⟩
  · exact .inl h
  · exact .inr ⟨r, o, cs, h1, hk.1 _ _ h2, h3⟩
theorem At.load {p : V} {c : List V} (h : At σ p c) {e : TypeId} (ha : isAggT Try.prog e = some true) (hs : sizeT Try.prog e = some c.length) : vload Try.prog σ.objs e p = some (.agg c) := by
  rcases h with ⟨cs, o, rfl, h1, h2⟩ | ⟨r, o, cs, rfl, hr, h1, h2⟩
  · simp only [vload, vcellsAt, vpart, ha, hs, if_pos h1, h2]
  · simp only [vload, vcellsAt, hr, vpart, ha, hs, if_pos h1, h2]
theorem At.load1 {p : V} {v : V} (h : At σ p [v]) {e : TypeId} (ha : isAggT Try.prog e = some false) : vload Try.prog σ.objs e p = some v := by
  have key : ∀ (cs : List V) (o : Nat), o + 1 ≤ cs.length → (cs.drop o).take 1 = [v] → cs[o]? = some v := by
    intro cs o h1 h2
    have := congrArg (·[0]?) h2
    simpa using this
  rcases h with ⟨cs, o, rfl, h1, h2⟩ | ⟨r, o, cs, rfl, hr, h1, h2⟩
  · simp only [vload, vcellsAt, vpart, ha]; exact key cs o h1 h2
  · simp only [vload, vcellsAt, hr, vpart, ha]; exact key cs o h1 h2
/-- A cell of what lies there. -/
theorem At.part {p : V} {c : List V} (h : At σ p c) {j m : Nat} (hj : j + m ≤ c.length) : ∃ p', (∀ (e : TypeId) (f : Nat), (∀ q o, vfieldAddr Try.prog e (.optr q o) f = some (.optr q (o + j))) → (∀ cs o, vfieldAddr Try.prog e (.eptr cs o) f = some (.eptr cs (o + j))) → vfieldAddr Try.prog e p f = some p') ∧ At σ p' ((c.drop j).take m) := by
  have hpl : ((c.drop j).take m).length = m := by rw [List.length_take, List.length_drop]; omega
  have cut : ∀ (cs : List V) (o : Nat), o + c.length ≤ cs.length → (cs.drop o).take c.length = c → (cs.drop (o + j)).take m = (c.drop j).take m := by
    intro cs o h1 h2
    have h3 : c.drop j = ((cs.drop o).take c.length).drop j := by rw [h2]
    rw [h3, List.drop_take, List.drop_drop, List.take_take]
    congr 1
    omega
  rcases h with ⟨cs, o, rfl, h1, h2⟩ | ⟨r, o, cs, rfl, hr, h1, h2⟩
  · exact ⟨.eptr cs (o + j), fun e f _ h => h cs o, .inl ⟨cs, o + j, rfl, by rw [hpl]; omega, by rw [hpl]; exact cut cs o h1 h2⟩⟩
  · exact ⟨.optr r (o + j), fun e f h _ => h r o, .inr ⟨r, o + j, cs, rfl, hr, by rw [hpl]; omega, by rw [hpl]; exact cut cs o h1 h2⟩⟩
end
end Go.Proofs.Ytplhelapcpcncaa.Q

set_option linter.unusedVariables false
set_option linter.unusedSimpArgs false
namespace Go.Proofs.Ytplhelapcpcncaa.Q
open Go Go.RowKit Go.Proofs
/-- A value: kind, number, text, parts. -/
inductive Val where
  | mk (kind num : Int) (text : List UInt8) (list : List Val)
mutual
/-- These cells are the value. -/
inductive ValC : Val → List V → Prop
  | mk {k n : Int} {t : List UInt8} {l : List Val} {w : V} : InI64 k → InI64 n → ValsW l w → ValC (.mk k n t l) [.int .i64 k, .int .i64 n, .str t, w]
/-- This slice is the list of values. -/
inductive ValsW : List Val → V → Prop
  | nil : ValsW [] .nils
  | row {l : List Val} {cs : List V} {p : Perm} : ValsC l cs → ValsW l (.slice p 4 cs l.length)
inductive ValsC : List Val → List V → Prop
  | nil : ValsC [] []
  | cons {v : Val} {c : List V} {l : List Val} {cs : List V} : ValC v c → ValsC l cs → ValsC (v :: l) (c ++ cs)
end
theorem ValC.inv {v : Val} {c : List V} (h : ValC v c) : ∃ k n t l w, v = .mk k n t l ∧ c = [.int .i64 k, .int .i64 n, .str t, w] ∧ ValsW l w ∧ InI64 k ∧ InI64 n := by
  cases h with
  | mk h1 h2 h3 => exact ⟨_, _, _, _, _, rfl, rfl, h3, h1, h2⟩
theorem ValC.len {v : Val} {c : List V} (h : ValC v c) : c.length = 4 := by
  obtain ⟨k, n, t, l, w, rfl, rfl, _⟩ := h.inv
  rfl
theorem ValsW.one {l : List Val} {w : V} (h : ValsW l w) : one w = true := by
  cases h <;> rfl
theorem ValC.one {v : Val} {c : List V} (h : ValC v c) : c.all one = true := by
  obtain ⟨k, n, t, l, w, rfl, rfl, hw, _⟩ := h.inv
  simp only [List.all_cons, List.all_nil, hw.one]
  rfl
theorem ValsC.len : ∀ {l : List Val} {cs : List V}, ValsC l cs → cs.length = l.length * 4
  | [], _, h => by cases h; rfl
  | v :: l, _, h => by
    cases h with
    | cons h1 h2 => rw [List.length_append, h1.len, h2.len, List.length_cons]; omega
theorem ValsC.get : ∀ {l : List Val} {cs : List V}, ValsC l cs → ∀ {i : Nat} (hi : i < l.length), ValC l[i] ((cs.drop (i * 4)).take 4)
  | [], _, h, i, hi => by simp at hi
  | v :: l, _, h, i, hi => by
    cases h with
    | @cons _ c _ cs h1 h2 =>
      cases i with
      | zero =>
        have : ((c ++ cs).drop (0 * 4)).take 4 = c := by
          rw [Nat.zero_mul, List.drop_zero, ← h1.len, List.take_left]
        rw [this]
        exact h1
      | succ i =>
        have : (c ++ cs).drop ((i + 1) * 4) = cs.drop (i * 4) := by
          rw [show (i + 1) * 4 = c.length + i * 4 by rw [h1.len]; omega, List.drop_length_add_append]
        rw [this]
        exact h2.get (by simpa using hi)
theorem VT22 : Try.prog.underlying 22 = some (.slice 29) := by kernel_rfl
theorem VS24 : sizeT Try.prog 29 = some 4 := by kernel_rfl
theorem VG24 : isAggT Try.prog 29 = some true := by kernel_rfl
theorem VG22 : isAggT Try.prog 22 = some false := by kernel_rfl
theorem T9 : Try.prog.underlying 9 = some .string := by kernel_rfl
theorem G9 : isAggT Try.prog 9 = some false := by kernel_rfl
theorem S9 : sizeT Try.prog 9 = some 1 := by kernel_rfl
theorem FV0 (r n : Nat) : vfieldAddr Try.prog 29 (.optr r n) 0 = some (.optr r n) := by kernel_rfl
theorem FV1 (r n : Nat) : vfieldAddr Try.prog 29 (.optr r n) 1 = some (.optr r (n + 1)) := by kernel_rfl
theorem FV2 (r n : Nat) : vfieldAddr Try.prog 29 (.optr r n) 2 = some (.optr r (n + 2)) := by kernel_rfl
theorem FV3 (r n : Nat) : vfieldAddr Try.prog 29 (.optr r n) 3 = some (.optr r (n + 3)) := by kernel_rfl
def val0C : List V := [.int .i64 0, .int .i64 0, .str [], .nils]
theorem VZ24 : zeroT Try.prog 29 = some (.agg val0C) := by kernel_rfl
theorem vlen_str {t : TypeId} {s : List UInt8} (ht : Try.prog.underlying t = some .string) : vlen Try.prog t (.str s) = some (.int .i64 s.length) := by
  simp [vlen, ht]
theorem ValsW.len {l : List Val} {w : V} (h : ValsW l w) : vlen Try.prog 22 w = some (.int .i64 l.length) := by
  cases h <;> simp [vlen, VT22]
/-- A part of it. -/
theorem ValsW.get {l : List Val} {w : V} (h : ValsW l w) {i : Nat} (hi : i < l.length) : ∃ cs c, vindexAddr Try.prog 22 w (.int .i64 i) = some (.eptr cs (i * 4)) ∧ (∀ objs, vload Try.prog objs 29 (.eptr cs (i * 4)) = some (.agg c)) ∧ ValC l[i] c := by
  cases h with
  | nil => simp at hi
  | @row _ cs p h =>
    have hl := h.len
    have hne : cs ≠ [] := by
      rintro rfl
      simp only [List.length_nil] at hl
      omega
    refine ⟨cs, _, ?_, fun objs => ?_, h.get hi⟩
    · simp [vindexAddr, VT22, VS24, hi, hne]
    · have : i * 4 + 4 ≤ cs.length := by omega
      simp [vload, vcellsAt, vpart, VG24, VS24, this]
/-- An object that is a value. -/
def IsV (σ : St) (q : Nat) (c : List V) : Prop := σ.objs[q]? = some (.cells c)
section
variable {σ : St} {q : Nat} {k n : Int} {t : List UInt8} {w : V}
theorem IsV.kind (h : IsV σ q [.int .i64 k, .int .i64 n, .str t, w]) : vload Try.prog σ.objs 3 (.optr q 0) = some (.int .i64 k) := by rw [vload_obj h G3]; rfl
theorem IsV.num (h : IsV σ q [.int .i64 k, .int .i64 n, .str t, w]) : vload Try.prog σ.objs 3 (.optr q 1) = some (.int .i64 n) := by rw [vload_obj h G3]; rfl
theorem IsV.text (h : IsV σ q [.int .i64 k, .int .i64 n, .str t, w]) : vload Try.prog σ.objs 9 (.optr q 2) = some (.str t) := by rw [vload_obj h G9]; rfl
theorem IsV.list (h : IsV σ q [.int .i64 k, .int .i64 n, .str t, w]) : vload Try.prog σ.objs 22 (.optr q 3) = some w := by rw [vload_obj h VG22]; rfl
end
theorem IsV.load {σ : St} {q : Nat} {c : List V} (h : IsV σ q c) (hc : c.length = 4) : vload Try.prog σ.objs 29 (.optr q 0) = some (.agg c) := vload_agg h VG24 (by rw [hc]; exact VS24)
theorem IsV.new {σ : St} {o c : List V} (hc : c.length = 4) (ho : o.length = 4) (h1 : c.all one = true) : vstore Try.prog ⟨σ.objs ++ [Ob.cells o], σ.toks⟩ 29 (.optr σ.objs.length 0) (.agg c) = some ⟨(σ.objs ++ [Ob.cells o]).set σ.objs.length (Ob.cells c), σ.toks⟩ :=
  vstore_agg (push_new _ _) (by rw [hc]; exact VS24) (by rw [hc, ho]) h1
theorem IsV.made {σ : St} {o c : List V} : IsV ⟨(σ.objs ++ [Ob.cells o]).set σ.objs.length (Ob.cells c), σ.toks⟩ σ.objs.length c := obj_set (push_new _ _)
theorem Keep.madeV {σ0 σ : St} (h : Keep σ0 σ) (o c : List V) : Keep σ0 ⟨(σ.objs ++ [Ob.cells o]).set σ.objs.length (Ob.cells c), σ.toks⟩ :=
  h.trans (((Keep.refl σ).push (.cells o)).setNew (Nat.le_refl _) _)
theorem Keep.atV {σ σ' : St} (h : Keep σ σ') {q : Nat} {c : List V} (hq : IsV σ q c) : IsV σ' q c := h.1 _ _ hq
mutual
def weight : Val → Nat
  | .mk _ _ t l => 1 + t.length + weights l
def weights : List Val → Nat
  | [] => 0
  | v :: l => weight v + weights l
end
theorem weights_mem : ∀ {l : List Val} {v : Val}, v ∈ l → weight v ≤ weights l
  | [], v, h => by cases h
  | a :: l, v, h => by
    rw [weights]
    rcases List.mem_cons.1 h with rfl | h
    · omega
    · have := weights_mem h; omega
theorem weights_append (a b : List Val) : weights (a ++ b) = weights a + weights b := by
  induction a with
  | nil => simp [weights]
  | cons v a ih => rw [List.cons_append, weights, weights, ih]; omega
theorem weights_take_succ {l : List Val} {i : Nat} (h : i < l.length) : weights (l.take (i + 1)) = weights (l.take i) + weight l[i] := by
  rw [List.take_succ_eq_append_getElem h, weights_append]
  simp [weights]
theorem weights_take_le (l : List Val) (i : Nat) : weights (l.take i) ≤ weights l := by
  have := weights_append (l.take i) (l.drop i)
  rw [List.take_append_drop] at this
  omega
theorem weight_pos (v : Val) : 0 < weight v := by
  cases v; rw [weight]; omega
theorem weights_len : ∀ l : List Val, l.length ≤ weights l
  | [] => by simp
  | v :: l => by
    have := weights_len l
    have := weight_pos v
    rw [weights, List.length_cons]; omega
theorem ValC.bulk : ∀ (n : Nat) {v : Val} {c : List V}, weight v ≤ n → ValC v c → weight v ≤ vbulks c
  | 0, v, c, hn, h => by have := weight_pos v; omega
  | n + 1, v, c, hn, h => by
    obtain ⟨k, m, t, l, w, rfl, rfl, hw, _⟩ := h.inv
    rw [weight] at hn ⊢
    have rows : ∀ {l : List Val} {cs : List V}, weights l ≤ n → ValsC l cs → weights l ≤ vbulks cs := by
      intro l
      induction l with
      | nil => intro cs _ h; simp [weights]
      | cons v l ih =>
        intro cs hl h
        cases h with
        | cons h1 h2 =>
          rw [weights] at hl ⊢
          have h3 := ValC.bulk n (by omega) h1
          have h4 := ih (by omega) h2
          rw [vbulks_append]
          omega
    cases hw with
    | nil => simp [weights, vbulks, vbulk]; omega
    | row hc =>
      have := rows (by omega) hc
      simp only [vbulks, vbulk]
      omega
theorem FOV : fieldsOf Try.prog 29 = [(3, 0), (3, 1), (9, 2), (22, 3)] := by kernel_rfl
theorem CO3 : Try.prog.cellsOf 3 = 1 := by kernel_rfl
theorem CO9 : Try.prog.cellsOf 9 = 1 := by kernel_rfl
theorem CO22 : Try.prog.cellsOf 22 = 1 := by kernel_rfl
theorem CO24 : Try.prog.cellsOf 29 = 4 := by kernel_rfl
theorem one_of {cs : List V} {i : Nat} {v : V} (h : (cs.drop i).take 1 = [v]) : cs[i]? = some v := by
  have : ((cs.drop i).take 1)[0]? = some v := by rw [h]; rfl
  simpa using this
theorem list_ext4 {cs : List V} {a b c d : V} (hl : cs.length = 4) (h0 : cs[0]? = some a) (h1 : cs[1]? = some b) (h2 : cs[2]? = some c) (h3 : cs[3]? = some d) : cs = [a, b, c, d] := by
  match cs, hl with
  | [x0, x1, x2, x3], _ => simp at h0 h1 h2 h3; simp [h0, h1, h2, h3]
set_option maxRecDepth 100000 in
theorem val_VT' (K : Nat) : ∀ k, k ≤ K → ∀ {cs : List V}, VT Try.prog k 29 cs → ∃ v, ValC v cs := by
  induction K with
  | zero =>
    intro k hk cs h
    have : k = 0 := by omega
    subst this
    exact h.elim
  | succ K ihK =>
    intro k hk cs h
    cases k with
    | zero => exact h.elim
    | succ k =>
      have hS : cs.length = Try.prog.cellsOf 29 ∧ ∀ q ∈ [(3, 0), (3, 1), (9, 2), (22, 3)], VT Try.prog k q.1 ((cs.drop q.2).take (Try.prog.cellsOf q.1)) := by
        have hu := FOV
        unfold fieldsOf at hu
        split at hu
        · rename_i fs hf
          split at hu
          · cases hu
          · simp only [VT, hf] at h
            refine ⟨h.1, fun q hq => ?_⟩
            rw [← hu, List.mem_map] at hq
            obtain ⟨f, hfm, rfl⟩ := hq
            exact h.2 f hfm
        · cases hu
      obtain ⟨hl, hf⟩ := hS
      rw [CO24] at hl
      simp only [List.mem_cons, List.not_mem_nil, or_false, forall_eq_or_imp, forall_eq, CO3, CO9, CO22] at hf
      obtain ⟨f0, f1, f2, f3⟩ := hf
      obtain ⟨a, h0, w0⟩ := VT_int T3 f0
      obtain ⟨b, h1, w1⟩ := VT_int T3 f1
      obtain ⟨s, h2, w2⟩ := VT_str T9 f2
      have hlist : ∃ l w, (cs.drop 3).take 1 = [w] ∧ ValsW l w := by
        cases k with
        | zero => exact f3.elim
        | succ k =>
          simp only [VT, VT22, CO24] at f3
          rcases f3 with h | ⟨vs, len, h, h4, h5, h6⟩
          · exact ⟨[], .nils, h, .nil⟩
          · have rows : ∀ (len : Nat) (vs : List V), vs.length = len * 4 → (∀ i, i < len → VT Try.prog k 29 ((vs.drop (i * 4)).take 4)) → ∃ l, l.length = len ∧ ValsC l vs := by
              intro len
              induction len with
              | zero => 
                intro vs hv _
                have h0 : vs = [] := List.length_eq_zero_iff.1 (by simpa using hv)
                subst h0
                exact ⟨[], rfl, .nil⟩
              | succ len ih =>
                intro vs hv hi
                have hv0 := hi 0 (by omega)
                rw [Nat.zero_mul, List.drop_zero] at hv0
                obtain ⟨v, hvC⟩ := ihK k (by omega) hv0
                obtain ⟨l, hl, hlC⟩ := ih (vs.drop 4) (by rw [List.length_drop, hv]; omega) fun i hlt => by
                  have := hi (i + 1) (by omega)
                  rwa [show (i + 1) * 4 = 4 + i * 4 by omega, ← List.drop_drop] at this
                refine ⟨v :: l, by simp [hl], ?_⟩
                have := ValsC.cons hvC hlC
                rwa [List.take_append_drop] at this
            obtain ⟨l, hl, hlC⟩ := rows len vs h4 h6
            subst hl
            exact ⟨l, _, h, .row hlC⟩
      obtain ⟨l, w, h3, hw⟩ := hlist
      refine ⟨.mk a b s l, ?_⟩
      have : cs = [.int .i64 a, .int .i64 b, .str s, w] := list_ext4 hl (one_of h0) (one_of h1) (one_of h2) (one_of h3)
      rw [this]
      exact .mk (InI64_of w0) (InI64_of w1) hw
theorem val_VT (k : Nat) {cs : List V} (h : VT Try.prog k 29 cs) : ∃ v, ValC v cs := val_VT' k k (Nat.le_refl _) h
end Go.Proofs.Ytplhelapcpcncaa.Q

/- Modules of code as values; what an instruction pops and pushes. -/
set_option linter.unusedVariables false
set_option linter.unusedSimpArgs false
set_option maxRecDepth 100000
namespace Go.Proofs.Ytplhelapcpcncaa.Q
open Go Go.RowKit Go.Proofs
structure Ins where
  op : Int
  a : Int
  deriving DecidableEq
structure Fun where
  params : Int
  locals : Int
  zero : Int
  stack : Int
  code : List Ins
structure Mdl where
  consts : List Val
  funcs : List Fun
def insC (i : Ins) : List V := [.int .i64 i.op, .int .i64 i.a]
theorem insC_len (i : Ins) : (insC i).length = 2 := rfl
def CodeS (σ : St) (w : V) (l : List Ins) : Prop := RowS σ 2 w (l.flatMap insC) l.length
def FunS (σ : St) (f : Fun) (c : List V) : Prop := ∃ w, c = [.int .i64 f.params, .int .i64 f.locals, .int .i64 f.zero, .int .i64 f.stack, w] ∧ CodeS σ w f.code
def FunsS (σ : St) (w : V) (l : List Fun) : Prop := ∃ cs, RowS σ 5 w cs l.length ∧ ∀ (i : Nat) (h : i < l.length), FunS σ l[i] ((cs.drop (i * 5)).take 5)
def MdlS (σ : St) (m : Mdl) (c : List V) : Prop := ∃ w1 w2, c = [w1, w2] ∧ ValsW m.consts w1 ∧ FunsS σ w2 m.funcs
theorem FunS.keep {σ σ' : St} {f : Fun} {c : List V} (h : FunS σ f c) (hk : Keep σ σ') : FunS σ' f c := let ⟨w, h1, h2⟩ := h; ⟨w, h1, RowS.keep h2 hk⟩
theorem FunsS.keep {σ σ' : St} {w : V} {l : List Fun} (h : FunsS σ w l) (hk : Keep σ σ') : FunsS σ' w l := let ⟨cs, h1, h2⟩ := h; ⟨cs, h1.keep hk, fun i hi => (h2 i hi).keep hk⟩
theorem MdlS.keep {σ σ' : St} {m : Mdl} {c : List V} (h : MdlS σ m c) (hk : Keep σ σ') : MdlS σ' m c := let ⟨w1, w2, h1, h2, h3⟩ := h; ⟨w1, w2, h1, h2, h3.keep hk⟩
theorem FunS.len {σ : St} {f : Fun} {c : List V} (h : FunS σ f c) : c.length = 5 := by obtain ⟨w, rfl, _⟩ := h; rfl
theorem FunS.one {σ : St} {f : Fun} {c : List V} (h : FunS σ f c) : c.all one = true := by
  obtain ⟨w, rfl, h2⟩ := h
  simp only [List.all_cons, List.all_nil, RowS.one h2]
  rfl
theorem MdlS.len {σ : St} {m : Mdl} {c : List V} (h : MdlS σ m c) : c.length = 2 := by obtain ⟨w1, w2, rfl, _⟩ := h; rfl
theorem MS : sizeT Try.prog 25 = some 2 := by kernel_rfl
theorem MG : isAggT Try.prog 25 = some true := by kernel_rfl
theorem FS : sizeT Try.prog 37 = some 5 := by kernel_rfl
theorem FG : isAggT Try.prog 37 = some true := by kernel_rfl
theorem NS : sizeT Try.prog 39 = some 2 := by kernel_rfl
theorem NG : isAggT Try.prog 39 = some true := by kernel_rfl
theorem FT : Try.prog.underlying 23 = some (.slice 37) := by kernel_rfl
theorem NT : Try.prog.underlying 35 = some (.slice 39) := by kernel_rfl
theorem FsG : isAggT Try.prog 23 = some false := by kernel_rfl
theorem NsG : isAggT Try.prog 35 = some false := by kernel_rfl
theorem VsG : isAggT Try.prog 22 = some false := by kernel_rfl
theorem MF0 (r o : Nat) : vfieldAddr Try.prog 25 (.optr r o) 0 = some (.optr r o) := by kernel_rfl
theorem MF1 (r o : Nat) : vfieldAddr Try.prog 25 (.optr r o) 1 = some (.optr r (o + 1)) := by kernel_rfl
theorem NF0 (r o : Nat) : vfieldAddr Try.prog 39 (.optr r o) 0 = some (.optr r o) := by kernel_rfl
theorem NF1 (r o : Nat) : vfieldAddr Try.prog 39 (.optr r o) 1 = some (.optr r (o + 1)) := by kernel_rfl
theorem FFp (r o : Nat) : vfieldAddr Try.prog 37 (.optr r o) 0 = some (.optr r o) := by kernel_rfl
theorem FFe (cs : List V) (o : Nat) : vfieldAddr Try.prog 37 (.eptr cs o) 0 = some (.eptr cs o) := by kernel_rfl
/-- What an instruction pops and pushes. -/
def popS (m : Mdl) (i : Ins) : Int := if i.op ∈ ([3, 5, 6, 8, 10, 13, 14, 15, 16] : List Int) then 1 else if i.op ∈ ([12, 17, 18, 19, 21] : List Int) then 2 else if i.op = 20 then 3 else if i.op = 9 then ((m.funcs[i.a.toNat]?).map (·.params)).getD 0 else 0
def pushS (i : Ins) : Int := if i.op ∈ ([1, 2, 4, 9, 12, 13, 14, 15, 16, 17, 18, 19, 20, 21] : List Int) then 1 else 0
/-- A call's function is there. -/
def callOk (m : Mdl) (i : Ins) : Prop := i.op = 9 → 0 ≤ i.a ∧ i.a < m.funcs.length
theorem params_at {σ : St} {w : V} {l : List Fun} (h : FunsS σ w l) {a : Int} (h0 : 0 ≤ a) (h1 : a < l.length) : ∃ p, vindexAddr Try.prog 23 w (.int .i64 a) = some p ∧ vfieldAddr Try.prog 37 p 0 = some p ∧ ∀ σ', Keep σ σ' → vload Try.prog σ'.objs 3 p = some (.int .i64 (((l[a.toNat]?).map (·.params)).getD 0)) := by
  obtain ⟨cs, hr, hf⟩ := h
  obtain ⟨n, rfl⟩ : ∃ n : Nat, a = (n : Int) := ⟨a.toNat, by omega⟩
  have hn : n < l.length := by omega
  obtain ⟨p, hp, hat⟩ := hr.at FT FS (by omega) hn (kk := .i64)
  obtain ⟨w', hc, _⟩ := hf n hn
  obtain ⟨p', hp', hat'⟩ := hat.part (j := 0) (m := 1) (by rw [hc]; simp)
  have hpp := hp' 37 0 (fun q o => by rw [FFp]; rfl) (fun cs o => by rw [FFe]; rfl)
  have hself : vfieldAddr Try.prog 37 p 0 = some p := by
    rcases hat with ⟨cs2, o, rfl, _⟩ | ⟨r, o, cs2, rfl, _⟩
    · exact FFe _ _
    · exact FFp _ _
  have : p' = p := by rw [hself] at hpp; injection hpp with e; exact e.symm
  subst this
  refine ⟨p', hp, hself, fun σ' hk => ?_⟩
  rw [hc] at hat'
  have := (hat'.keep hk).load1 (v := .int .i64 (l[n]).params) G3
  rw [this, Int.toNat_natCast, List.getElem?_eq_getElem hn]
  rfl
theorem ins_cases {o : Int} (h : 1 ≤ o ∧ o ≤ 21) : o = 1 ∨ o = 2 ∨ o = 3 ∨ o = 4 ∨ o = 5 ∨ o = 6 ∨ o = 7 ∨ o = 8 ∨ o = 9 ∨ o = 10 ∨ o = 11 ∨ o = 12 ∨ o = 13 ∨ o = 14 ∨ o = 15 ∨ o = 16 ∨ o = 17 ∨ o = 18 ∨ o = 19 ∨ o = 20 ∨ o = 21 := by omega
set_option maxRecDepth 100000 in
theorem effect_does {σ : St} {m : Mdl} {c : List V} (hm : MdlS σ m c) (i : Ins) (hi : callOk m i) : ∃ σ', Does Try.prog prims 45 [.agg c, .agg (insC i)] σ (.ret (.tuple [.int .i64 (popS m i), .int .i64 (pushS i)])) σ' ∧ Keep σ σ' := by
  have key : ∃ q σ', Does Try.prog prims 45 [.agg c, .agg (insC i)] σ q σ' ∧ q = .ret (.tuple [.int .i64 (popS m i), .int .i64 (pushS i)]) ∧ Keep σ σ' := by
    apply k45_is.does (by simp)
    obtain ⟨w1, w2, hc, hv, hf⟩ := hm
    obtain ⟨s1, hs1⟩ : ∃ s1 : St, s1 = ⟨(σ.objs ++ [Ob.cells c]) ++ [Ob.cells (insC i)], σ.toks⟩ := ⟨_, rfl⟩
    have k1 : Keep σ s1 := by rw [hs1]; exact ((Keep.refl σ).push _).push _
    have o1 : s1.objs[σ.objs.length]? = some (.cells [w1, w2]) := by rw [hs1, ← hc]; simp
    have o2 : s1.objs[σ.objs.length + 1]? = some (.cells (insC i)) := by rw [hs1]; simp
    have ld0 : vload Try.prog s1.objs 3 (.optr (σ.objs.length + 1) 0) = some (.int .i64 i.op) := by rw [vload_obj o2 G3]; rfl
    have ld1 : vload Try.prog s1.objs 3 (.optr (σ.objs.length + 1) 1) = some (.int .i64 i.a) := by rw [vload_obj o2 G3]; rfl
    have ldf : vload Try.prog s1.objs 23 (.optr σ.objs.length 1) = some w2 := by rw [vload_obj o1 FsG]; rfl
    have hlen : (σ.objs ++ [Ob.cells c]).length = σ.objs.length + 1 := by simp
    obtain ⟨o, a⟩ := i
    by_cases ho : 1 ≤ o ∧ o ≤ 21
    · by_cases h9 : o = 9
      · subst h9
        obtain ⟨p, hp, hpf, hpl⟩ := params_at hf (hi rfl).1 (hi rfl).2
        have hl := hpl s1 k1
        simp only [k45_a, WK, vop, evAll, evOpt, evParts, vbuiltin, vun, vextract, Nat.reduceLT, Nat.reduceEqDiff, ↓reduceIte, reduceCtorEq, Nat.reduceAdd, Int.reduceLT, Int.reduceNeg, valloc_std, noSB, vhot, vbox, vcells, hlen, ← hs1, NF0, NF1, MF1, ld0, ld1, ldf, Int.reduceEq, hp, hpf, hl]
        refine ⟨?_, k1⟩
        simp [popS, pushS]
      · rcases ins_cases ho with rfl | rfl | rfl | rfl | rfl | rfl | rfl | rfl | rfl | rfl | rfl | rfl | rfl | rfl | rfl | rfl | rfl | rfl | rfl | rfl | rfl <;>
        first
        | exact absurd rfl h9
        | (simp only [k45_a, WK, vop, evAll, evOpt, evParts, vbuiltin, vun, vextract, Nat.reduceLT, Nat.reduceEqDiff, ↓reduceIte, reduceCtorEq, Nat.reduceAdd, Int.reduceLT, Int.reduceNeg, valloc_std, noSB, vhot, vbox, vcells, hlen, ← hs1, NF0, NF1, MF1, ld0, Int.reduceEq]
           refine ⟨?_, k1⟩
           simp [popS, pushS])
    · have ne : ∀ k : Int, 1 ≤ k → k ≤ 21 → (o = k) = False := fun k h1 h2 => eq_false fun e => ho (by omega)
      simp only [k45_a, WK, vop, evAll, evOpt, evParts, vbuiltin, vun, vextract, Nat.reduceLT, Nat.reduceEqDiff, ↓reduceIte, reduceCtorEq, Nat.reduceAdd, Int.reduceLT, Int.reduceNeg, valloc_std, noSB, vhot, vbox, vcells, hlen, ← hs1, NF0, NF1, MF1, ld0, ne 1 (by decide) (by decide), ne 2 (by decide) (by decide), ne 3 (by decide) (by decide), ne 4 (by decide) (by decide), ne 5 (by decide) (by decide), ne 6 (by decide) (by decide), ne 7 (by decide) (by decide), ne 8 (by decide) (by decide), ne 9 (by decide) (by decide), ne 10 (by decide) (by decide), ne 12 (by decide) (by decide), ne 13 (by decide) (by decide), ne 14 (by decide) (by decide), ne 15 (by decide) (by decide), ne 16 (by decide) (by decide), ne 17 (by decide) (by decide), ne 18 (by decide) (by decide), ne 19 (by decide) (by decide), ne 20 (by decide) (by decide), ne 21 (by decide) (by decide)]
      refine ⟨?_, k1⟩
      have e : ∀ l : List Int, (∀ x ∈ l, 1 ≤ x ∧ x ≤ 21) → ¬ o ∈ l := fun l h hm => ho (h o hm)
      simp only [popS, pushS]
      rw [if_neg (e _ (by decide)), if_neg (e _ (by decide)), if_neg (fun h => ho (by omega)), if_neg (fun h => ho (by omega)), if_neg (e _ (by decide))]
  obtain ⟨q, σ', h1, rfl, h2⟩ := key
  exact ⟨σ', h1, h2⟩
end Go.Proofs.Ytplhelapcpcncaa.Q

/- Maps from numbers to numbers; what the document says an instruction pops and pushes; which numbers are right. -/
set_option linter.unusedVariables false
set_option linter.unusedSimpArgs false
set_option maxRecDepth 100000
namespace Go.Proofs.Ytplhelapcpcncaa.Q
open Go Go.RowKit Go.Proofs
/-! ### A map from numbers to numbers -/
theorem MU : Try.prog.underlying 68 = some (.map 3 3) := by kernel_rfl
theorem MK : keyDesc Try.prog 3 = some (.int .i64) := by kernel_rfl
theorem MZ : zeroT Try.prog 3 = some (.int .i64 0) := by kernel_rfl
def mpE (l : List (Int × Int)) : List (V × V) := l.map fun p => (.int .i64 p.1, .int .i64 p.2)
def lookI (l : List (Int × Int)) (k : Int) : Option Int := match l with
  | [] => none
  | p :: l => if p.1 = k then some p.2 else lookI l k
theorem vfind_mpE (k : Int) : ∀ (l : List (Int × Int)) (i : Nat), match lookI l k with
    | some v => ∃ j, vfind (.int .i64) (.int .i64 k) (mpE l) i = some (some (j, .int .i64 v))
    | none => vfind (.int .i64) (.int .i64 k) (mpE l) i = some none
  | [], i => rfl
  | p :: l, i => by
    have ih := vfind_mpE k l (i + 1)
    unfold lookI
    by_cases h : p.1 = k
    · rw [if_pos h]
      exact ⟨i, by simp [mpE, vfind, keyEq, h]⟩
    · rw [if_neg h]
      have e : vfind (.int .i64) (.int .i64 k) (mpE (p :: l)) i = vfind (.int .i64) (.int .i64 k) (mpE l) (i + 1) := by
        have h' : ¬ k = p.1 := fun e => h e.symm
        simp [mpE, vfind, keyEq, h']
      rw [e]
      exact ih
def IsMp (σ : St) (r : Nat) (l : List (Int × Int)) : Prop := σ.objs[r]? = some (.mp (mpE l))
theorem IsMp.put {σ : St} {r : Nat} {l : List (Int × Int)} (h : IsMp σ r l) {k v : Int} (hk : lookI l k = none) : ∃ σ', vmapSet Try.prog σ 68 (.omap r) (.int .i64 k) (.int .i64 v) = some σ' ∧ IsMp σ' r (l ++ [(k, v)]) ∧ KeepX r σ σ' ∧ σ'.toks = σ.toks := by
  have hf := vfind_mpE k l 0
  rw [hk] at hf
  simp only at hf
  have e : mpE l ++ [(V.int .i64 k, V.int .i64 v)] = mpE (l ++ [(k, v)]) := by simp [mpE]
  obtain ⟨σ', hs⟩ : ∃ σ' : St, σ' = ⟨σ.objs.set r (.mp (mpE (l ++ [(k, v)]))), σ.toks⟩ := ⟨_, rfl⟩
  have hlt := (List.getElem?_eq_some_iff.1 h).1
  refine ⟨σ', by simp only [vmapSet, MU, show σ.objs[r]? = some (.mp (mpE l)) from h, MK, hf, hs, e], by rw [IsMp, hs]; simp [hlt], ⟨fun q o hq ho => ?_, by rw [hs]; exact Nat.le_refl _, fun _ h => by rw [hs]; exact h⟩, by rw [hs]⟩
  rw [hs]
  simp only
  rw [List.getElem?_set_ne (Ne.symm hq)]
  exact ho
theorem IsMp.look {σ : St} {r : Nat} {l : List (Int × Int)} (h : IsMp σ r l) (k : Int) : vlookup Try.prog σ.objs 68 (.omap r) (.int .i64 k) true = some (.tuple [.int .i64 ((lookI l k).getD 0), .bool (lookI l k).isSome]) := by
  have hf := vfind_mpE k l 0
  cases hk : lookI l k with
  | none =>
    rw [hk] at hf
    simp only at hf
    simp only [vlookup, MU, show σ.objs[r]? = some (.mp (mpE l)) from h, MK, MZ, hf, if_true]
    rfl
  | some v =>
    rw [hk] at hf
    obtain ⟨j, hf⟩ := hf
    simp only [vlookup, MU, show σ.objs[r]? = some (.mp (mpE l)) from h, MK, MZ, hf, if_true]
    rfl
end Go.Proofs.Ytplhelapcpcncaa.Q

set_option linter.unusedVariables false
set_option linter.unusedSimpArgs false
set_option maxRecDepth 100000
namespace Go.Proofs.Ytplhelapcpcncaa.Q
open Go Go.RowKit Go.Proofs
def limL (m : Mdl) (st : Int) (n : Nat) (f : Fun) : List (Int × Int) := [(1, (m.consts.length : Nat)), (2, f.locals), (3, f.locals), (4, st), (5, st), (7, (f.code.length : Nat)), (8, (f.code.length : Nat)), (9, (n : Nat)), (11, 1099511627777), (12, 14)]
def rightS (m : Mdl) (st : Int) (n : Nat) (f : Fun) (i : Ins) : Bool := match lookI (limL m st n f) i.op with
  | some l => (decide (0 ≤ i.a) && decide (i.a < l)) && (!decide (i.op = 12) || decide (3 ≤ i.a))
  | none => (decide (1 ≤ i.op) && decide (i.op ≤ 21)) && decide (i.a = 0)
theorem FZ : zeroT Try.prog 37 = some (.agg [.int .i64 0, .int .i64 0, .int .i64 0, .int .i64 0, .nils]) := by kernel_rfl
theorem FF1' (r o : Nat) : vfieldAddr Try.prog 37 (.optr r o) 1 = some (.optr r (o + 1)) := by kernel_rfl
theorem FF3' (r o : Nat) : vfieldAddr Try.prog 37 (.optr r o) 3 = some (.optr r (o + 3)) := by kernel_rfl
theorem FF4' (r o : Nat) : vfieldAddr Try.prog 37 (.optr r o) 4 = some (.optr r (o + 4)) := by kernel_rfl
theorem fun_load {σ : St} {w : V} {l : List Fun} (h : FunsS σ w l) {n : Nat} (hn : n < l.length) : ∃ p cf, vindexAddr Try.prog 23 w (.int .i64 (n : Int)) = some p ∧ FunS σ l[n] cf ∧ ∀ σ', Keep σ σ' → vload Try.prog σ'.objs 37 p = some (.agg cf) := by
  obtain ⟨cs, hr, hf⟩ := h
  obtain ⟨p, hp, hat⟩ := hr.at FT FS (by omega) hn (kk := .i64)
  have h5 := (hf n hn).len
  exact ⟨p, _, hp, hf n hn, fun σ' hk => (hat.keep hk).load FG (by rw [h5]; exact FS)⟩
/-- A variable of a function's kind that gets one. -/
theorem funmade (σ : St) {f : Fun} {cf : List V} {σ0 : St} (h : FunS σ0 f cf) (hk : Keep σ0 σ) : ∃ s1 s2 w : _, s1 = (⟨σ.objs ++ [Ob.cells [.int .i64 0, .int .i64 0, .int .i64 0, .int .i64 0, .nils]], σ.toks⟩ : St) ∧ vstore Try.prog s1 37 (.optr σ.objs.length 0) (.agg cf) = some s2 ∧ Keep σ s2 ∧ s2.objs[σ.objs.length]? = some (.cells [.int .i64 f.params, .int .i64 f.locals, .int .i64 f.zero, .int .i64 f.stack, w]) ∧ CodeS σ0 w f.code ∧ s2.objs.length = σ.objs.length + 1 := by
  obtain ⟨w, hc, hw⟩ := h
  obtain ⟨s1, hs1⟩ : ∃ s1 : St, s1 = ⟨σ.objs ++ [Ob.cells [.int .i64 0, .int .i64 0, .int .i64 0, .int .i64 0, .nils]], σ.toks⟩ := ⟨_, rfl⟩
  have k1 : Keep σ s1 := by rw [hs1]; exact (Keep.refl σ).push _
  have q1 : s1.objs[σ.objs.length]? = some (.cells [.int .i64 0, .int .i64 0, .int .i64 0, .int .i64 0, .nils]) := by rw [hs1]; exact push_new _ _
  obtain ⟨s2, e⟩ : ∃ s2 : St, s2 = ⟨s1.objs.set σ.objs.length (.cells cf), s1.toks⟩ := ⟨_, rfl⟩
  obtain ⟨k, hk2⟩ := KeepX.set_eq q1 e
  refine ⟨s1, s2, w, hs1, ?_, ⟨fun q o ho => k.1 q o (by have := (List.getElem?_eq_some_iff.1 ho).1; omega) (k1.1 q o ho), Nat.le_trans k1.2.1 k.2.1, fun j hj => k.2.2 j (k1.2.2 j hj)⟩, by rw [hk2, hc], hw, by rw [e, hs1]; simp⟩
  rw [vstore_agg (cs' := cf) q1 (by rw [hc]; exact FS) (by rw [hc]; rfl) (by rw [hc]; simp only [List.all_cons, List.all_nil, RowS.one hw]; rfl), e]
theorem right_does {σ : St} {m : Mdl} {c : List V} (hm : MdlS σ m c) (st : Int) {n : Nat} (hn : n < m.funcs.length) (i : Ins) :
    ∃ σ', Does Try.prog prims 23 [.agg c, .int .i64 st, .int .i64 (n : Int), .agg (insC i)] σ (.ret (.bool (rightS m st n m.funcs[n] i))) σ' ∧ Keep σ σ' := by
  have key : ∃ q σ', Does Try.prog prims 23 [.agg c, .int .i64 st, .int .i64 (n : Int), .agg (insC i)] σ q σ' ∧ q = .ret (.bool (rightS m st n m.funcs[n] i)) ∧ Keep σ σ' := by
    apply k23_is.does (by simp)
    obtain ⟨w1, w2, hc, hv, hf⟩ := hm
    obtain ⟨s1, hs1⟩ : ∃ s1 : St, s1 = ⟨(σ.objs ++ [Ob.cells c]) ++ [Ob.cells (insC i)], σ.toks⟩ := ⟨_, rfl⟩
    have k1 : Keep σ s1 := by rw [hs1]; exact ((Keep.refl σ).push _).push _
    have o1 : s1.objs[σ.objs.length]? = some (.cells [w1, w2]) := by rw [hs1, ← hc]; simp
    have o2 : s1.objs[σ.objs.length + 1]? = some (.cells (insC i)) := by rw [hs1]; simp
    have hlen : (σ.objs ++ [Ob.cells c]).length = σ.objs.length + 1 := by simp
    have hl1 : s1.objs.length = σ.objs.length + 2 := by rw [hs1]; simp
    obtain ⟨p, cf, hp, hF, hpl⟩ := fun_load hf hn
    obtain ⟨s2, s3, wc, hs2, st3, k3, o3, hcode, hl3⟩ := funmade s1 hF k1
    obtain ⟨f, hfe⟩ : ∃ f, f = m.funcs[n] := ⟨_, rfl⟩
    rw [← hfe] at hF o3 hcode ⊢
    obtain ⟨s4, hs4⟩ : ∃ s4 : St, s4 = ⟨s3.objs ++ [Ob.mp []], s3.toks⟩ := ⟨_, rfl⟩
    have k4 : Keep s3 s4 := by rw [hs4]; exact (Keep.refl s3).push _
    have hmk : vmakeMap s3 = (.omap s3.objs.length, s4) := by rw [hs4]; rfl
    have m0 : IsMp s4 s3.objs.length [] := by rw [IsMp, hs4]; exact push_new _ _
    have ldf : vload Try.prog s1.objs 23 (.optr σ.objs.length 1) = some w2 := by rw [vload_obj o1 FsG]; rfl
    have F : ∀ s', KeepX s3.objs.length s4 s' → vload Try.prog s'.objs 22 (.optr σ.objs.length 0) = some w1 ∧ vload Try.prog s'.objs 3 (.optr s1.objs.length 1) = some (.int .i64 f.locals) ∧ vload Try.prog s'.objs 35 (.optr s1.objs.length 4) = some wc ∧ vload Try.prog s'.objs 3 (.optr (σ.objs.length + 1) 0) = some (.int .i64 i.op) ∧ vload Try.prog s'.objs 3 (.optr (σ.objs.length + 1) 1) = some (.int .i64 i.a) := by
      intro s' hk
      have e1 := hk.1 _ _ (by omega) (k4.1 _ _ (k3.1 _ _ o1))
      have e2 := hk.1 _ _ (by omega) (k4.1 _ _ (k3.1 _ _ o2))
      have e3 := hk.1 _ _ (by omega) (k4.1 _ _ o3)
      exact ⟨by rw [vload_obj e1 VsG]; rfl, by rw [vload_obj e3 G3]; rfl, by rw [vload_obj e3 NsG]; rfl, by rw [vload_obj e2 G3]; rfl, by rw [vload_obj e2 G3]; rfl⟩
    have lv := hv.len
    have lc : vlen Try.prog 35 wc = some (.int .i64 (f.code.length : Nat)) := RowS.len hcode NT
    obtain ⟨a1, p1, m1, x1, _⟩ := m0.put (k := 1) (v := (m.consts.length : Nat)) rfl
    obtain ⟨a2, p2, m2, x2, _⟩ := m1.put (k := 2) (v := f.locals) rfl
    obtain ⟨a3, p3, m3, x3, _⟩ := m2.put (k := 3) (v := f.locals) rfl
    obtain ⟨a4, p4, m4, x4, _⟩ := m3.put (k := 4) (v := st) rfl
    obtain ⟨a5, p5, m5, x5, _⟩ := m4.put (k := 5) (v := st) rfl
    obtain ⟨a6, p6, m6, x6, _⟩ := m5.put (k := 7) (v := (f.code.length : Nat)) rfl
    obtain ⟨a7, p7, m7, x7, _⟩ := m6.put (k := 8) (v := (f.code.length : Nat)) rfl
    obtain ⟨a8, p8, m8, x8, _⟩ := m7.put (k := 9) (v := (n : Nat)) rfl
    obtain ⟨a9, p9, m9, x9, _⟩ := m8.put (k := 11) (v := 1099511627777) rfl
    obtain ⟨a10, p10, m10, x10, _⟩ := m9.put (k := 12) (v := 14) rfl
    have y1 := x1
    have y2 := y1.trans x2
    have y3 := y2.trans x3
    have y4 := y3.trans x4
    have y5 := y4.trans x5
    have y6 := y5.trans x6
    have y10 := (((y6.trans x7).trans x8).trans x9).trans x10
    obtain ⟨f0, _⟩ := F s4 (KeepX.refl _ _)
    obtain ⟨_, f1, _⟩ := F a1 y1
    obtain ⟨_, f2, _⟩ := F a2 y2
    obtain ⟨_, _, f5, _⟩ := F a5 y5
    obtain ⟨_, _, f6, _⟩ := F a6 y6
    obtain ⟨_, _, _, f9, f10⟩ := F a10 y10
    have lk := m10.look i.op
    have hlim : ([] ++ [((1 : Int), ((m.consts.length : Nat) : Int))] ++ [(2, f.locals)] ++ [(3, f.locals)] ++ [(4, st)] ++ [(5, st)] ++ [(7, ((f.code.length : Nat) : Int))] ++ [(8, ((f.code.length : Nat) : Int))] ++ [(9, ((n : Nat) : Int))] ++ [(11, 1099511627777)] ++ [(12, 14)]) = limL m st n f := rfl
    rw [hlim] at lk
    have kend : Keep σ a10 := by
      have := (k1.trans k3).trans k4
      exact ⟨fun q o ho => y10.1 q o (by have := (List.getElem?_eq_some_iff.1 ho).1; omega) (this.1 q o ho), Nat.le_trans this.2.1 y10.2.1, fun j hj => y10.2.2 j (this.2.2 j hj)⟩
    simp only [k23_a, WK, vop, evAll, evOpt, evParts, vbuiltin, vun, vextract, Nat.reduceLT, Nat.reduceEqDiff, ↓reduceIte, reduceCtorEq, Nat.reduceAdd, Int.reduceLT, Int.reduceNeg, valloc_std, noSB, vhot, vbox, vcells, hlen, ← hs1, MF1, MF0, ldf, hp, hpl s1 k1, FZ, ← hs2, st3, hmk, f0, lv, p1, FF1', f1, p2, f2, p3, p4, p5, FF4', f5, lc, p6, f6, p7, p8, p9, p10, NF0, NF1, f9, lk]
    have tf : ∀ p : Prop, p = True ∨ p = False := fun p => by by_cases h : p <;> simp [h]
    cases hk : lookI (limL m st n f) i.op with
    | some l =>
      have hR : rightS m st n f i = ((decide (0 ≤ i.a) && decide (i.a < l)) && (!decide (i.op = 12) || decide (3 ≤ i.a))) := by unfold rightS; rw [hk]
      rw [hR]
      simp only [Option.isSome_some, Option.getD_some]
      rcases tf (0 ≤ i.a) with h1 | h1 <;> rcases tf (i.a < l) with h2 | h2 <;> rcases tf (i.op = 12) with h3 | h3 <;> rcases tf (3 ≤ i.a) with h4 | h4 <;>
      (simp only [k23_a, WK, vop, evAll, evOpt, evParts, vbuiltin, vun, vextract, Nat.reduceLT, Nat.reduceEqDiff, ↓reduceIte, reduceCtorEq, Nat.reduceAdd, Int.reduceLT, Int.reduceNeg, valloc_std, noSB, vhot, NF0, NF1, f9, f10, h1, h2, h3, h4, Bool.true_and, Bool.false_and, Bool.true_or, Bool.false_or, Bool.and_true, Bool.and_false]
       exact kend)
    | none =>
      have hR : rightS m st n f i = ((decide (1 ≤ i.op) && decide (i.op ≤ 21)) && decide (i.a = 0)) := by unfold rightS; rw [hk]
      rw [hR]
      simp only [Option.isSome_none, Option.getD_none]
      rcases tf (1 ≤ i.op) with h1 | h1 <;> rcases tf (i.op ≤ 21) with h2 | h2 <;> rcases tf (i.a = 0) with h3 | h3 <;>
      (simp only [k23_a, WK, vop, evAll, evOpt, evParts, vbuiltin, vun, vextract, Nat.reduceLT, Nat.reduceEqDiff, ↓reduceIte, reduceCtorEq, Nat.reduceAdd, Int.reduceLT, Int.reduceNeg, valloc_std, noSB, vhot, NF0, NF1, f9, f10, h1, h2, h3, Bool.true_and, Bool.false_and, Bool.and_true, Bool.and_false]
       exact kend)
  obtain ⟨q, σ', h1, rfl, h2⟩ := key
  exact ⟨σ', h1, h2⟩
end Go.Proofs.Ytplhelapcpcncaa.Q

set_option linter.unusedVariables false
set_option linter.unusedSimpArgs false
set_option maxRecDepth 100000
namespace Go.Proofs.Ytplhelapcpcncaa.Q
open Go Go.RowKit Go.Proofs
end Go.Proofs.Ytplhelapcpcncaa.Q

set_option linter.unusedVariables false
set_option linter.unusedSimpArgs false
set_option maxRecDepth 100000
namespace Go.Proofs.Ytplhelapcpcncaa.Q
open Go Go.RowKit Go.Proofs
def valN : List UInt8 → Nat
  | [] => 0
  | b :: bs => b.toNat % 128 + 128 * valN bs
def runN : List UInt8 → Nat
  | [] => 0
  | b :: bs => if 127 < b.toNat then runN bs + 1 else 0
def takeS (bs : List UInt8) : Nat × Nat :=
  if bs.length ≤ runN bs ∨ 9 ≤ runN bs ∨ (0 < runN bs ∧ (bs.getD (runN bs) 0).toNat = 0) then (0, 0) else (valN (bs.take (runN bs + 1)), runN bs + 1)
def I12 (v : V) (σ : St) (bs : List UInt8) : Nat → (Nat → V) → St → Prop := fun i e σ' => σ' = σ ∧ e 0 = v ∧ e 5 = .int .i64 i ∧ e 4 = .int .i64 (valN (bs.take i) : Nat) ∧ i ≤ runN bs ∧ i ≤ 9
end Go.Proofs.Ytplhelapcpcncaa.Q

set_option linter.unusedVariables false
set_option linter.unusedSimpArgs false
set_option maxRecDepth 100000
namespace Go.Proofs.Ytplhelapcpcncaa.Q
open Go Go.RowKit Go.Proofs
theorem IT : IntT Try.prog 70 3 := ⟨by kernel_rfl, T3, by kernel_rfl, by kernel_rfl, by kernel_rfl, by kernel_rfl, by kernel_rfl⟩
/-- The bytes of a number. -/
def putN (x : Nat) : List UInt8 := if h : 127 < x then UInt8.ofNat (x % 128 + 128) :: putN (x / 128) else [UInt8.ofNat x]
termination_by x
decreasing_by omega
def putS (xs : List Int) : List UInt8 := xs.flatMap fun x => putN x.toNat
/-- The inner loop of Put. -/
def I14 (n : Nat) (σ0 : St) (out : List UInt8) (x : Nat) : Nat → (Nat → V) → St → Prop := fun y e σ => y < 2 ^ 63 ∧ e 7 = .int .i64 y ∧ ∃ bs, OwnV 5 n σ (e 5) bs ∧ Keep σ0 σ ∧ bs ++ putN y = out ++ putN x ∧ bs.length + 9 ≤ 9 + out.length + 9
def I14o (n : Nat) (σ0 : St) (bs : List UInt8) (xs : List Int) : Nat → (Nat → V) → St → Prop := fun i e σ => e 19 = .int .i64 i ∧ i ≤ xs.length ∧ OwnV 5 n σ (e 5) (bs ++ putS (xs.take i)) ∧ Keep σ0 σ
end Go.Proofs.Ytplhelapcpcncaa.Q

set_option linter.unusedVariables false
set_option linter.unusedSimpArgs false
namespace Go.Proofs.Ytplhelapcpcncaa.Q
open Go Go.RowKit Go.Proofs
/-- The order of numbers. -/
def sgn (a b : Int) : Int := if a < b then -1 else if b < a then 1 else 0
/-- The first that is not 0. -/
def orI : List Int → Int
  | [] => 0
  | x :: l => if x = 0 then orI l else x
theorem nan_does (x : Int) (σ : St) : Does Try.prog prims 78 [.int .i64 x] σ (.ret (.bool false)) σ := by
  apply k78_is.ret (by simp)
  simp only [k78_a, WK, vop, evAll, evOpt, evParts, vbuiltin, vun, vextract, Nat.reduceLT, Nat.reduceEqDiff, ↓reduceIte, reduceCtorEq, Nat.reduceAdd, Int.reduceLT, Int.reduceNeg, valloc_std, noSB, vhot, List.getD_cons_zero]
theorem sgn_does (a b : Int) (σ : St) : Does Try.prog prims 73 [.int .i64 a, .int .i64 b] σ (.ret (.int .i64 (sgn a b))) σ := by
  apply k73_is.ret (by simp)
  simp only [k73_a, WK, vop, evAll, evOpt, evParts, vbuiltin, vun, vextract, Nat.reduceLT, Nat.reduceEqDiff, ↓reduceIte, reduceCtorEq, Nat.reduceAdd, Int.reduceLT, Int.reduceNeg, valloc_std, noSB, vhot, List.getD_cons_zero, List.getD_cons_succ]
  refine KD.ret (nan_does a σ) ?_
  simp only [k73_a, WK, vop, evAll, evOpt, evParts, vbuiltin, vun, vextract, Nat.reduceLT, Nat.reduceEqDiff, ↓reduceIte, reduceCtorEq, Nat.reduceAdd, Int.reduceLT, Int.reduceNeg, valloc_std, noSB, vhot, List.getD_cons_zero, List.getD_cons_succ]
  refine KD.ret (nan_does b σ) ?_
  unfold sgn
  by_cases h1 : a < b
  · simp only [k73_a, WK, vop, evAll, evOpt, evParts, vbuiltin, vun, vextract, Nat.reduceLT, Nat.reduceEqDiff, ↓reduceIte, reduceCtorEq, Nat.reduceAdd, Int.reduceLT, Int.reduceNeg, valloc_std, noSB, vhot, List.getD_cons_zero, List.getD_cons_succ, h1]
    try rfl
  · by_cases h2 : b < a
    · simp only [k73_a, WK, vop, evAll, evOpt, evParts, vbuiltin, vun, vextract, Nat.reduceLT, Nat.reduceEqDiff, ↓reduceIte, reduceCtorEq, Nat.reduceAdd, Int.reduceLT, Int.reduceNeg, valloc_std, noSB, vhot, List.getD_cons_zero, List.getD_cons_succ, h1, h2]
      try rfl
    · simp only [k73_a, WK, vop, evAll, evOpt, evParts, vbuiltin, vun, vextract, Nat.reduceLT, Nat.reduceEqDiff, ↓reduceIte, reduceCtorEq, Nat.reduceAdd, Int.reduceLT, Int.reduceNeg, valloc_std, noSB, vhot, List.getD_cons_zero, List.getD_cons_succ, h1, h2]
      try rfl
theorem or_does {w : V} {xs : List Int} (hw : IntsV w xs) (hl : xs.length ≤ 1000) (σ : St) : Does Try.prog prims 72 [w] σ (.ret (.int .i64 (orI xs))) σ := by
  apply k72_is.ret (by simp)
  simp only [k72_a, WK, vop, evAll, evOpt, evParts, vbuiltin, vun, vextract, Nat.reduceLT, Nat.reduceEqDiff, ↓reduceIte, reduceCtorEq, Nat.reduceAdd, Int.reduceLT, Int.reduceNeg, valloc_std, noSB, vhot, List.getD_cons_zero, hw.len IT]
  refine Ev.loopF (fun i e σ' => e 8 = .int .i64 (i : Nat) ∧ i ≤ xs.length ∧ orI xs = orI (xs.drop i) ∧ σ' = σ) (fun i => xs.length - i) 0 ⟨by simp [upd_some], by simp, by simp, rfl⟩ ?_
  rintro i e σ' ⟨h8, hi, hor, rfl⟩ hf
  have h7 : e 7 = .int .i64 xs.length := (hf 7 (by decide)).trans (by simp [upd_some])
  have h6 : e 6 = w := (hf 6 (by decide)).trans (by simp [upd_some])
  have h3 : e 3 = .int .i64 0 := (hf 3 (by decide)).trans (by simp [upd_some])
  clear hf
  by_cases hlt : i < xs.length
  · have hlt' : (i : Int) < xs.length := by omega
    have hwi : IntKind.i64.wrap ((i : Int) + 1) = ((i + 1 : Nat) : Int) := by rw [show ((i : Int) + 1) = ((i + 1 : Nat) : Int) from by omega]; exact wrap_nat (by omega)
    rw [List.drop_eq_getElem_cons hlt, orI] at hor
    by_cases hx : xs[i] = 0
    · rw [if_pos hx] at hor
      simp only [k72_a, WK, vop, evAll, evOpt, evParts, vbuiltin, vun, vextract, Nat.reduceLT, Nat.reduceEqDiff, ↓reduceIte, reduceCtorEq, Nat.reduceAdd, Int.reduceLT, Int.reduceNeg, valloc_std, noSB, vhot, h3, h6, h7, h8, hlt', hw.addr IT (Int.natCast_nonneg i) hlt', IntsV.load IT hlt, Int.toNat_natCast, hx, hwi]
      exact ⟨i + 1, ⟨by simp [upd_some], hlt, hor⟩, by omega⟩
    · rw [if_neg hx] at hor
      simp only [k72_a, WK, vop, evAll, evOpt, evParts, vbuiltin, vun, vextract, Nat.reduceLT, Nat.reduceEqDiff, ↓reduceIte, reduceCtorEq, Nat.reduceAdd, Int.reduceLT, Int.reduceNeg, valloc_std, noSB, vhot, h3, h6, h7, h8, hlt', hw.addr IT (Int.natCast_nonneg i) hlt', IntsV.load IT hlt, Int.toNat_natCast, hx]
      rw [hor]
  · have hlt' : ¬ (i : Int) < xs.length := by omega
    have : xs.drop i = [] := List.drop_of_length_le (by omega)
    rw [this, orI] at hor
    simp only [k72_a, WK, vop, evAll, evOpt, evParts, vbuiltin, vun, vextract, Nat.reduceLT, Nat.reduceEqDiff, ↓reduceIte, reduceCtorEq, Nat.reduceAdd, Int.reduceLT, Int.reduceNeg, valloc_std, noSB, vhot, h3, h6, h7, h8, hlt']
    rw [hor]
mutual
def cmpV : Val → Val → Int
  | .mk k n t l, .mk k' n' t' l' => orI [sgn k k', sgn n n', Lib.compareBytes t t', cmpL l l']
def cmpL : List Val → List Val → Int
  | [], [] => 0
  | [], _ :: _ => -1
  | _ :: _, [] => 1
  | a :: l, b :: m => if cmpV a b = 0 then cmpL l m else cmpV a b
end
theorem cmpL_nil (m : List Val) : cmpL [] m = if (0 : Nat) < m.length then -1 else 0 := by cases m <;> simp [cmpL]
theorem cmpL_cons_nil (a : Val) (l : List Val) : cmpL (a :: l) [] = 1 := by rw [cmpL]
theorem compareBytes_in : ∀ a b : List UInt8, Lib.compareBytes a b = -1 ∨ Lib.compareBytes a b = 0 ∨ Lib.compareBytes a b = 1
  | [], [] => by simp [Lib.compareBytes]
  | [], _ :: _ => by simp [Lib.compareBytes]
  | _ :: _, [] => by simp [Lib.compareBytes]
  | a :: l, b :: m => by
    rw [Lib.compareBytes]
    split
    · simp
    · split
      · simp
      · exact compareBytes_in l m
theorem sgn_in (a b : Int) : sgn a b = -1 ∨ sgn a b = 0 ∨ sgn a b = 1 := by
  unfold sgn; split
  · simp
  · split <;> simp
theorem orI_in : ∀ {l : List Int}, (∀ x ∈ l, x = -1 ∨ x = 0 ∨ x = 1) → orI l = -1 ∨ orI l = 0 ∨ orI l = 1
  | [], _ => by simp [orI]
  | x :: l, h => by
    rw [orI]
    split
    · exact orI_in fun y hy => h y (List.mem_cons_of_mem _ hy)
    · exact h x (List.mem_cons_self ..)
theorem cmp_in : ∀ (n : Nat) (a b : Val), weight a ≤ n → cmpV a b = -1 ∨ cmpV a b = 0 ∨ cmpV a b = 1
  | 0, a, b, h => by have := weight_pos a; omega
  | n + 1, .mk k m t l, .mk k' m' t' l', h => by
    rw [weight] at h
    have rows : ∀ (l m : List Val), weights l ≤ n → cmpL l m = -1 ∨ cmpL l m = 0 ∨ cmpL l m = 1 := by
      intro l
      induction l with
      | nil => intro m _; cases m <;> simp [cmpL]
      | cons a l ih =>
        intro m hl
        rw [weights] at hl
        cases m with
        | nil => simp [cmpL]
        | cons b m =>
          rw [cmpL]
          split
          · exact ih m (by omega)
          · exact cmp_in n a b (by omega)
    rw [cmpV]
    refine orI_in ?_
    intro x hx
    simp only [List.mem_cons, List.not_mem_nil, or_false] at hx
    rcases hx with rfl | rfl | rfl | rfl
    · exact sgn_in _ _
    · exact sgn_in _ _
    · exact compareBytes_in _ _
    · exact rows l l' (by omega)
theorem cmpV_in (a b : Val) : cmpV a b = -1 ∨ cmpV a b = 0 ∨ cmpV a b = 1 := cmp_in _ a b (Nat.le_refl _)
theorem cmpL_in : ∀ (l m : List Val), cmpL l m = -1 ∨ cmpL l m = 0 ∨ cmpL l m = 1
  | [], m => by cases m <;> simp [cmpL]
  | a :: l, [] => by simp [cmpL]
  | a :: l, b :: m => by
    rw [cmpL]
    split
    · exact cmpL_in l m
    · exact cmpV_in a b
theorem in64 {x : Int} (h : x = -1 ∨ x = 0 ∨ x = 1) : InI64 x := by unfold InI64; omega
theorem buildInts4 {a b c d : Int} (h : ∀ x ∈ [a, b, c, d], InI64 x) : ∃ v, vbuildSlice Try.prog 70 4 [(0, .int .i64 a), (1, .int .i64 b), (2, .int .i64 c), (3, .int .i64 d)] = some v ∧ IntsV v [a, b, c, d] := by
  refine ⟨.slice .exact 1 [i64V a, i64V b, i64V c, i64V d] 4, ?_, .inr ⟨.exact, rfl⟩, h⟩
  simp [vbuildSlice, IT.u, IT.s, IT.z, vcells, vfill, zeroCellsV, setAll, i64V]
  simp [List.range, List.range.loop]
/-- What is known of a comparison of the parts. -/
def CmpOk (F : FuncId) (l : List Val) : Prop := ∀ a ∈ l, ∀ (b : Val) (c1 c2 : List V) (σ : St), ValC a c1 → ValC b c2 → ∃ σ', Does Try.prog prims F [.agg c1, .agg c2] σ (.ret (.int .i64 (cmpV a b))) σ' ∧ Keep σ σ'
def I59 (σ0 : St) (l m : List Val) : Nat → (Nat → V) → St → Prop := fun i e σ => e 13 = .int .i64 i ∧ i ≤ l.length ∧ i ≤ m.length ∧ cmpL l m = cmpL (l.drop i) (m.drop i) ∧ Keep σ0 σ
theorem comparefunc_does {F : FuncId} {l m : List Val} (H : CmpOk F l) {v w : V} (hv : ValsW l v) (hw : ValsW m w) (hl : l.length ≤ 4294967296) (σ : St) :
    ∃ σ', Does Try.prog prims 75 [v, w, .func F []] σ (.ret (.int .i64 (cmpL l m))) σ' ∧ Keep σ σ' := by
  have key : ∃ q σ', Does Try.prog prims 75 [v, w, .func F []] σ q σ' ∧ q = .ret (.int .i64 (cmpL l m)) ∧ Keep σ σ' := by
    apply k75_is.does (by simp)
    simp only [k75_a, WK, vop, evAll, evOpt, evParts, vbuiltin, vun, vextract, Nat.reduceLT, Nat.reduceEqDiff, ↓reduceIte, reduceCtorEq, Nat.reduceAdd, Int.reduceLT, Int.reduceNeg, valloc_std, noSB, vhot, List.getD_cons_zero, List.getD_cons_succ, hv.len]
    refine Ev.loopF (I59 σ l m) (fun i => l.length - i) 0 ⟨by simp [upd_some], by simp, by simp, by simp, Keep.refl σ⟩ ?_
    rintro i e σ1 ⟨h13, hi, him, heq, hk⟩ hf
    have h12 : e 12 = .int .i64 l.length := (hf 12 (by decide)).trans (by simp [upd_some])
    have h11 : e 11 = v := (hf 11 (by decide)).trans (by simp [upd_some])
    have h0 : e 0 = v := (hf 0 (by decide)).trans (by simp [upd_some])
    have h1 : e 1 = w := (hf 1 (by decide)).trans (by simp [upd_some])
    have h2 : e 2 = .func F [] := (hf 2 (by decide)).trans (by simp [upd_some])
    clear hf
    by_cases hlt : i < l.length
    · have hlt' : (i : Int) < l.length := by omega
      have hwi : IntKind.i64.wrap ((i : Int) + 1) = ((i + 1 : Nat) : Int) := by rw [show ((i : Int) + 1) = ((i + 1 : Nat) : Int) from by omega]; exact wrap_nat (by omega)
      obtain ⟨cs, c, ha, hld, hc⟩ := hv.get hlt
      obtain ⟨s2, hs2⟩ : ∃ s2 : St, s2 = ⟨(σ1.objs ++ [Ob.cells val0C]).set σ1.objs.length (Ob.cells c), σ1.toks⟩ := ⟨_, rfl⟩
      have q2 : IsV s2 σ1.objs.length c := by rw [hs2]; exact IsV.made
      have k2 : Keep σ1 s2 := by rw [hs2]; exact (Keep.refl σ1).madeV _ _
      rw [List.drop_eq_getElem_cons hlt] at heq
      by_cases hge : (m.length : Int) ≤ (i : Int)
      · have hmi : m.drop i = [] := List.drop_of_length_le (by omega)
        rw [hmi, cmpL_cons_nil] at heq
        simp only [k75_a, WK, vop, evAll, evOpt, evParts, vbuiltin, vun, vextract, Nat.reduceLT, Nat.reduceEqDiff, ↓reduceIte, reduceCtorEq, Nat.reduceAdd, Int.reduceLT, Int.reduceNeg, valloc_std, noSB, vhot, h1, h11, h12, h13, hlt', ha, hld, VZ24, vbox, vcells, IsV.new hc.len (show val0C.length = 4 from rfl) hc.one, ← hs2, hw.len, hge]
        exact ⟨by rw [heq], hk.trans k2⟩
      · have hltm : i < m.length := by omega
        obtain ⟨cs', c', ha', hld', hc'⟩ := hw.get hltm
        rw [List.drop_eq_getElem_cons hltm, cmpL] at heq
        obtain ⟨s3, hs3⟩ : ∃ s3 : St, s3 = ⟨(s2.objs ++ [Ob.cells val0C]).set s2.objs.length (Ob.cells c'), s2.toks⟩ := ⟨_, rfl⟩
        have q3 : IsV s3 s2.objs.length c' := by rw [hs3]; exact IsV.made
        have k3 : Keep s2 s3 := by rw [hs3]; exact (Keep.refl s2).madeV _ _
        have p3 := k3.atV q2
        obtain ⟨s4, d4, k4⟩ := H l[i] (List.getElem_mem hlt) m[i] c c' s3 hc hc'
        simp only [k75_a, WK, vop, evAll, evOpt, evParts, vbuiltin, vun, vextract, Nat.reduceLT, Nat.reduceEqDiff, ↓reduceIte, reduceCtorEq, Nat.reduceAdd, Int.reduceLT, Int.reduceNeg, valloc_std, noSB, vhot, h1, h2, h11, h12, h13, hlt', ha, hld, VZ24, vbox, vcells, IsV.new hc.len (show val0C.length = 4 from rfl) hc.one, ← hs2, hw.len, hge, ha', hld', IsV.new hc'.len (show val0C.length = 4 from rfl) hc'.one, ← hs3, p3.load hc.len, q3.load hc'.len]
        refine KD.ret d4 ?_
        by_cases hz : cmpV l[i] m[i] = 0
        · rw [if_pos hz] at heq
          simp only [k75_a, WK, vop, evAll, evOpt, evParts, vbuiltin, vun, vextract, Nat.reduceLT, Nat.reduceEqDiff, ↓reduceIte, reduceCtorEq, Nat.reduceAdd, Int.reduceLT, Int.reduceNeg, valloc_std, noSB, vhot, h13, hz, hwi]
          exact ⟨i + 1, ⟨by simp [upd_some], hlt, hltm, heq, ((hk.trans k2).trans k3).trans k4⟩, by omega⟩
        · rw [if_neg hz] at heq
          simp only [k75_a, WK, vop, evAll, evOpt, evParts, vbuiltin, vun, vextract, Nat.reduceLT, Nat.reduceEqDiff, ↓reduceIte, reduceCtorEq, Nat.reduceAdd, Int.reduceLT, Int.reduceNeg, valloc_std, noSB, vhot, h13, hz]
          exact ⟨by rw [heq], ((hk.trans k2).trans k3).trans k4⟩
    · have hlt' : ¬ (i : Int) < l.length := by omega
      have hli : l.drop i = [] := List.drop_of_length_le (by omega)
      rw [hli, cmpL_nil, List.length_drop] at heq
      by_cases hs : (l.length : Int) < m.length
      · rw [if_pos (by omega)] at heq
        simp only [k75_a, WK, vop, evAll, evOpt, evParts, vbuiltin, vun, vextract, Nat.reduceLT, Nat.reduceEqDiff, ↓reduceIte, reduceCtorEq, Nat.reduceAdd, Int.reduceLT, Int.reduceNeg, valloc_std, noSB, vhot, h0, h1, h11, h12, h13, hlt', hv.len, hw.len, hs]
        exact ⟨by rw [heq], hk⟩
      · rw [if_neg (by omega)] at heq
        simp only [k75_a, WK, vop, evAll, evOpt, evParts, vbuiltin, vun, vextract, Nat.reduceLT, Nat.reduceEqDiff, ↓reduceIte, reduceCtorEq, Nat.reduceAdd, Int.reduceLT, Int.reduceNeg, valloc_std, noSB, vhot, h0, h1, h11, h12, h13, hlt', hv.len, hw.len, hs]
        exact ⟨by rw [heq], hk⟩
  obtain ⟨q, σ', h1, rfl, h3⟩ := key
  exact ⟨σ', h1, h3⟩
theorem compare_ok : ∀ (n : Nat), n ≤ 4294967296 → ∀ {a b : Val} {c1 c2 : List V} (σ : St), weight a ≤ n → ValC a c1 → ValC b c2 → ∃ σ', Does Try.prog prims 62 [.agg c1, .agg c2] σ (.ret (.int .i64 (cmpV a b))) σ' ∧ Keep σ σ' := by
  intro n
  induction n with
  | zero => intro _ a b c1 c2 σ h; have := weight_pos a; omega
  | succ n ih =>
    intro hn a b c1 c2 σ hwt ha hb
    have key : ∃ q σ', Does Try.prog prims 62 [.agg c1, .agg c2] σ q σ' ∧ q = .ret (.int .i64 (cmpV a b)) ∧ Keep σ σ' := by
      obtain ⟨k, m, t, l, w, rfl, rfl, hw, ik, im⟩ := ha.inv
      obtain ⟨k', m', t', l', w', rfl, rfl, hw', ik', im'⟩ := hb.inv
      rw [weight] at hwt
      have hll := weights_len l
      have H : CmpOk 62 l := fun x hx b d1 d2 σ h1 h2 => by
        have := weights_mem hx
        exact ih (by omega) σ (by omega) h1 h2
      apply k62_is.does (by simp)
      obtain ⟨σ2, hσ2⟩ : ∃ σ2 : St, σ2 = ⟨(σ.objs ++ [Ob.cells [.int .i64 k, .int .i64 m, .str t, w]]) ++ [Ob.cells [.int .i64 k', .int .i64 m', .str t', w']], σ.toks⟩ := ⟨_, rfl⟩
      have hk2 : Keep σ σ2 := by rw [hσ2]; exact ((Keep.refl σ).push _).push _
      have q2 : IsV σ2 σ.objs.length [.int .i64 k, .int .i64 m, .str t, w] := by rw [hσ2]; show ((σ.objs ++ [_]) ++ [_])[_]? = _; rw [List.getElem?_append_left (by simp)]; exact push_new _ _
      have p2 : IsV σ2 (σ.objs.length + 1) [.int .i64 k', .int .i64 m', .str t', w'] := by rw [hσ2]; simp [IsV]
      obtain ⟨σ3, d3, k3⟩ := comparefunc_does H hw hw' (by omega) σ2
      have hI : ∀ x ∈ [sgn k k', sgn m m', Lib.compareBytes t t', cmpL l l'], InI64 x := by
        intro x hx
        simp only [List.mem_cons, List.not_mem_nil, or_false] at hx
        rcases hx with rfl | rfl | rfl | rfl
        · exact in64 (sgn_in _ _)
        · exact in64 (sgn_in _ _)
        · exact in64 (compareBytes_in _ _)
        · exact in64 (cmpL_in _ _)
      obtain ⟨b4, hb4, hb4i⟩ := buildInts4 hI
      have dor := or_does hb4i (by simp) σ3
      simp only [k62_a, WK, vop, evAll, evOpt, evParts, vbuiltin, vun, vextract, Nat.reduceLT, Nat.reduceEqDiff, ↓reduceIte, reduceCtorEq, Nat.reduceAdd, Int.reduceLT, Int.reduceNeg, valloc_std, noSB, vhot, List.getD_cons_zero, List.getD_cons_succ, vbox, vcells, List.length_append, List.length_cons, List.length_nil, ← hσ2, FV0, FV1, FV2, FV3, q2.kind, p2.kind]
      refine KD.ret (sgn_does _ _ _) ?_
      simp only [k62_a, WK, vop, evAll, evOpt, evParts, vbuiltin, vun, vextract, Nat.reduceLT, Nat.reduceEqDiff, ↓reduceIte, reduceCtorEq, Nat.reduceAdd, Int.reduceLT, Int.reduceNeg, valloc_std, noSB, vhot, FV0, FV1, FV2, FV3, q2.num, p2.num]
      refine KD.ret (sgn_does _ _ _) ?_
      simp only [k62_a, WK, vop, evAll, evOpt, evParts, vbuiltin, vun, vextract, Nat.reduceLT, Nat.reduceEqDiff, ↓reduceIte, reduceCtorEq, Nat.reduceAdd, Int.reduceLT, Int.reduceNeg, valloc_std, noSB, vhot, FV0, FV1, FV2, FV3, q2.text, p2.text]
      refine KD.ret (Does_compare t t' σ2) ?_
      simp only [k62_a, WK, vop, evAll, evOpt, evParts, vbuiltin, vun, vextract, Nat.reduceLT, Nat.reduceEqDiff, ↓reduceIte, reduceCtorEq, Nat.reduceAdd, Int.reduceLT, Int.reduceNeg, valloc_std, noSB, vhot, FV0, FV1, FV2, FV3, q2.list, p2.list]
      refine KD.ret d3 ?_
      simp only [k62_a, WK, vop, evAll, evOpt, evParts, vbuiltin, vun, vextract, Nat.reduceLT, Nat.reduceEqDiff, ↓reduceIte, reduceCtorEq, Nat.reduceAdd, Int.reduceLT, Int.reduceNeg, valloc_std, noSB, vhot, hb4]
      refine KD.ret dor ?_
      simp only [k62_a, WK, vop, evAll, evOpt, evParts, vbuiltin, vun, vextract, Nat.reduceLT, Nat.reduceEqDiff, ↓reduceIte, reduceCtorEq, Nat.reduceAdd, Int.reduceLT, Int.reduceNeg, valloc_std, noSB, vhot, q2.kind, q2.num, q2.text, q2.list, p2.kind, p2.num, p2.text, p2.list]
      rw [cmpV]
      exact ⟨rfl, hk2.trans k3⟩
    obtain ⟨q, σ', h1, rfl, h3⟩ := key
    exact ⟨σ', h1, h3⟩
theorem compare_does {a b : Val} {c1 c2 : List V} (σ : St) (hw : weight a ≤ 4294967296) (ha : ValC a c1) (hb : ValC b c2) : ∃ σ', Does Try.prog prims 62 [.agg c1, .agg c2] σ (.ret (.int .i64 (cmpV a b))) σ' ∧ Keep σ σ' :=
  compare_ok _ (Nat.le_refl _) σ hw ha hb
end Go.Proofs.Ytplhelapcpcncaa.Q

set_option linter.unusedVariables false
set_option linter.unusedSimpArgs false
namespace Go.Proofs.Ytplhelapcpcncaa.Q
open Go Go.RowKit Go.Proofs
def I27 (σ0 : St) (q p : Nat) (l m : List Val) (c d : List V) : Nat → (Nat → V) → St → Prop := fun i e σ => e 5 = .int .i64 i ∧ i ≤ l.length ∧ i ≤ m.length ∧ cmpL l m = cmpL (l.drop i) (m.drop i) ∧ Keep σ0 σ ∧ IsV σ q c ∧ IsV σ p d
/-! ### Weights -/
def I28 (σ0 : St) (s : Nat) (l : List Val) : Nat → (Nat → V) → St → Prop := fun i e σ => e 13 = .int .i64 i ∧ i ≤ l.length ∧ e 3 = .int .i64 (s + weights (l.take i) : Nat) ∧ Keep σ0 σ
theorem weight_ok : ∀ (n : Nat), n ≤ 4294967296 → ∀ {a : Val} {c1 : List V} (σ : St), weight a ≤ n → ValC a c1 → ∃ σ', Does Try.prog prims 40 [.agg c1] σ (.ret (.int .i64 (weight a : Nat))) σ' ∧ Keep σ σ' := by
  intro n
  induction n with
  | zero => intro _ a c1 σ h; have := weight_pos a; omega
  | succ n ih =>
    intro hn a c1 σ hwt ha
    have key : ∃ q σ', Does Try.prog prims 40 [.agg c1] σ q σ' ∧ q = .ret (.int .i64 (weight a : Nat)) ∧ Keep σ σ' := by
      obtain ⟨k, m, t, l, w, rfl, rfl, hw, ik, im⟩ := ha.inv
      rw [weight] at hwt ⊢
      have hll := weights_len l
      apply k40_is.does (by simp)
      obtain ⟨σ2, hσ2⟩ : ∃ σ2 : St, σ2 = ⟨σ.objs ++ [Ob.cells [.int .i64 k, .int .i64 m, .str t, w]], σ.toks⟩ := ⟨_, rfl⟩
      have hk2 : Keep σ σ2 := by rw [hσ2]; exact (Keep.refl σ).push _
      have q2 : IsV σ2 σ.objs.length [.int .i64 k, .int .i64 m, .str t, w] := by rw [hσ2]; exact push_new _ _
      have w1 : IntKind.i64.wrap (1 + (t.length : Int)) = ((1 + t.length : Nat) : Int) := by rw [wrap_i64 (by omega) (by omega)]; omega
      simp only [k40_a, WK, vop, evAll, evOpt, evParts, vbuiltin, vun, vextract, Nat.reduceLT, Nat.reduceEqDiff, ↓reduceIte, reduceCtorEq, Nat.reduceAdd, Int.reduceLT, Int.reduceNeg, valloc_std, noSB, vhot, List.getD_cons_zero, vbox, vcells, ← hσ2, FV2, FV3, q2.text, q2.list, vlen_str T9, hw.len, w1]
      refine Ev.loopF (I28 σ (1 + t.length) l) (fun i => l.length - i) 0 ⟨by simp [upd_some], by simp, by simp [upd_some, weights], hk2⟩ ?_
      rintro i e σ1 ⟨h13, hi, h3, hk⟩ hf
      have h11 : e 11 = w := (hf 11 (by decide)).trans (by simp [upd_some])
      have h12 : e 12 = .int .i64 l.length := (hf 12 (by decide)).trans (by simp [upd_some])
      clear hf
      by_cases hlt : i < l.length
      · have hlt' : (i : Int) < l.length := by omega
        have hwi : IntKind.i64.wrap ((i : Int) + 1) = ((i + 1 : Nat) : Int) := by rw [show ((i : Int) + 1) = ((i + 1 : Nat) : Int) from by omega]; exact wrap_nat (by omega)
        obtain ⟨cs, c, ha0, hld, hc⟩ := hw.get hlt
        obtain ⟨s2, hs2⟩ : ∃ s2 : St, s2 = ⟨(σ1.objs ++ [Ob.cells val0C]).set σ1.objs.length (Ob.cells c), σ1.toks⟩ := ⟨_, rfl⟩
        have p2 : IsV s2 σ1.objs.length c := by rw [hs2]; exact IsV.made
        have k2 : Keep σ1 s2 := by rw [hs2]; exact (Keep.refl σ1).madeV _ _
        have hmem := weights_mem (List.getElem_mem hlt)
        obtain ⟨s3, d3, k3⟩ := ih (by omega) s2 (by omega) hc
        have hts := weights_take_succ hlt
        have htl := weights_take_le l (i + 1)
        have w2 : IntKind.i64.wrap (((1 + t.length + weights (l.take i) : Nat) : Int) + (weight l[i] : Nat)) = ((1 + t.length + weights (l.take (i + 1)) : Nat) : Int) := by rw [wrap_i64 (by omega) (by omega)]; omega
        simp only [k40_a, WK, vop, evAll, evOpt, evParts, vbuiltin, vun, vextract, Nat.reduceLT, Nat.reduceEqDiff, ↓reduceIte, reduceCtorEq, Nat.reduceAdd, Int.reduceLT, Int.reduceNeg, valloc_std, noSB, vhot, h3, h11, h12, h13, hlt', ha0, hld, VZ24, vbox, vcells, IsV.new hc.len (show val0C.length = 4 from rfl) hc.one, ← hs2, p2.load hc.len]
        refine KD.ret d3 ?_
        simp only [k40_a, WK, vop, evAll, evOpt, evParts, vbuiltin, vun, vextract, Nat.reduceLT, Nat.reduceEqDiff, ↓reduceIte, reduceCtorEq, Nat.reduceAdd, Int.reduceLT, Int.reduceNeg, valloc_std, noSB, vhot, h3, h13, w2, hwi]
        exact ⟨i + 1, ⟨by simp [upd_some], hlt, by simp [upd_some], (hk.trans k2).trans k3⟩, by omega⟩
      · have hlt' : ¬ (i : Int) < l.length := by omega
        simp only [k40_a, WK, vop, evAll, evOpt, evParts, vbuiltin, vun, vextract, Nat.reduceLT, Nat.reduceEqDiff, ↓reduceIte, reduceCtorEq, Nat.reduceAdd, Int.reduceLT, Int.reduceNeg, valloc_std, noSB, vhot, h3, h11, h12, h13, hlt']
        rw [List.take_of_length_le (by omega)]
        exact ⟨rfl, hk⟩
    obtain ⟨q, σ', h1, rfl, h3⟩ := key
    exact ⟨σ', h1, h3⟩
theorem weight_does {a : Val} {c1 : List V} (σ : St) (hw : weight a ≤ 4294967296) (ha : ValC a c1) : ∃ σ', Does Try.prog prims 40 [.agg c1] σ (.ret (.int .i64 (weight a : Nat))) σ' ∧ Keep σ σ' :=
  weight_ok _ (Nat.le_refl _) σ hw ha
end Go.Proofs.Ytplhelapcpcncaa.Q

set_option linter.unusedVariables false
set_option linter.unusedSimpArgs false
namespace Go.Proofs.Ytplhelapcpcncaa.Q
open Go Go.RowKit Go.Proofs
/-! ### How large -/
def IsN (σ : St) (p : Nat) (x : Nat) : Prop := σ.objs[p]? = some (.cells [.int .i64 (x : Nat)])
theorem IsN.load {σ : St} {p x : Nat} (h : IsN σ p x) : vload Try.prog σ.objs 3 (.optr p 0) = some (.int .i64 (x : Nat)) := by rw [vload_obj h G3]; rfl
theorem IsN.put {σ : St} {p x : Nat} (h : IsN σ p x) (y : Nat) : vstore Try.prog σ 3 (.optr p 0) (.int .i64 (y : Nat)) = some ⟨σ.objs.set p (Ob.cells [.int .i64 (y : Nat)]), σ.toks⟩ := by
  rw [vstore_obj h S3 rfl (by simp)]; rfl
theorem KeepX.atV {σ σ' : St} {p : Nat} (h : KeepX p σ σ') {q : Nat} {c : List V} (hne : q ≠ p) (hq : IsV σ q c) : IsV σ' q c := h.1 _ _ hne hq
theorem IsN.lt {σ : St} {p x : Nat} (h : IsN σ p x) : p < σ.objs.length := (List.getElem?_eq_some_iff.1 h).1
end Go.Proofs.Ytplhelapcpcncaa.Q

set_option linter.unusedVariables false
set_option linter.unusedSimpArgs false
namespace Go.Proofs.Ytplhelapcpcncaa.Q
open Go Go.RowKit Go.Proofs
/-! ### Types and their texts -/
inductive Ty where
  | int | bool | text
  | list (e : Ty) | mapI (e : Ty) | mapT (e : Ty)
  deriving DecidableEq
def intB : List UInt8 := [105, 110, 116]
def boolB : List UInt8 := [98, 111, 111, 108]
def textB : List UInt8 := [116, 101, 120, 116]
def mI : List UInt8 := [123, 105, 110, 116, 58]
def mT : List UInt8 := [123, 116, 101, 120, 116, 58]
def tyB : Ty → List UInt8
  | .int => intB
  | .bool => boolB
  | .text => textB
  | .list e => 91 :: (tyB e ++ [93])
  | .mapI e => mI ++ tyB e ++ [125]
  | .mapT e => mT ++ tyB e ++ [125]
def tyD : Ty → Nat
  | .int => 1 | .bool => 1 | .text => 1
  | .list e => tyD e + 1 | .mapI e => tyD e + 1 | .mapT e => tyD e + 1
def isPre (p l : List UInt8) : Bool := decide (p.length ≤ l.length) && decide (l.take p.length = p)
def mid (k : Nat) (s : List UInt8) : List UInt8 := s.dropLast.drop k
/-- The type of a text, of a depth at most r. -/
def tyOf : Nat → List UInt8 → Option Ty
  | 0, _ => none
  | r + 1, s => if s = intB then some .int else if s = boolB then some .bool else if s = textB then some .text
    else if s.length < 2 ∨ r = 0 then none
    else if isPre [91] s.dropLast = true then (if s.getLast? = some 93 then (tyOf r (mid 1 s)).map .list else none)
    else if isPre mI s.dropLast = true then (if s.getLast? = some 125 then (tyOf r (mid 5 s)).map .mapI else none)
    else if isPre mT s.dropLast = true then (if s.getLast? = some 125 then (tyOf r (mid 6 s)).map .mapT else none)
    else none
theorem isPre_append (p l : List UInt8) : isPre p (p ++ l) = true := by simp [isPre]
theorem dropLast_snoc (l : List UInt8) (x : UInt8) : (l ++ [x]).dropLast = l := List.dropLast_concat
theorem isPre_split {p s : List UInt8} {x : UInt8} (h : isPre p s.dropLast = true) (hx : s.getLast? = some x) : s = p ++ mid p.length s ++ [x] := by
  simp only [isPre, Bool.and_eq_true, decide_eq_true_eq] at h
  have h1 : s.dropLast ++ [x] = s := by
    rw [List.getLast?_eq_some_iff] at hx
    obtain ⟨ys, rfl⟩ := hx
    rw [List.dropLast_concat]
  conv => lhs; rw [← h1, ← List.take_append_drop p.length s.dropLast, h.2]
  rfl
theorem tyOf_some : ∀ {r : Nat} {s : List UInt8} {T : Ty}, tyOf r s = some T → s = tyB T ∧ tyD T ≤ r
  | 0, s, T, h => by cases h
  | r + 1, s, T, h => by
    rw [tyOf] at h
    split at h
    · rename_i hs; injection h with h; subst h; exact ⟨hs, by simp [tyD]⟩
    split at h
    · rename_i hs; injection h with h; subst h; exact ⟨hs, by simp [tyD]⟩
    split at h
    · rename_i hs; injection h with h; subst h; exact ⟨hs, by simp [tyD]⟩
    split at h
    · cases h
    split at h
    · rename_i hp
      split at h
      · rename_i hl
        rw [Option.map_eq_some_iff] at h
        obtain ⟨e, he, rfl⟩ := h
        obtain ⟨h1, h2⟩ := tyOf_some he
        have := isPre_split hp hl
        refine ⟨?_, by simp [tyD]; omega⟩
        rw [this, show ([91] : List UInt8).length = 1 from rfl, h1]
        rfl
      · cases h
    split at h
    · rename_i hp
      split at h
      · rename_i hl
        rw [Option.map_eq_some_iff] at h
        obtain ⟨e, he, rfl⟩ := h
        obtain ⟨h1, h2⟩ := tyOf_some he
        have := isPre_split hp hl
        refine ⟨?_, by simp [tyD]; omega⟩
        rw [this, show mI.length = 5 from rfl, h1]
        rfl
      · cases h
    split at h
    · rename_i hp
      split at h
      · rename_i hl
        rw [Option.map_eq_some_iff] at h
        obtain ⟨e, he, rfl⟩ := h
        obtain ⟨h1, h2⟩ := tyOf_some he
        have := isPre_split hp hl
        refine ⟨?_, by simp [tyD]; omega⟩
        rw [this, show mT.length = 6 from rfl, h1]
        rfl
      · cases h
    · cases h
theorem tyB_len : ∀ T : Ty, 3 ≤ (tyB T).length ∧ (tyB T).length ≤ 7 * tyD T
  | .int => by simp [tyB, tyD, intB]
  | .bool => by simp [tyB, tyD, boolB]
  | .text => by simp [tyB, tyD, textB]
  | .list e => by have := tyB_len e; simp [tyB, tyD]; omega
  | .mapI e => by have := tyB_len e; simp [tyB, tyD, mI]; omega
  | .mapT e => by have := tyB_len e; simp [tyB, tyD, mT]; omega
theorem tyD_pos (T : Ty) : 1 ≤ tyD T := by cases T <;> simp [tyD]
theorem tyOf_tyB : ∀ {T : Ty} {r : Nat}, tyD T ≤ r → tyOf r (tyB T) = some T
  | T, 0, h => by have := tyD_pos T; omega
  | .int, r + 1, h => by rw [tyOf, show tyB .int = intB from rfl]; exact if_pos rfl
  | .bool, r + 1, h => by rw [tyOf, show tyB .bool = boolB from rfl, if_neg (by decide)]; exact if_pos rfl
  | .text, r + 1, h => by rw [tyOf, show tyB .text = textB from rfl, if_neg (by decide), if_neg (by decide)]; exact if_pos rfl
  | .list e, r + 1, h => by
    have hl := tyB_len e
    have hr : r ≠ 0 := by have := tyD_pos e; simp only [tyD] at h; omega
    have hb1 : ¬ tyB (.list e) = intB := by simp [tyB, intB]
    have hb2 : ¬ tyB (.list e) = boolB := by simp [tyB, boolB]
    have hb3 : ¬ tyB (.list e) = textB := by simp [tyB, textB]
    have hd : (tyB (.list e)).dropLast = [91] ++ tyB e := by rw [tyB, ← List.cons_append, dropLast_snoc]; rfl
    have hg : (tyB (.list e)).getLast? = some 93 := by rw [tyB, ← List.cons_append, List.getLast?_concat]
    rw [tyOf, if_neg hb1, if_neg hb2, if_neg hb3, if_neg (by rw [tyB]; simp [hr]), hd, if_pos (isPre_append _ _), if_pos hg]
    have : mid 1 (tyB (.list e)) = tyB e := by rw [mid, hd]; rfl
    rw [this, tyOf_tyB (by simp only [tyD] at h; omega)]
    rfl
  | .mapI e, r + 1, h => by
    have hl := tyB_len e
    have hr : r ≠ 0 := by have := tyD_pos e; simp only [tyD] at h; omega
    have hb1 : ¬ tyB (.mapI e) = intB := by simp [tyB, intB, mI]
    have hb2 : ¬ tyB (.mapI e) = boolB := by simp [tyB, boolB, mI]
    have hb3 : ¬ tyB (.mapI e) = textB := by simp [tyB, textB, mI]
    have hd : (tyB (.mapI e)).dropLast = mI ++ tyB e := by rw [tyB, dropLast_snoc]
    have hg : (tyB (.mapI e)).getLast? = some 125 := by rw [tyB, List.getLast?_concat]
    have hp : ¬ isPre [91] (tyB (.mapI e)).dropLast = true := by rw [hd]; simp [isPre, mI]
    rw [tyOf, if_neg hb1, if_neg hb2, if_neg hb3, if_neg (by rw [tyB]; simp [hr, mI]), if_neg hp, hd, if_pos (isPre_append _ _), if_pos hg]
    have : mid 5 (tyB (.mapI e)) = tyB e := by rw [mid, hd]; rfl
    rw [this, tyOf_tyB (by simp only [tyD] at h; omega)]
    rfl
  | .mapT e, r + 1, h => by
    have hl := tyB_len e
    have hr : r ≠ 0 := by have := tyD_pos e; simp only [tyD] at h; omega
    have hb1 : ¬ tyB (.mapT e) = intB := by simp [tyB, intB, mT]
    have hb2 : ¬ tyB (.mapT e) = boolB := by simp [tyB, boolB, mT]
    have hb3 : ¬ tyB (.mapT e) = textB := by simp [tyB, textB, mT]
    have hd : (tyB (.mapT e)).dropLast = mT ++ tyB e := by rw [tyB, dropLast_snoc]
    have hg : (tyB (.mapT e)).getLast? = some 125 := by rw [tyB, List.getLast?_concat]
    have hp : ¬ isPre [91] (tyB (.mapT e)).dropLast = true := by rw [hd]; simp [isPre, mT]
    have hp2 : ¬ isPre mI (tyB (.mapT e)).dropLast = true := by rw [hd]; simp [isPre, mT, mI]
    rw [tyOf, if_neg hb1, if_neg hb2, if_neg hb3, if_neg (by rw [tyB]; simp [hr, mT]), if_neg hp, if_neg hp2, hd, if_pos (isPre_append _ _), if_pos hg]
    have : mid 6 (tyB (.mapT e)) = tyB e := by rw [mid, hd]; rfl
    rw [this, tyOf_tyB (by simp only [tyD] at h; omega)]
    rfl
theorem tyOf_iff {r : Nat} {s : List UInt8} {T : Ty} : tyOf r s = some T ↔ s = tyB T ∧ tyD T ≤ r :=
  ⟨tyOf_some, fun ⟨h1, h2⟩ => by rw [h1]; exact tyOf_tyB h2⟩
end Go.Proofs.Ytplhelapcpcncaa.Q

