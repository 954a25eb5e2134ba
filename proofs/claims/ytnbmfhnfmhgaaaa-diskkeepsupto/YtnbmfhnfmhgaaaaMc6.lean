/- A part of the proof: Rc, Ta, Ka, Kb, Kc, Kd, Mp, Ke, Kf, Kg, Kh, Ki, Kj, Kk. -/
import Derived.Test.YtnbmfhnfmhgaaaaMc4
import Derived.Test.YtnbmfhnfmhgaaaaChecked
import Derived.Test.YtnbmfhnfmhgaaaaMc5
/- The code of some functions without its ornaments. Written by gen.py. -/
set_option maxRecDepth 100000
namespace Go.Proofs.Ytnbmfhnfmhgaaaa.Q
open Go Go.RowKit Go.Proofs
variable {P : Program} {pr : Prim} {N : Nat} {e : Nat → V} {σ : St} {Q : VX → (Nat → V) → St → Prop} {QQ : QD} {SS : QS} {m : Pn}
def k3_r0 : List COp := [o 6 (pO false)]
def k3_r1 : List COp := [o 19 (.call { callee := .value (.func 8), args := #[], argTypes := #[] }),
o 20 (.unOp .not 4 (.tmp 19))]
def k3_r2 : List COp := [o 6 (pO false)]
def k3_r3 : List COp := [o 21 (pM 0),
o 22 (pC 9 21 3),
o 7 (pA 22)]
def k3_r4 : List COp := [o 23 (pM 7),
o 24 (.binOp .eql 25 (.tmp 23) (.const (.pointer .none)) 25),
o 25 (pM 24),
oF 26 (pM 1) 25,
oF 27 (pN 26 22) 25,
oF 28 (pK .gtr 3 27 .i64 512 3) 25,
o 29 (pV 25 28)]
def k3_r5 : List COp := [o 30 (pM 7),
o 31 (.binOp .neq 25 (.tmp 30) (.const (.pointer .none)) 25),
o 6 (pA 31)]
def k3_r6 : List COp := [o 8 (pZ .i64 0)]
def k3_r7 : List COp := [o 32 (.build 27 #[(0, .const (.string { data := #[97] })), (1, .const (.string { data := #[98] })), (2, .const (.string { data := #[99] }))]),
o 9 (.alloc 27),
oS 27 9 32]
def k3_r8 : List COp := [o 33 (pM 1),
o 34 (pN 33 22),
o 35 (pW .i64 0)]
def k3_r9 : List COp := [o 36 (pB .lss 3 35 34 3)]
def k3_r10 : List COp := [o 37 (pM 35),
o 38 (pI 22 33 35),
o 39 (pL 28 38),
o 10 (pA 37),
o 11 (pA 39)]
def k3_r11 : List COp := [o 40 (pM 11),
o 41 (pN 40 28),
o 42 (pK .gtr 3 41 .i64 1024 3)]
def k3_r12 : List COp := [o 6 (pO true)]
def k3_r13 : List COp := [o 12 (pZ .i64 0)]
def k3_r14 : List COp := [o 43 (pM 10),
o 44 (pM 2),
o 45 (pN 44 23),
o 46 (pB .lss 3 43 45 3)]
def k3_r15 : List COp := [o 47 (pM 2),
o 48 (pM 10),
o 49 (pI 23 47 48),
o 50 (pL 3 49),
o 51 (pK .and 3 50 .i64 1 3),
o 12 (pA 51)]
def k3_r16 : List COp := [o 52 (pM 7),
o 53 (pM 12),
o 54 (pI 27 9 53),
o 55 (pL 9 54),
o 56 (pM 11),
o 57 (.call { callee := .value (.func 10), args := #[.tmp 52, .tmp 55, .tmp 56], argTypes := #[25, 9, 28] }),
o 13 (pA 57)]
def k3_r17 : List COp := [o 58 (pM 13),
o 59 (pK .eql 29 58 .i64 22 29),
o 60 (pM 8),
o 61 (pM 11),
o 62 (pN 61 28),
o 63 (pB .add 3 60 62 3),
o 64 (pM 0),
o 65 (pB .gtr 3 63 64 3),
o 66 (pB .neq 4 59 65 4),
o 67 (pM 66),
oF 68 (pM 13) 67,
oF 69 (pK .neq 29 68 .i64 0 29) 67,
oF 70 (pM 69) 67,
oT 71 (pM 13) 70,
oT 72 (pK .neq 29 71 .i64 22 29) 70,
oF 73 (pU 70 72) 67,
o 74 (pV 67 73)]
def k3_r18 : List COp := [o 6 (pO false)]
def k3_r19 : List COp := [o 75 (pM 13),
o 76 (pK .eql 29 75 .i64 0 29)]
def k3_r20 : List COp := [o 77 (pM 8),
o 78 (pM 11),
o 79 (pN 78 28),
o 80 (pB .add 3 77 79 3),
o 8 (pA 80)]
def k3_r21 : List COp := [o 81 (pK .add 3 35 .i64 1 3),
o 35 (pM 81)]
def k3_l0 : CC := (.seq (.region k3_r9) (.seq (.cond (.tmp 36) .skip (.exit 0)) (.seq (.block 1 (.seq (.region k3_r10) (.seq (.seq (.region k3_r11) (.cond (.tmp 42) (.seq (.region k3_r12) .ret) .skip)) (.seq (.region k3_r13) (.seq (.seq (.region k3_r14) (.cond (.tmp 46) (.region k3_r15) .skip)) (.seq (.region k3_r16) (.seq (.seq (.region k3_r17) (.cond (.tmp 74) (.seq (.region k3_r18) .ret) .skip)) (.seq (.region k3_r19) (.cond (.tmp 76) (.region k3_r20) .skip))))))))) (.region k3_r21))))
def k3_r22 : List COp := [o 14 (pZ .i64 0)]
def k3_r23 : List COp := [o 82 (pM 7),
o 83 (pC 11 82 25),
o 84 (pN 83 31),
o 85 (pW .i64 0)]
def k3_r24 : List COp := [o 86 (pB .lss 3 85 84 3)]
def k3_r25 : List COp := [o 87 (pI 31 83 85),
o 88 (pL 9 87),
o 16 (pA 88)]
def k3_r26 : List COp := [o 90 (pM 7),
o 91 (pM 16),
o 92 (pD 12 90 91 25 9),
o 89 (pM 92),
o 93 (pX 89 0),
o 94 (pX 89 1),
o 17 (pA 93),
o 18 (pA 94)]
def k3_r27 : List COp := [o 95 (pM 14),
o 96 (pM 17),
o 97 (pN 96 28),
o 98 (pB .add 3 95 97 3),
o 14 (pA 98)]
def k3_r28 : List COp := [o 99 (pK .add 3 85 .i64 1 3),
o 85 (pM 99)]
def k3_l1 : CC := (.seq (.region k3_r24) (.seq (.cond (.tmp 86) .skip (.exit 2)) (.seq (.block 3 (.seq (.region k3_r25) (.seq (.region k3_r26) (.region k3_r27)))) (.region k3_r28))))
def k3_r29 : List COp := [o 100 (pM 14),
o 101 (pM 8),
o 102 (pB .eql 3 100 101 3),
o 6 (pA 102)]
def k3 : CC := (.seq (.region k3_r0) (.seq (.seq (.region k3_r1) (.cond (.tmp 20) (.seq (.region k3_r2) .ret) .skip)) (.seq (.region k3_r3) (.seq (.seq (.region k3_r4) (.cond (.tmp 29) (.seq (.region k3_r5) .ret) .skip)) (.seq (.region k3_r6) (.seq (.region k3_r7) (.seq (.seq (.region k3_r8) (.block 0 (.loop k3_l0))) (.seq (.region k3_r22) (.seq (.seq (.region k3_r23) (.block 2 (.loop k3_l1))) (.seq (.region k3_r29) .ret))))))))))
def k4_r0 : List COp := [o 4 (pO false)]
def k4_r1 : List COp := [o 17 (.call { callee := .value (.func 8), args := #[], argTypes := #[] }),
o 18 (.unOp .not 4 (.tmp 17))]
def k4_r2 : List COp := [o 4 (pO false)]
def k4_r3 : List COp := [o 19 (pM 0),
o 20 (pN 19 28),
o 21 (pM 1),
o 22 (pN 21 28),
o 23 (pB .add 3 20 22 3),
o 24 (pK .gtr 3 23 .i64 65536 3)]
def k4_r4 : List COp := [o 4 (pO true)]
def k4_r5 : CC := (.hreg [
(true, o 25 (.buildSlice 28 0 #[])),
(false, o 26 (pM 0)),
(true, o 27 (pQ 25 26 28 28)),
(true, o 28 (.buildSlice 28 2 #[(0, .const (.int .u8 71)), (1, .const (.int .u8 72))])),
(true, o 29 (pQ 27 28 28 28)),
(false, o 5 (pA 29))])
def k4_r6 : List COp := [o 30 (.call { callee := .value (.func 9), args := #[.const (.int .i64 1048576)], argTypes := #[3] }),
o 31 (.call { callee := .value (.func 9), args := #[.const (.int .i64 1048576)], argTypes := #[3] }),
o 6 (pA 30),
o 7 (pA 31)]
def k4_r7 : List COp := [o 32 (pM 6),
o 33 (.binOp .eql 25 (.tmp 32) (.const (.pointer .none)) 25),
o 34 (pM 33),
oF 35 (pM 7) 34,
oF 36 (.binOp .eql 25 (.tmp 35) (.const (.pointer .none)) 25) 34,
o 37 (pV 34 36),
o 38 (pM 37),
oF 39 (pM 6) 38,
oF 40 (pM 5) 38,
oF 41 (pM 0) 38,
oF 42 (pN 41 28) 38,
oF 43 (.slice 28 (.tmp 40) .none (some (.tmp 42)) .none) 38,
oF 44 (.call { callee := .value (.func 10), args := #[.tmp 39, .const (.string { data := #[102] }), .tmp 43], argTypes := #[25, 9, 28] }) 38,
oF 45 (pK .neq 29 44 .i64 0 29) 38,
o 46 (pV 38 45),
o 47 (pM 46),
oF 48 (pM 6) 47,
oF 49 (.call { callee := .value (.func 13), args := #[.tmp 48, .const (.string { data := #[102] })], argTypes := #[25, 9] }) 47,
oF 50 (pK .neq 29 49 .i64 0 29) 47,
o 51 (pV 47 50),
o 52 (pM 51),
oF 53 (pM 6) 52,
oF 54 (pM 1) 52,
oF 55 (.call { callee := .value (.func 10), args := #[.tmp 53, .const (.string { data := #[102] }), .tmp 54], argTypes := #[25, 9, 28] }) 52,
oF 56 (pK .neq 29 55 .i64 0 29) 52,
o 57 (pV 52 56)]
def k4_r8 : List COp := [o 4 (pO false)]
def k4_r9 : List COp := [o 58 (pM 5),
o 59 (pM 0),
o 60 (pN 59 28),
o 61 (.slice 28 (.tmp 58) .none (some (.tmp 60)) .none),
o 62 (pM 0),
o 63 (pD 14 61 62 28 28),
o 64 (.unOp .not 4 (.tmp 63)),
o 65 (pM 64),
oF 66 (pM 5) 65,
oF 67 (pM 0) 65,
oF 68 (pN 67 28) 65,
oF 69 (pI 28 66 68) 65,
oF 70 (pL 5 69) 65,
oF 71 (pK .neq 5 70 .u8 71 5) 65,
o 72 (pV 65 71),
o 73 (pM 72),
oF 74 (pM 5) 73,
oF 75 (pM 0) 73,
oF 76 (pN 75 28) 73,
oF 77 (pK .add 3 76 .i64 1 3) 73,
oF 78 (pI 28 74 77) 73,
oF 79 (pL 5 78) 73,
oF 80 (pK .neq 5 79 .u8 72 5) 73,
o 81 (pV 73 80)]
def k4_r10 : List COp := [o 4 (pO false)]
def k4_r11 : List COp := [o 82 (pM 5),
o 83 (pN 82 28),
o 84 (pW .i64 0)]
def k4_r12 : List COp := [o 85 (pB .lss 3 84 83 3)]
def k4_r13 : List COp := [o 86 (pM 84),
o 8 (pA 86)]
def k4_r14 : List COp := [o 87 (pM 5),
o 88 (pM 8),
o 89 (pI 28 87 88),
⟨none, .store 5 (.tmp 89) (.const (.int .u8 1)), none, true⟩]
def k4_r15 : List COp := [o 90 (pK .add 3 84 .i64 1 3),
o 84 (pM 90)]
def k4_l0 : CC := (.seq (.region k4_r12) (.seq (.cond (.tmp 85) .skip (.exit 0)) (.seq (.block 1 (.seq (.region k4_r13) (.region k4_r14))) (.region k4_r15))))
def k4_r16 : List COp := [o 91 (.buildSlice 28 0 #[]),
o 92 (pM 0),
o 93 (pQ 91 92 28 28),
o 94 (pM 1),
o 95 (pQ 93 94 28 28),
o 9 (pA 95)]
def k4_r17 : List COp := [o 97 (pM 6),
o 98 (.call { callee := .value (.func 12), args := #[.tmp 97, .const (.string { data := #[102] })], argTypes := #[25, 9] }),
o 96 (pM 98),
o 99 (pX 96 0),
o 100 (pX 96 1),
o 10 (pA 99),
o 11 (pA 100)]
def k4_r18 : List COp := [o 101 (pM 11),
o 102 (pK .neq 29 101 .i64 0 29),
o 103 (pM 102),
oF 104 (pM 10) 103,
oF 105 (pM 9) 103,
oF 106 (pD 14 104 105 28 28) 103,
oF 107 (.unOp .not 4 (.tmp 106)) 103,
o 108 (pV 103 107)]
def k4_r19 : List COp := [o 4 (pO false)]
def k4_r20 : List COp := [o 109 (pM 10),
o 110 (pN 109 28),
o 111 (pW .i64 0)]
def k4_r21 : List COp := [o 112 (pB .lss 3 111 110 3)]
def k4_r22 : List COp := [o 113 (pM 111),
o 12 (pA 113)]
def k4_r23 : List COp := [o 114 (pM 10),
o 115 (pM 12),
o 116 (pI 28 114 115),
⟨none, .store 5 (.tmp 116) (.const (.int .u8 2)), none, true⟩]
def k4_r24 : List COp := [o 117 (pK .add 3 111 .i64 1 3),
o 111 (pM 117)]
def k4_l1 : CC := (.seq (.region k4_r21) (.seq (.cond (.tmp 112) .skip (.exit 2)) (.seq (.block 3 (.seq (.region k4_r22) (.region k4_r23))) (.region k4_r24))))
def k4_r25 : CC := (.hreg [
(false, o 118 (pM 10)),
(true, o 119 (.buildSlice 28 3 #[(0, .const (.int .u8 3)), (1, .const (.int .u8 4)), (2, .const (.int .u8 5))])),
(true, o 120 (pQ 118 119 28 28)),
(false, o 10 (pA 120))])
def k4_r26 : List COp := [o 122 (pM 6),
o 123 (.call { callee := .value (.func 12), args := #[.tmp 122, .const (.string { data := #[102] })], argTypes := #[25, 9] }),
o 121 (pM 123),
o 124 (pX 121 0),
o 125 (pX 121 1),
o 13 (pA 124),
o 14 (pA 125)]
def k4_r27 : List COp := [o 126 (pM 6),
o 127 (pC 11 126 25),
o 15 (pA 127)]
def k4_r28 : List COp := [o 128 (pM 15),
o 129 (pN 128 31),
o 130 (pK .neq 3 129 .i64 1 3)]
def k4_r29 : List COp := [o 4 (pO false)]
def k4_r30 : List COp := [o 131 (pM 15),
o 132 (.indexAddr 31 (.tmp 131) (.const (.int .i64 0))),
⟨none, .store 9 (.tmp 132) (.const (.string { data := #[122] })), none, true⟩]
def k4_r31 : List COp := [o 133 (pM 6),
o 134 (pC 11 133 25),
o 16 (pA 134)]
def k4_r32 : List COp := [o 135 (pM 10),
o 136 (pN 135 28),
o 137 (pM 9),
o 138 (pN 137 28),
o 139 (pK .add 3 138 .i64 3 3),
o 140 (pB .eql 3 136 139 3),
o 141 (pM 140),
oT 142 (pM 13) 141,
oT 143 (pM 9) 141,
oT 144 (pD 14 142 143 28 28) 141,
o 145 (pU 141 144),
o 146 (pM 145),
oT 147 (pM 16) 146,
oT 148 (pN 147 31) 146,
oT 149 (pK .eql 3 148 .i64 1 3) 146,
o 150 (pU 146 149),
o 151 (pM 150),
oT 152 (pM 16) 151,
oT 153 (.indexAddr 31 (.tmp 152) (.const (.int .i64 0))) 151,
oT 154 (pL 9 153) 151,
oT 155 (.binOp .eql 9 (.tmp 154) (.const (.string { data := #[102] })) 9) 151,
o 156 (pU 151 155),
o 157 (pM 156),
oT 158 (pM 7) 157,
oT 159 (pC 11 158 25) 157,
oT 160 (pN 159 31) 157,
oT 161 (pK .eql 3 160 .i64 0 3) 157,
o 162 (pU 157 161),
o 4 (pA 162)]
def k4 : CC := (.seq (.region k4_r0) (.seq (.seq (.region k4_r1) (.cond (.tmp 18) (.seq (.region k4_r2) .ret) .skip)) (.seq (.seq (.region k4_r3) (.cond (.tmp 24) (.seq (.region k4_r4) .ret) .skip)) (.seq k4_r5 (.seq (.region k4_r6) (.seq (.seq (.region k4_r7) (.cond (.tmp 57) (.seq (.region k4_r8) .ret) .skip)) (.seq (.seq (.region k4_r9) (.cond (.tmp 81) (.seq (.region k4_r10) .ret) .skip)) (.seq (.seq (.region k4_r11) (.block 0 (.loop k4_l0))) (.seq (.region k4_r16) (.seq (.region k4_r17) (.seq (.seq (.region k4_r18) (.cond (.tmp 108) (.seq (.region k4_r19) .ret) .skip)) (.seq (.seq (.region k4_r20) (.block 2 (.loop k4_l1))) (.seq k4_r25 (.seq (.region k4_r26) (.seq (.region k4_r27) (.seq (.seq (.region k4_r28) (.cond (.tmp 130) (.seq (.region k4_r29) .ret) .skip)) (.seq (.region k4_r30) (.seq (.region k4_r31) (.seq (.region k4_r32) .ret)))))))))))))))))))
def k4_p := PLift.up <| aI (vE k4.eq_1) <| aI (oE k4_r0.eq_1) <| aI (oE k4_r1.eq_1) <| aI (oE k4_r2.eq_1) <| aI (oE k4_r3.eq_1) <| aI (oE k4_r4.eq_1) <| aI (vE k4_r5.eq_1) <| aI (oE k4_r6.eq_1) <| aI (oE k4_r7.eq_1) <| aI (oE k4_r8.eq_1) <| aI (oE k4_r9.eq_1) <| aI (oE k4_r10.eq_1) <| aI (oE k4_r11.eq_1) <| aI (oE k4_r12.eq_1) <| aI (oE k4_r13.eq_1) <| aI (oE k4_r14.eq_1) <| aI (oE k4_r15.eq_1) <| aI (vE k4_l0.eq_1) <| aI (oE k4_r16.eq_1) <| aI (oE k4_r17.eq_1) <| aI (oE k4_r18.eq_1) <| aI (oE k4_r19.eq_1) <| aI (oE k4_r20.eq_1) <| aI (oE k4_r21.eq_1) <| aI (oE k4_r22.eq_1) <| aI (oE k4_r23.eq_1) <| aI (oE k4_r24.eq_1) <| aI (vE k4_l1.eq_1) <| aI (vE k4_r25.eq_1) <| aI (oE k4_r26.eq_1) <| aI (oE k4_r27.eq_1) <| aI (oE k4_r28.eq_1) <| aI (oE k4_r29.eq_1) <| aI (oE k4_r30.eq_1) <| aI (oE k4_r31.eq_1) (oE k4_r32.eq_1)
theorem k4_a : type_of% k4_p.down := k4_p.down
/-- quern/quernlaw03.DiskKeeps -/
theorem k4_is : FnIs Try.prog prims 4 163 [ResultVar.tmp 4] k4 := FnIs.of_fn Try.func4 (by kernel_rfl) rfl
def k5_r0 : List COp := [o 6 (pO false)]
def k5_r1 : List COp := [o 18 (.call { callee := .value (.func 8), args := #[], argTypes := #[] }),
o 19 (.unOp .not 4 (.tmp 18))]
def k5_r2 : List COp := [o 6 (pO false)]
def k5_r3 : List COp := [o 7 (pZ .i64 0)]
def k5_r4 : List COp := [o 20 (pM 0),
o 21 (pN 20 22),
o 22 (pW .i64 0)]
def k5_r5 : List COp := [o 23 (pB .lss 3 22 21 3)]
def k5_r6 : List COp := [o 24 (pI 22 20 22),
o 25 (pL 28 24),
o 9 (pA 25)]
def k5_r7 : List COp := [o 26 (pM 7),
o 27 (pM 9),
o 28 (pN 27 28),
o 29 (pB .add 3 26 28 3),
o 7 (pA 29)]
def k5_r8 : List COp := [o 30 (pM 7),
o 31 (pK .gtr 3 30 .i64 524288 3)]
def k5_r9 : List COp := [o 6 (pO true)]
def k5_r10 : List COp := [o 32 (pK .add 3 22 .i64 1 3),
o 22 (pM 32)]
def k5_l0 : CC := (.seq (.region k5_r5) (.seq (.cond (.tmp 23) .skip (.exit 0)) (.seq (.block 1 (.seq (.region k5_r6) (.seq (.region k5_r7) (.seq (.region k5_r8) (.cond (.tmp 31) (.seq (.region k5_r9) .ret) .skip))))) (.region k5_r10))))
def k5_r11 : List COp := [o 33 (pM 0),
o 34 (pN 33 22),
o 35 (pK .gtr 3 34 .i64 1024 3)]
def k5_r12 : List COp := [o 6 (pO true)]
def k5_r13 : List COp := [o 36 (.call { callee := .value (.func 9), args := #[.const (.int .i64 1048576)], argTypes := #[3] }),
o 10 (pA 36)]
def k5_r14 : List COp := [o 37 (pM 10),
o 38 (.binOp .eql 25 (.tmp 37) (.const (.pointer .none)) 25)]
def k5_r15 : List COp := [o 6 (pO false)]
def k5_r16 : List COp := [o 11 (.assign (.const (.slice .none 0 0)))]
def k5_r17 : List COp := [o 12 (pZ .i64 0)]
def k5_r18 : List COp := [o 39 (pM 0),
o 40 (pN 39 22),
o 41 (pW .i64 0)]
def k5_r19 : List COp := [o 42 (pB .lss 3 41 40 3)]
def k5_r20 : List COp := [o 43 (pM 41),
o 44 (pI 22 39 41),
o 45 (pL 28 44),
o 13 (pA 43),
o 14 (pA 45)]
def k5_r21 : List COp := [o 46 (pM 10),
o 47 (pM 14),
o 48 (.call { callee := .value (.func 10), args := #[.tmp 46, .const (.string { data := #[102] }), .tmp 47], argTypes := #[25, 9, 28] }),
o 49 (pK .neq 29 48 .i64 0 29)]
def k5_r22 : List COp := [o 6 (pO false)]
def k5_r23 : List COp := [o 50 (pM 11),
o 51 (pM 14),
o 52 (pQ 50 51 28 28),
o 11 (pA 52)]
def k5_r24 : List COp := [o 53 (pM 13),
o 54 (pM 1),
o 55 (pN 54 38),
o 56 (pB .lss 3 53 55 3),
o 57 (pM 56),
oT 58 (pM 1) 57,
oT 59 (pM 13) 57,
oT 60 (pI 38 58 59) 57,
oT 61 (pL 4 60) 57,
o 62 (pU 57 61)]
def k5_r25 : List COp := [o 63 (pM 10),
o 64 (.call { callee := .value (.func 13), args := #[.tmp 63, .const (.string { data := #[102] })], argTypes := #[25, 9] }),
o 65 (pK .neq 29 64 .i64 0 29)]
def k5_r26 : List COp := [o 6 (pO false)]
def k5_r27 : List COp := [o 66 (pM 11),
o 67 (pN 66 28),
o 12 (pA 67)]
def k5_r28 : List COp := [o 68 (pK .add 3 41 .i64 1 3),
o 41 (pM 68)]
def k5_l1 : CC := (.seq (.region k5_r19) (.seq (.cond (.tmp 42) .skip (.exit 2)) (.seq (.block 3 (.seq (.region k5_r20) (.seq (.seq (.region k5_r21) (.cond (.tmp 49) (.seq (.region k5_r22) .ret) .skip)) (.seq (.region k5_r23) (.seq (.region k5_r24) (.cond (.tmp 62) (.seq (.seq (.region k5_r25) (.cond (.tmp 65) (.seq (.region k5_r26) .ret) .skip)) (.region k5_r27)) .skip)))))) (.region k5_r28))))
def k5_r29 : List COp := [o 69 (pM 10),
o 70 (pM 2),
o 71 (pD 15 69 70 25 3)]
def k5_r30 : List COp := [o 72 (pM 10),
o 73 (pC 16 72 25),
o 74 (.unOp .not 4 (.tmp 73)),
o 75 (pM 74),
oF 76 (pM 10) 75,
oF 77 (pC 11 76 25) 75,
oF 78 (pN 77 31) 75,
oF 79 (pK .neq 3 78 .i64 0 3) 75,
o 80 (pV 75 79)]
def k5_r31 : List COp := [o 6 (pO false)]
def k5_r32 : List COp := [o 81 (pM 10),
o 82 (pC 17 81 25)]
def k5_r33 : List COp := [o 84 (pM 10),
o 85 (.call { callee := .value (.func 12), args := #[.tmp 84, .const (.string { data := #[102] })], argTypes := #[25, 9] }),
o 83 (pM 85),
o 86 (pX 83 0),
o 87 (pX 83 1),
o 15 (pA 86),
o 16 (pA 87)]
def k5_r34 : List COp := [o 88 (pM 0),
o 89 (pN 88 22),
o 90 (pK .eql 3 89 .i64 0 3)]
def k5_r35 : List COp := [o 91 (pM 16),
o 92 (pK .eql 29 91 .i64 21 29),
o 6 (pA 92)]
def k5_r36 : List COp := [o 93 (pM 2),
o 94 (.call { callee := .builtin .max, args := #[.tmp 93, .const (.int .i64 0)], argTypes := #[3, 3] }),
o 95 (pM 11),
o 96 (pN 95 28),
o 97 (pM 12),
o 98 (pB .sub 3 96 97 3),
o 99 (.call { callee := .builtin .min, args := #[.tmp 94, .tmp 98], argTypes := #[3, 3] }),
o 17 (pA 99)]
def k5_r37 : List COp := [o 100 (pM 16),
o 101 (pK .eql 29 100 .i64 0 29),
o 102 (pM 101),
oT 103 (pM 15) 102,
oT 104 (pM 11) 102,
oT 105 (pM 12) 102,
oT 106 (pM 17) 102,
oT 107 (pB .add 3 105 106 3) 102,
oT 108 (.slice 28 (.tmp 104) .none (some (.tmp 107)) .none) 102,
oT 109 (pD 14 103 108 28 28) 102,
o 110 (pU 102 109),
o 6 (pA 110)]
def k5 : CC := (.seq (.region k5_r0) (.seq (.seq (.region k5_r1) (.cond (.tmp 19) (.seq (.region k5_r2) .ret) .skip)) (.seq (.region k5_r3) (.seq (.seq (.region k5_r4) (.block 0 (.loop k5_l0))) (.seq (.seq (.region k5_r11) (.cond (.tmp 35) (.seq (.region k5_r12) .ret) .skip)) (.seq (.region k5_r13) (.seq (.seq (.region k5_r14) (.cond (.tmp 38) (.seq (.region k5_r15) .ret) .skip)) (.seq (.region k5_r16) (.seq (.region k5_r17) (.seq (.seq (.region k5_r18) (.block 2 (.loop k5_l1))) (.seq (.region k5_r29) (.seq (.seq (.region k5_r30) (.cond (.tmp 80) (.seq (.region k5_r31) .ret) .skip)) (.seq (.region k5_r32) (.seq (.region k5_r33) (.seq (.seq (.region k5_r34) (.cond (.tmp 90) (.seq (.region k5_r35) .ret) .skip)) (.seq (.region k5_r36) (.seq (.region k5_r37) .ret)))))))))))))))))
def k6_r0 : List COp := [o 4 (pO false)]
def k6_r1 : List COp := [o 13 (.call { callee := .value (.func 8), args := #[], argTypes := #[] }),
o 14 (.unOp .not 4 (.tmp 13))]
def k6_r2 : List COp := [o 4 (pO false)]
def k6_r3 : List COp := [o 15 (pM 1),
o 16 (pC 18 15 41)]
def k6_r4 : List COp := [o 4 (pO true)]
def k6_r5 : List COp := [o 17 (pM 0),
o 18 (pC 9 17 3),
o 5 (pA 18)]
def k6_r6 : List COp := [o 19 (pM 0),
o 20 (pC 19 19 3),
o 6 (pA 20)]
def k6_r7 : List COp := [o 21 (pM 5),
o 22 (.binOp .eql 25 (.tmp 21) (.const (.pointer .none)) 25)]
def k6_r8 : List COp := [o 4 (pO false)]
def k6_r9 : List COp := [o 23 (pM 1),
o 24 (pN 23 41),
o 25 (pW .i64 0)]
def k6_r10 : List COp := [o 26 (pB .lss 3 25 24 3)]
def k6_r11 : List COp := [o 27 (pI 41 23 25),
o 28 (pL 46 27),
o 8 (.alloc 46),
oS 46 8 28]
def k6_r12 : List COp := [o 30 (pM 5),
o 31 (pL 46 8),
o 32 (pD 20 30 31 25 46),
o 29 (pM 32),
o 33 (pX 29 0),
o 34 (pX 29 1),
o 9 (pA 33),
o 10 (pA 34)]
def k6_r13 : List COp := [o 36 (pM 6),
o 37 (pL 46 8),
o 38 (pD 21 36 37 43 46),
o 35 (pM 38),
o 39 (pX 35 0),
o 40 (pX 35 1),
o 11 (pA 39),
o 12 (pA 40)]
def k6_r14 : List COp := [o 41 (pM 10),
o 42 (pM 12),
o 43 (pB .neq 29 41 42 29),
o 44 (pM 43),
oF 45 (pM 9) 44,
oF 46 (pM 11) 44,
oF 47 (pD 14 45 46 28 28) 44,
oF 48 (.unOp .not 4 (.tmp 47)) 44,
o 49 (pV 44 48),
o 50 (pM 49),
oF 51 (pM 5) 50,
oF 52 (pM 6) 50,
oF 53 (pD 22 51 52 25 43) 50,
oF 54 (.unOp .not 4 (.tmp 53)) 50,
o 55 (pV 50 54)]
def k6_r15 : List COp := [o 4 (pO false)]
def k6_r16 : List COp := [o 56 (pK .add 3 25 .i64 1 3),
o 25 (pM 56)]
def k6_l0 : CC := (.seq (.region k6_r10) (.seq (.cond (.tmp 26) .skip (.exit 0)) (.seq (.block 1 (.seq (.region k6_r11) (.seq (.region k6_r12) (.seq (.region k6_r13) (.seq (.region k6_r14) (.cond (.tmp 55) (.seq (.region k6_r15) .ret) .skip)))))) (.region k6_r16))))
def k6_r17 : List COp := [o 4 (pO true)]
def k6 : CC := (.seq (.region k6_r0) (.seq (.seq (.region k6_r1) (.cond (.tmp 14) (.seq (.region k6_r2) .ret) .skip)) (.seq (.seq (.region k6_r3) (.cond (.tmp 16) (.seq (.region k6_r4) .ret) .skip)) (.seq (.region k6_r5) (.seq (.region k6_r6) (.seq (.seq (.region k6_r7) (.cond (.tmp 22) (.seq (.region k6_r8) .ret) .skip)) (.seq (.seq (.region k6_r9) (.block 0 (.loop k6_l0))) (.seq (.region k6_r17) .ret))))))))
def k7_r0 : List COp := [o 4 (pO false)]
def k7_r1 : List COp := [o 26 (.call { callee := .value (.func 8), args := #[], argTypes := #[] }),
o 27 (.unOp .not 4 (.tmp 26))]
def k7_r2 : List COp := [o 4 (pO false)]
def k7_r3 : List COp := [o 28 (pM 1),
o 29 (pC 18 28 41)]
def k7_r4 : List COp := [o 4 (pO true)]
def k7_r5 : List COp := [o 30 (pM 0),
o 31 (pC 9 30 3),
o 5 (pA 31)]
def k7_r6 : List COp := [o 32 (pM 5),
o 33 (.binOp .eql 25 (.tmp 32) (.const (.pointer .none)) 25)]
def k7_r7 : List COp := [o 4 (pO false)]
def k7_r8 : List COp := [o 34 (pM 1),
o 35 (pN 34 41),
o 36 (pW .i64 0)]
def k7_r9 : List COp := [o 37 (pB .lss 3 36 35 3)]
def k7_r10 : List COp := [o 38 (pI 41 34 36),
o 39 (pL 46 38),
o 7 (.alloc 46),
oS 46 7 39]
def k7_r11 : List COp := [o 40 (pM 5),
o 41 (pC 23 40 25),
o 42 (pM 5),
o 43 (pC 16 42 25),
o 44 (pM 5),
o 45 (pC 11 44 25),
o 8 (pA 41),
o 9 (pA 43),
o 10 (pA 45)]
def k7_r12 : List COp := [o 11 (.assign (.const (.slice .none 0 0)))]
def k7_r13 : List COp := [o 46 (pM 10),
o 47 (pN 46 31),
o 48 (pW .i64 0)]
def k7_r14 : List COp := [o 49 (pB .lss 3 48 47 3)]
def k7_r15 : List COp := [o 50 (pI 31 46 48),
o 51 (pL 9 50),
o 13 (pA 51)]
def k7_r16 : List COp := [o 53 (pM 5),
o 54 (pM 13),
o 55 (pD 12 53 54 25 9),
o 52 (pM 55),
o 56 (pX 52 0),
o 57 (pX 52 1),
o 14 (pA 56),
o 15 (pA 57)]
def k7_r17 : List COp := [o 58 (pM 11),
o 59 (pM 14),
o 60 (.buildSlice 22 1 #[(0, .tmp 59)]),
o 61 (pQ 58 60 22 22),
o 11 (pA 61)]
def k7_r18 : List COp := [o 62 (pK .add 3 48 .i64 1 3),
o 48 (pM 62)]
def k7_l1 : CC := (.seq (.region k7_r14) (.seq (.cond (.tmp 49) .skip (.exit 2)) (.seq (.block 3 (.seq (.region k7_r15) (.seq (.region k7_r16) (.region k7_r17)))) (.region k7_r18))))
def k7_r19 : List COp := [o 64 (pM 5),
o 65 (pL 46 7),
o 66 (pD 20 64 65 25 46),
o 63 (pM 66),
o 67 (pX 63 0),
o 68 (pX 63 1),
o 16 (pA 67),
o 17 (pA 68)]
def k7_r20 : List COp := [o 69 (pM 17),
o 70 (pK .eql 29 69 .i64 0 29),
o 71 (pM 70),
oF 72 (pM 5) 71,
oF 73 (pC 23 72 25) 71,
oF 74 (pM 8) 71,
oF 75 (pB .neq 3 73 74 3) 71,
o 76 (pV 71 75)]
def k7_r21 : List COp := [o 77 (pM 5),
o 78 (pC 11 77 25),
o 18 (pA 78)]
def k7_r22 : List COp := [o 79 (pM 5),
o 80 (pC 16 79 25),
o 81 (pM 9),
o 82 (pB .neq 4 80 81 4),
o 83 (pM 82),
oF 84 (pM 18) 83,
oF 85 (pN 84 31) 83,
oF 86 (pM 10) 83,
oF 87 (pN 86 31) 83,
oF 88 (pB .neq 3 85 87 3) 83,
o 89 (pV 83 88)]
def k7_r23 : List COp := [o 4 (pO false)]
def k7_r24 : List COp := [o 90 (pM 18),
o 91 (pN 90 31),
o 92 (pW .i64 0)]
def k7_r25 : List COp := [o 93 (pB .lss 3 92 91 3)]
def k7_r26 : List COp := [o 94 (pM 92),
o 95 (pI 31 90 92),
o 96 (pL 9 95),
o 19 (pA 94),
o 20 (pA 96)]
def k7_r27 : List COp := [o 98 (pM 5),
o 99 (pM 20),
o 100 (pD 12 98 99 25 9),
o 97 (pM 100),
o 101 (pX 97 0),
o 102 (pX 97 1),
o 21 (pA 101),
o 22 (pA 102)]
def k7_r28 : List COp := [o 103 (pM 20),
o 104 (pM 10),
o 105 (pM 19),
o 106 (pI 31 104 105),
o 107 (pL 9 106),
o 108 (pB .neq 9 103 107 9),
o 109 (pM 108),
oF 110 (pM 21) 109,
oF 111 (pM 11) 109,
oF 112 (pM 19) 109,
oF 113 (pI 22 111 112) 109,
oF 114 (pL 28 113) 109,
oF 115 (pD 14 110 114 28 28) 109,
oF 116 (.unOp .not 4 (.tmp 115)) 109,
o 117 (pV 109 116)]
def k7_r29 : List COp := [o 4 (pO false)]
def k7_r30 : List COp := [o 118 (pK .add 3 92 .i64 1 3),
o 92 (pM 118)]
def k7_l2 : CC := (.seq (.region k7_r25) (.seq (.cond (.tmp 93) .skip (.exit 4)) (.seq (.block 5 (.seq (.region k7_r26) (.seq (.region k7_r27) (.seq (.region k7_r28) (.cond (.tmp 117) (.seq (.region k7_r29) .ret) .skip))))) (.region k7_r30))))
def k7_r31 : List COp := [o 119 (pK .add 3 36 .i64 1 3),
o 36 (pM 119)]
def k7_l0 : CC := (.seq (.region k7_r9) (.seq (.cond (.tmp 37) .skip (.exit 0)) (.seq (.block 1 (.seq (.region k7_r10) (.seq (.region k7_r11) (.seq (.region k7_r12) (.seq (.seq (.region k7_r13) (.block 2 (.loop k7_l1))) (.seq (.region k7_r19) (.seq (.seq (.region k7_r20) (.cond (.tmp 76) (.exit 1) .skip)) (.seq (.region k7_r21) (.seq (.seq (.region k7_r22) (.cond (.tmp 89) (.seq (.region k7_r23) .ret) .skip)) (.seq (.region k7_r24) (.block 4 (.loop k7_l2)))))))))))) (.region k7_r31))))
def k7_r32 : List COp := [o 23 (.assign (.const (.pointer .none)))]
def k7_r33 : List COp := [o 120 (pM 23),
o 121 (.call { callee := .value (.func 24), args := #[.tmp 120, .const (.int .i64 1), .const (.int .i64 1)], argTypes := #[25, 3, 3] })]
def k7_r34 : List COp := [o 122 (pM 23),
o 123 (.call { callee := .value (.func 15), args := #[.tmp 122, .const (.int .i64 1)], argTypes := #[25, 3] })]
def k7_r35 : List COp := [o 124 (pM 23),
o 125 (pC 17 124 25)]
def k7_r36 : List COp := [o 126 (pM 23),
o 127 (.call { callee := .value (.func 25), args := #[.tmp 126, .const (.int .i64 1)], argTypes := #[25, 3] })]
def k7_r37 : List COp := [o 129 (pM 23),
o 130 (.call { callee := .value (.func 12), args := #[.tmp 129, .const (.string { data := #[97] })], argTypes := #[25, 9] }),
o 128 (pM 130),
o 131 (pX 128 0),
o 132 (pX 128 1),
o 24 (pA 131),
o 25 (pA 132)]
def k7_r38 : List COp := [o 133 (pM 25),
o 134 (pK .eql 29 133 .i64 2 29),
o 135 (pM 134),
oT 136 (pM 24) 135,
oT 137 (pN 136 28) 135,
oT 138 (pK .eql 3 137 .i64 0 3) 135,
o 139 (pU 135 138),
o 140 (pM 139),
oT 141 (pM 23) 140,
oT 142 (.call { callee := .value (.func 10), args := #[.tmp 141, .const (.string { data := #[97] }), .const (.slice .none 0 0)], argTypes := #[25, 9, 28] }) 140,
oT 143 (pK .eql 29 142 .i64 2 29) 140,
o 144 (pU 140 143),
o 145 (pM 144),
oT 146 (pM 23) 145,
oT 147 (.call { callee := .value (.func 13), args := #[.tmp 146, .const (.string { data := #[97] })], argTypes := #[25, 9] }) 145,
oT 148 (pK .eql 29 147 .i64 2 29) 145,
o 149 (pU 145 148),
o 150 (pM 149),
oT 151 (pM 23) 150,
oT 152 (.call { callee := .value (.func 26), args := #[.tmp 151, .const (.string { data := #[97] }), .const (.int .i64 0)], argTypes := #[25, 9, 3] }) 150,
oT 153 (pK .eql 29 152 .i64 2 29) 150,
o 154 (pU 150 153),
o 155 (pM 154),
oT 156 (pM 23) 155,
oT 157 (.call { callee := .value (.func 27), args := #[.tmp 156, .const (.string { data := #[97] }), .const (.string { data := #[98] })], argTypes := #[25, 9, 9] }) 155,
oT 158 (pK .eql 29 157 .i64 2 29) 155,
o 159 (pU 155 158),
o 160 (pM 159),
oT 161 (pM 23) 160,
oT 162 (.call { callee := .value (.func 28), args := #[.tmp 161, .const (.string { data := #[97] })], argTypes := #[25, 9] }) 160,
oT 163 (pK .eql 29 162 .i64 2 29) 160,
o 164 (pU 160 163),
o 165 (pM 164),
oT 166 (pM 23) 165,
oT 167 (pC 16 166 25) 165,
oT 168 (.unOp .not 4 (.tmp 167)) 165,
o 169 (pU 165 168),
o 170 (pM 169),
oT 171 (pM 23) 170,
oT 172 (pC 23 171 25) 170,
oT 173 (pK .eql 3 172 .i64 0 3) 170,
o 174 (pU 170 173),
o 175 (pM 174),
oT 176 (pM 23) 175,
oT 177 (pC 11 176 25) 175,
oT 178 (pN 177 31) 175,
oT 179 (pK .eql 3 178 .i64 0 3) 175,
o 180 (pU 175 179),
o 4 (pA 180)]
def k7 : CC := (.seq (.region k7_r0) (.seq (.seq (.region k7_r1) (.cond (.tmp 27) (.seq (.region k7_r2) .ret) .skip)) (.seq (.seq (.region k7_r3) (.cond (.tmp 29) (.seq (.region k7_r4) .ret) .skip)) (.seq (.region k7_r5) (.seq (.seq (.region k7_r6) (.cond (.tmp 33) (.seq (.region k7_r7) .ret) .skip)) (.seq (.seq (.region k7_r8) (.block 0 (.loop k7_l0))) (.seq (.region k7_r32) (.seq (.region k7_r33) (.seq (.region k7_r34) (.seq (.region k7_r35) (.seq (.region k7_r36) (.seq (.region k7_r37) (.seq (.region k7_r38) .ret)))))))))))))
def k9_r0 : List COp := [o 2 (.assign (.const (.pointer .none)))]
def k9_r1 : List COp := [o 3 (.makeMap 55 .none),
o 4 (pM 0),
o 5 (.build 57 #[(0, .tmp 3), (1, .tmp 4)]),
o 6 (.box 57 (.tmp 5)),
o 2 (pA 6)]
def k9 : CC := (.seq (.region k9_r0) (.seq (.region k9_r1) .ret))
def k9_p := PLift.up <| aI (vE k9.eq_1) <| aI (oE k9_r0.eq_1) (oE k9_r1.eq_1)
theorem k9_a : type_of% k9_p.down := k9_p.down
/-- quern/disk.New -/
theorem k9_is : FnIs Try.prog prims 9 7 [ResultVar.tmp 2] k9 := FnIs.of_fn Try.func9 (by kernel_rfl) rfl
def k10_r0 : List COp := [o 6 (pZ .i64 0)]
def k10_r1 : List COp := [o 9 (pM 0),
o 10 (pM 1),
o 11 (pD 29 9 10 25 9),
o 7 (pA 11)]
def k10_r2 : List COp := [o 12 (pM 7),
o 13 (pK .neq 29 12 .i64 0 29)]
def k10_r3 : List COp := [o 14 (pM 7),
o 6 (pA 14)]
def k10_r4 : List COp := [o 15 (pM 0),
o 16 (.nilCheck (.tmp 15)),
o 17 (pF 57 16 0),
o 18 (pL 55 17),
o 19 (pM 1),
o 20 (.lookup 55 (.tmp 18) (.tmp 19) false),
o 8 (pA 20)]
def k10_r5 : List COp := [o 22 (pM 8),
o 23 (.binOp .neq 58 (.tmp 22) (.const (.pointer .none)) 58),
o 24 (pM 23),
⟨some 25, .move (.tmp 2), some (24, true), false⟩,
⟨some 26, .call { callee := .builtin .len, args := #[.tmp 25], argTypes := #[28] }, some (24, true), false⟩,
⟨some 27, .move (.tmp 8), some (24, true), false⟩,
⟨some 28, .nilCheck (.tmp 27), some (24, true), false⟩,
⟨some 29, .fieldAddr 60 (.tmp 28) 0, some (24, true), false⟩,
⟨some 30, .load 28 (.tmp 29), some (24, true), false⟩,
⟨some 31, .call { callee := .builtin .len, args := #[.tmp 30], argTypes := #[28] }, some (24, true), false⟩,
⟨some 32, .binOp .sub 3 (.const (.int .i64 1048576)) (.tmp 31) 3, some (24, true), false⟩,
oT 33 (pM 8) 24,
oT 34 (.nilCheck (.tmp 33)) 24,
oT 35 (pF 60 34 1) 24,
oT 36 (pL 28 35) 24,
oT 37 (pN 36 28) 24,
oT 38 (pB .sub 3 32 37 3) 24,
oT 39 (pB .gtr 3 26 38 3) 24,
o 40 (pU 24 39),
o 21 (pA 40)]
def k10_r6 : List COp := [o 41 (pM 2),
o 42 (pN 41 28),
o 43 (pK .gtr 3 42 .i64 1048576 3),
o 21 (pA 43)]
def k10_r7 : List COp := [o 6 (pZ .i64 3)]
def k10_r8 : CC := (.hreg [
(false, o 45 (pM 8)),
(false, o 46 (.binOp .eql 58 (.tmp 45) (.const (.pointer .none)) 58)),
(false, o 47 (pM 46)),
(false, oT 48 (pM 0) 47),
(false, oT 49 (.nilCheck (.tmp 48)) 47),
(false, oT 50 (pF 57 49 0) 47),
(false, oT 51 (pL 55 50) 47),
(true, oT 52 (pN 51 55) 47),
(false, oT 53 (pK .geq 3 52 .i64 16 3) 47),
(false, o 54 (pU 47 53)),
(false, o 44 (pA 54))])
def k10_r9 : CC := (.wregion [
(true, oX 55 (pM 0)),
(false, oX 56 (pC 30 55 25)),
(true, oX 57 (pM 2)),
(false, oX 58 (pN 57 28)),
(false, oX 59 (pB .add 3 56 58 3)),
(false, o 60 (pM 0)),
(false, o 61 (.nilCheck (.tmp 60))),
(false, o 62 (pF 57 61 1)),
(true, o 63 (pL 3 62)),
(false, o 64 (pB .gtr 3 59 63 3)),
(false, o 44 (pA 64))] false [(8, o 63 (pL 3 62), [0, 2])])
def k10_r10 : List COp := [o 6 (pZ .i64 22)]
def k10_r11 : List COp := [o 65 (pM 8),
o 66 (.binOp .eql 58 (.tmp 65) (.const (.pointer .none)) 58)]
def k10_r12 : List COp := [o 67 (.build 60 #[]),
o 68 (.box 60 (.tmp 67)),
o 8 (pA 68)]
def k10_r13 : List COp := [o 69 (pM 0),
o 70 (.nilCheck (.tmp 69)),
o 71 (pF 57 70 0),
o 72 (pL 55 71),
o 73 (pM 1),
o 74 (pM 8),
⟨none, .mapUpdate 55 (.tmp 72) (.tmp 73) (.tmp 74), none, true⟩]
def k10_r14 : CC := (.hreg [
(false, o 75 (pM 8)),
(false, o 76 (pM 8)),
(false, o 77 (.nilCheck (.tmp 76))),
(false, o 78 (pF 60 77 1)),
(false, o 79 (pL 28 78)),
(false, o 80 (pM 2)),
(true, o 81 (pQ 79 80 28 28)),
(false, o 82 (.nilCheck (.tmp 75))),
(false, o 83 (pF 60 82 1)),
(false, oS 28 83 81)])
def k10_r15 : List COp := [o 84 (pM 0),
o 85 (pC 31 84 25)]
def k10_r16 : List COp := [o 86 (pM 0),
o 87 (pC 32 86 25),
o 6 (pA 87)]
def k10_r17 : List COp := [o 6 (pZ .i64 0)]
def k10 : CC := (.seq (.region k10_r0) (.seq (.seq (.region k10_r1) (.seq (.region k10_r2) (.cond (.tmp 13) (.seq (.region k10_r3) .ret) .skip))) (.seq (.region k10_r4) (.seq (.block 0 (.seq (.seq (.region k10_r5) (.cond (.tmp 21) .skip (.region k10_r6))) (.cond (.tmp 21) (.seq (.region k10_r7) .ret) (.seq (.seq k10_r8 (.cond (.tmp 44) .skip k10_r9)) (.cond (.tmp 44) (.seq (.region k10_r10) .ret) .skip))))) (.seq (.seq (.region k10_r11) (.cond (.tmp 66) (.seq (.region k10_r12) (.region k10_r13)) .skip)) (.seq k10_r14 (.seq (.seq (.region k10_r15) (.cond (.tmp 85) (.seq (.region k10_r16) .ret) .skip)) (.seq (.region k10_r17) .ret))))))))
def k10_p := PLift.up <| aI (vE k10.eq_1) <| aI (oE k10_r0.eq_1) <| aI (oE k10_r1.eq_1) <| aI (oE k10_r2.eq_1) <| aI (oE k10_r3.eq_1) <| aI (oE k10_r4.eq_1) <| aI (oE k10_r5.eq_1) <| aI (oE k10_r6.eq_1) <| aI (oE k10_r7.eq_1) <| aI (vE k10_r8.eq_1) <| aI (vE k10_r9.eq_1) <| aI (oE k10_r10.eq_1) <| aI (oE k10_r11.eq_1) <| aI (oE k10_r12.eq_1) <| aI (oE k10_r13.eq_1) <| aI (vE k10_r14.eq_1) <| aI (oE k10_r15.eq_1) <| aI (oE k10_r16.eq_1) (oE k10_r17.eq_1)
theorem k10_a : type_of% k10_p.down := k10_p.down
/-- (*quern/disk.Disk).Append -/
theorem k10_is : FnIs Try.prog prims 10 88 [ResultVar.tmp 6] k10 := FnIs.of_fn Try.func10 (by kernel_rfl) rfl
def k11_r0 : List COp := [o 2 (.assign (.const (.slice .none 0 0)))]
def k11_r1 : List COp := [o 3 (pM 0),
o 4 (.binOp .eql 25 (.tmp 3) (.const (.pointer .none)) 25),
o 5 (pM 4),
oF 6 (pM 0) 5,
oF 7 (.nilCheck (.tmp 6)) 5,
oF 8 (pF 57 7 2) 5,
oF 9 (pL 4 8) 5,
o 10 (pV 5 9)]
def k11_r2 : List COp := [o 2 (.assign (.const (.slice .none 0 0)))]
def k11_r3 : List COp := [o 11 (pM 0),
o 12 (.nilCheck (.tmp 11)),
o 13 (pF 57 12 0),
o 14 (pL 55 13),
o 15 (pC 34 14 55),
o 16 (pC 33 15 64),
o 2 (pA 16)]
def k11 : CC := (.seq (.region k11_r0) (.seq (.seq (.region k11_r1) (.cond (.tmp 10) (.seq (.region k11_r2) .ret) .skip)) (.seq (.region k11_r3) .ret)))
def k11_p := PLift.up <| aI (vE k11.eq_1) <| aI (oE k11_r0.eq_1) <| aI (oE k11_r1.eq_1) <| aI (oE k11_r2.eq_1) (oE k11_r3.eq_1)
theorem k11_a : type_of% k11_p.down := k11_p.down
/-- (*quern/disk.Disk).Names -/
theorem k11_is : FnIs Try.prog prims 11 17 [ResultVar.tmp 2] k11 := FnIs.of_fn Try.func11 (by kernel_rfl) rfl
def k12_r0 : List COp := [o 4 (.assign (.const (.slice .none 0 0))),
o 5 (pZ .i64 0)]
def k12_r1 : List COp := [o 9 (pM 0),
o 10 (pM 1),
o 11 (pD 35 9 10 25 9),
o 8 (pM 11),
o 12 (pX 8 0),
o 13 (pX 8 1),
o 6 (pA 12),
o 7 (pA 13)]
def k12_r2 : List COp := [o 14 (pM 7),
o 15 (pK .neq 29 14 .i64 0 29)]
def k12_r3 : List COp := [o 16 (pM 7),
o 4 (.assign (.const (.slice .none 0 0))),
o 5 (pA 16)]
def k12_r4 : List COp := [oX 17 (pM 6),
oX 18 (.nilCheck (.tmp 17)),
oX 19 (pF 60 18 0),
oX 20 (pL 28 19),
o 21 (pM 6),
o 22 (.nilCheck (.tmp 21)),
o 23 (pF 60 22 1),
o 24 (pL 28 23),
o 25 (.buildSlice 22 2 #[(0, .tmp 20), (1, .tmp 24)]),
o 26 (pC 36 25 22),
o 4 (pA 26),
o 5 (pZ .i64 0)]
def k12 : CC := (.seq (.region k12_r0) (.seq (.region k12_r1) (.seq (.seq (.region k12_r2) (.cond (.tmp 15) (.seq (.region k12_r3) .ret) .skip)) (.seq (.region k12_r4) .ret))))
def k12_p := PLift.up <| aI (vE k12.eq_1) <| aI (oE k12_r0.eq_1) <| aI (oE k12_r1.eq_1) <| aI (oE k12_r2.eq_1) <| aI (oE k12_r3.eq_1) (oE k12_r4.eq_1)
theorem k12_a : type_of% k12_p.down := k12_p.down
/-- (*quern/disk.Disk).Read -/
theorem k12_is : FnIs Try.prog prims 12 27 [ResultVar.tmp 4, ResultVar.tmp 5] k12 := FnIs.of_fn Try.func12 (by kernel_rfl) rfl
def k13_r0 : List COp := [o 4 (pZ .i64 0)]
def k13_r1 : List COp := [o 8 (pM 0),
o 9 (pM 1),
o 10 (pD 35 8 9 25 9),
o 7 (pM 10),
o 11 (pX 7 0),
o 12 (pX 7 1),
o 5 (pA 11),
o 6 (pA 12)]
def k13_r2 : List COp := [o 13 (pM 6),
o 14 (pK .neq 29 13 .i64 0 29)]
def k13_r3 : List COp := [o 15 (pM 6),
o 4 (pA 15)]
def k13_r4 : List COp := [o 16 (pM 0),
o 17 (pC 31 16 25)]
def k13_r5 : List COp := [o 18 (pM 0),
o 19 (pC 32 18 25),
o 4 (pA 19)]
def k13_r6 : List COp := [oX 20 (pM 5),
oX 21 (pM 5),
oX 22 (pM 5),
oX 23 (.nilCheck (.tmp 22)),
oX 24 (pF 60 23 0),
oX 25 (pL 28 24),
o 26 (pM 5),
o 27 (.nilCheck (.tmp 26)),
o 28 (pF 60 27 1),
o 29 (pL 28 28),
o 30 (.call { callee := .builtin .append, args := #[.tmp 25, .tmp 29], argTypes := #[28, 28, 0] }),
o 31 (.nilCheck (.tmp 20)),
o 32 (pF 60 31 0),
oS 28 32 30,
o 33 (.nilCheck (.tmp 21)),
o 34 (pF 60 33 1),
⟨none, .store 28 (.tmp 34) (.const (.slice .none 0 0)), none, true⟩]
def k13_r7 : List COp := [o 4 (pZ .i64 0)]
def k13 : CC := (.seq (.region k13_r0) (.seq (.region k13_r1) (.seq (.seq (.region k13_r2) (.cond (.tmp 14) (.seq (.region k13_r3) .ret) .skip)) (.seq (.seq (.region k13_r4) (.cond (.tmp 17) (.seq (.region k13_r5) .ret) .skip)) (.seq (.region k13_r6) (.seq (.region k13_r7) .ret))))))
def k13_p := PLift.up <| aI (vE k13.eq_1) <| aI (oE k13_r0.eq_1) <| aI (oE k13_r1.eq_1) <| aI (oE k13_r2.eq_1) <| aI (oE k13_r3.eq_1) <| aI (oE k13_r4.eq_1) <| aI (oE k13_r5.eq_1) <| aI (oE k13_r6.eq_1) (oE k13_r7.eq_1)
theorem k13_a : type_of% k13_p.down := k13_p.down
/-- (*quern/disk.Disk).Sync -/
theorem k13_is : FnIs Try.prog prims 13 35 [ResultVar.tmp 4] k13 := FnIs.of_fn Try.func13 (by kernel_rfl) rfl
def k14_r0 : List COp := [o 4 (pO false)]
def k14_r1 : List COp := [o 6 (pM 0),
o 7 (pN 6 28),
o 8 (pM 1),
o 9 (pN 8 28),
o 10 (pB .neq 3 7 9 3)]
def k14_r2 : List COp := [o 4 (pO false)]
def k14_r3 : List COp := [o 11 (pM 0),
o 12 (pN 11 28),
o 13 (pW .i64 0)]
def k14_r4 : List COp := [o 14 (pB .lss 3 13 12 3)]
def k14_r5 : List COp := [o 15 (pM 13),
o 5 (pA 15)]
def k14_r6 : List COp := [oX 16 (pM 0),
oX 17 (pM 5),
oX 18 (pI 28 16 17),
oX 19 (pL 5 18),
oX 20 (pM 1),
o 21 (pM 5),
o 22 (pI 28 20 21),
o 23 (pL 5 22),
o 24 (pB .neq 5 19 23 5)]
def k14_r7 : List COp := [o 4 (pO false)]
def k14_r8 : List COp := [o 25 (pK .add 3 13 .i64 1 3),
o 13 (pM 25)]
def k14_l0 : CC := (.seq (.region k14_r4) (.seq (.cond (.tmp 14) .skip (.exit 0)) (.seq (.block 1 (.seq (.region k14_r5) (.seq (.region k14_r6) (.cond (.tmp 24) (.seq (.region k14_r7) .ret) .skip)))) (.region k14_r8))))
def k14_r9 : List COp := [o 4 (pO true)]
def k14 : CC := (.seq (.region k14_r0) (.seq (.seq (.region k14_r1) (.cond (.tmp 10) (.seq (.region k14_r2) .ret) .skip)) (.seq (.seq (.region k14_r3) (.block 0 (.loop k14_l0))) (.seq (.region k14_r9) .ret))))
def k14_p := PLift.up <| aI (vE k14.eq_1) <| aI (oE k14_r0.eq_1) <| aI (oE k14_r1.eq_1) <| aI (oE k14_r2.eq_1) <| aI (oE k14_r3.eq_1) <| aI (oE k14_r4.eq_1) <| aI (oE k14_r5.eq_1) <| aI (oE k14_r6.eq_1) <| aI (oE k14_r7.eq_1) <| aI (oE k14_r8.eq_1) <| aI (vE k14_l0.eq_1) (oE k14_r9.eq_1)
theorem k14_a : type_of% k14_p.down := k14_p.down
/-- quern/quernlaw03.same -/
theorem k14_is : FnIs Try.prog prims 14 26 [ResultVar.tmp 4] k14 := FnIs.of_fn Try.func14 (by kernel_rfl) rfl
def k25_r0 : List COp := [o 4 (pM 0),
o 5 (.binOp .neq 25 (.tmp 4) (.const (.pointer .none)) 25)]
def k25_r1 : List COp := [o 6 (pM 0),
o 7 (pM 1),
o 8 (.nilCheck (.tmp 6)),
o 9 (pF 57 8 1),
oS 3 9 7]
def k25 : CC := (.seq (.region k25_r0) (.cond (.tmp 5) (.region k25_r1) .skip))
def k26_r0 : List COp := [o 6 (pZ .i64 0)]
def k26_r1 : List COp := [o 10 (pM 0),
o 11 (pM 1),
o 12 (pD 35 10 11 25 9),
o 9 (pM 12),
o 13 (pX 9 0),
o 14 (pX 9 1),
o 7 (pA 13),
o 8 (pA 14)]
def k26_r2 : List COp := [o 16 (pM 8),
o 17 (pK .neq 29 16 .i64 0 29),
o 15 (pA 17)]
def k26_r3 : List COp := [o 18 (pM 8),
o 6 (pA 18)]
def k26_r4 : List COp := [o 20 (pM 2),
o 21 (pK .lss 3 20 .i64 0 3),
o 22 (pM 21),
⟨some 23, .move (.tmp 2), some (22, false), false⟩,
⟨some 24, .move (.tmp 7), some (22, false), false⟩,
⟨some 25, .nilCheck (.tmp 24), some (22, false), false⟩,
⟨some 26, .fieldAddr 60 (.tmp 25) 0, some (22, false), false⟩,
⟨some 27, .load 28 (.tmp 26), some (22, false), false⟩,
⟨some 28, .call { callee := .builtin .len, args := #[.tmp 27], argTypes := #[28] }, some (22, false), false⟩,
oF 29 (pM 7) 22,
oF 30 (.nilCheck (.tmp 29)) 22,
oF 31 (pF 60 30 1) 22,
oF 32 (pL 28 31) 22,
oF 33 (pN 32 28) 22,
oF 34 (pB .add 3 28 33 3) 22,
oF 35 (pB .gtr 3 23 34 3) 22,
o 36 (pV 22 35),
o 19 (pA 36)]
def k26_r5 : List COp := [o 6 (pZ .i64 3)]
def k26_r6 : List COp := [o 37 (pM 0),
o 38 (pC 31 37 25)]
def k26_r7 : List COp := [o 39 (pM 0),
o 40 (pC 32 39 25),
o 6 (pA 40)]
def k26_r8 : List COp := [oX 41 (pM 7),
oX 42 (pM 7),
oX 43 (.nilCheck (.tmp 42)),
oX 44 (pF 60 43 1),
oX 45 (pL 28 44),
oX 46 (pM 2),
o 47 (pM 7),
o 48 (.nilCheck (.tmp 47)),
o 49 (pF 60 48 0),
o 50 (pL 28 49),
o 51 (pN 50 28),
o 52 (pB .sub 3 46 51 3),
o 53 (.call { callee := .builtin .max, args := #[.const (.int .i64 0), .tmp 52], argTypes := #[3, 3] }),
o 54 (.slice 28 (.tmp 45) .none (some (.tmp 53)) .none),
o 55 (.nilCheck (.tmp 41)),
o 56 (pF 60 55 1),
oS 28 56 54]
def k26_r9 : List COp := [oX 57 (pM 7),
oX 58 (pM 7),
oX 59 (.nilCheck (.tmp 58)),
oX 60 (pF 60 59 0),
oX 61 (pL 28 60),
oX 62 (pM 2),
o 63 (pM 7),
o 64 (.nilCheck (.tmp 63)),
o 65 (pF 60 64 0),
o 66 (pL 28 65),
o 67 (pN 66 28),
o 68 (.call { callee := .builtin .min, args := #[.tmp 62, .tmp 67], argTypes := #[3, 3] }),
o 69 (.slice 28 (.tmp 61) .none (some (.tmp 68)) .none),
o 70 (.nilCheck (.tmp 57)),
o 71 (pF 60 70 0),
oS 28 71 69]
def k26_r10 : List COp := [o 6 (pZ .i64 0)]
def k26 : CC := (.seq (.region k26_r0) (.seq (.region k26_r1) (.seq (.block 0 (.seq (.region k26_r2) (.cond (.tmp 15) (.seq (.region k26_r3) .ret) (.seq (.region k26_r4) (.cond (.tmp 19) (.seq (.region k26_r5) .ret) .skip))))) (.seq (.seq (.region k26_r6) (.cond (.tmp 38) (.seq (.region k26_r7) .ret) .skip)) (.seq (.region k26_r8) (.seq (.region k26_r9) (.seq (.region k26_r10) .ret)))))))
def k27_r0 : List COp := [o 6 (pZ .i64 0)]
def k27_r1 : List COp := [o 10 (pM 0),
o 11 (pM 1),
o 12 (pD 35 10 11 25 9),
o 9 (pM 12),
o 13 (pX 9 0),
o 14 (pX 9 1),
o 7 (pA 13),
o 8 (pA 14)]
def k27_r2 : List COp := [o 15 (pM 8),
o 16 (pK .eql 29 15 .i64 2 29),
o 17 (pM 16),
oF 18 (pM 8) 17,
oF 19 (pK .eql 29 18 .i64 1 29) 17,
o 20 (pV 17 19)]
def k27_r3 : List COp := [o 21 (pM 8),
o 6 (pA 21)]
def k27_r4 : List COp := [o 23 (pM 2),
o 24 (pC 46 23 9),
o 25 (.unOp .not 4 (.tmp 24)),
o 22 (pA 25)]
def k27_r5 : List COp := [o 6 (pZ .i64 1)]
def k27_r6 : List COp := [o 27 (pM 8),
o 28 (pK .neq 29 27 .i64 0 29),
o 26 (pA 28)]
def k27_r7 : List COp := [o 29 (pM 8),
o 6 (pA 29)]
def k27_r8 : List COp := [o 30 (pM 0),
o 31 (pC 31 30 25)]
def k27_r9 : List COp := [o 32 (pM 0),
o 33 (pC 32 32 25),
o 6 (pA 33)]
def k27_r10 : CC := (.hreg [
(false, o 34 (pM 0)),
(false, o 35 (.nilCheck (.tmp 34))),
(false, o 36 (pF 57 35 0)),
(false, o 37 (pL 55 36)),
(false, o 38 (pM 1)),
(true, ⟨none, .call { callee := .builtin .delete, args := #[.tmp 37, .tmp 38], argTypes := #[55, 9] }, none, true⟩)])
def k27_r11 : List COp := [o 39 (pM 0),
o 40 (.nilCheck (.tmp 39)),
o 41 (pF 57 40 0),
o 42 (pL 55 41),
o 43 (pM 2),
o 44 (pM 7),
⟨none, .mapUpdate 55 (.tmp 42) (.tmp 43) (.tmp 44), none, true⟩]
def k27_r12 : List COp := [o 6 (pZ .i64 0)]
def k27 : CC := (.seq (.region k27_r0) (.seq (.region k27_r1) (.seq (.seq (.region k27_r2) (.cond (.tmp 20) (.seq (.region k27_r3) .ret) .skip)) (.seq (.block 0 (.seq (.region k27_r4) (.cond (.tmp 22) (.seq (.region k27_r5) .ret) (.seq (.region k27_r6) (.cond (.tmp 26) (.seq (.region k27_r7) .ret) .skip))))) (.seq (.seq (.region k27_r8) (.cond (.tmp 31) (.seq (.region k27_r9) .ret) .skip)) (.seq k27_r10 (.seq (.region k27_r11) (.seq (.region k27_r12) .ret))))))))
def k29_r0 : List COp := [o 4 (pZ .i64 0)]
def k29_r1 : List COp := [o 6 (pM 0),
o 7 (.binOp .eql 25 (.tmp 6) (.const (.pointer .none)) 25),
o 5 (pA 7)]
def k29_r2 : List COp := [o 4 (pZ .i64 2)]
def k29_r3 : List COp := [o 9 (pM 1),
o 10 (pC 46 9 9),
o 11 (.unOp .not 4 (.tmp 10)),
o 8 (pA 11)]
def k29_r4 : List COp := [o 4 (pZ .i64 1)]
def k29_r5 : List COp := [o 13 (pM 0),
o 14 (.nilCheck (.tmp 13)),
o 15 (pF 57 14 2),
o 16 (pL 4 15),
o 12 (pA 16)]
def k29_r6 : List COp := [o 4 (pZ .i64 20)]
def k29_r7 : List COp := [o 4 (pZ .i64 0)]
def k29 : CC := (.seq (.region k29_r0) (.seq (.block 0 (.seq (.region k29_r1) (.cond (.tmp 5) (.seq (.region k29_r2) .ret) (.seq (.region k29_r3) (.cond (.tmp 8) (.seq (.region k29_r4) .ret) (.seq (.region k29_r5) (.cond (.tmp 12) (.seq (.region k29_r6) .ret) .skip))))))) (.seq (.region k29_r7) .ret)))
def k29_p := PLift.up <| aI (vE k29.eq_1) <| aI (oE k29_r0.eq_1) <| aI (oE k29_r1.eq_1) <| aI (oE k29_r2.eq_1) <| aI (oE k29_r3.eq_1) <| aI (oE k29_r4.eq_1) <| aI (oE k29_r5.eq_1) <| aI (oE k29_r6.eq_1) (oE k29_r7.eq_1)
theorem k29_a : type_of% k29_p.down := k29_p.down
/-- (*quern/disk.Disk).ready -/
theorem k29_is : FnIs Try.prog prims 29 17 [ResultVar.tmp 4] k29 := FnIs.of_fn Try.func29 (by kernel_rfl) rfl
def k31_r0 : List COp := [o 2 (pO false)]
def k31_r1 : List COp := [o 3 (pM 0),
o 4 (.nilCheck (.tmp 3)),
o 5 (pF 57 4 3),
o 6 (pL 3 5),
o 7 (pK .add 3 6 .i64 1 3),
o 8 (.nilCheck (.tmp 3)),
o 9 (pF 57 8 3),
oS 3 9 7]
def k31_r2 : List COp := [o 10 (pM 0),
o 11 (.nilCheck (.tmp 10)),
o 12 (pF 57 11 4),
o 13 (pL 3 12),
o 14 (pK .eql 3 13 .i64 0 3)]
def k31_r3 : List COp := [o 2 (pO false)]
def k31_r4 : List COp := [o 15 (pM 0),
o 16 (.nilCheck (.tmp 15)),
o 17 (pF 57 16 4),
o 18 (pL 3 17),
o 19 (pK .sub 3 18 .i64 1 3),
o 20 (.nilCheck (.tmp 15)),
o 21 (pF 57 20 4),
oS 3 21 19]
def k31_r5 : List COp := [o 22 (pM 0),
o 23 (.nilCheck (.tmp 22)),
o 24 (pF 57 23 4),
o 25 (pL 3 24),
o 26 (pK .eql 3 25 .i64 0 3),
o 2 (pA 26)]
def k31 : CC := (.seq (.region k31_r0) (.seq (.region k31_r1) (.seq (.seq (.region k31_r2) (.cond (.tmp 14) (.seq (.region k31_r3) .ret) .skip)) (.seq (.region k31_r4) (.seq (.region k31_r5) .ret)))))
def k31_p := PLift.up <| aI (vE k31.eq_1) <| aI (oE k31_r0.eq_1) <| aI (oE k31_r1.eq_1) <| aI (oE k31_r2.eq_1) <| aI (oE k31_r3.eq_1) <| aI (oE k31_r4.eq_1) (oE k31_r5.eq_1)
theorem k31_a : type_of% k31_p.down := k31_p.down
/-- (*quern/disk.Disk).raw -/
theorem k31_is : FnIs Try.prog prims 31 27 [ResultVar.tmp 2] k31 := FnIs.of_fn Try.func31 (by kernel_rfl) rfl
def k32_r0 : List COp := [o 2 (pZ .i64 0)]
def k32_r1 : List COp := [o 3 (pM 0),
o 4 (pM 0),
o 5 (.nilCheck (.tmp 4)),
o 6 (pF 57 5 5),
o 7 (pL 3 6),
o 8 (pD 15 3 7 25 3)]
def k32_r2 : List COp := [o 2 (pZ .i64 20)]
def k32 : CC := (.seq (.region k32_r0) (.seq (.region k32_r1) (.seq (.region k32_r2) .ret)))
def k32_p := PLift.up <| aI (vE k32.eq_1) <| aI (oE k32_r0.eq_1) <| aI (oE k32_r1.eq_1) (oE k32_r2.eq_1)
theorem k32_a : type_of% k32_p.down := k32_p.down
/-- (*quern/disk.Disk).ends -/
theorem k32_is : FnIs Try.prog prims 32 9 [ResultVar.tmp 2] k32 := FnIs.of_fn Try.func32 (by kernel_rfl) rfl
def k34_r0 : List COp := [o 1 (.box 55 (.tmp 0)),
o 2 (.assign (.const .nilFunc))]
def k34_r1 : List COp := [o 3 (.makeFunc (.func 49) #[] #[.tmp 1]),
o 2 (pA 3)]
def k34 : CC := (.seq (.region k34_r0) (.seq (.region k34_r1) .ret))
def k34_p := PLift.up <| aI (vE k34.eq_1) <| aI (oE k34_r0.eq_1) (oE k34_r1.eq_1)
theorem k34_a : type_of% k34_p.down := k34_p.down
/-- maps.Keys[map[string]*quern/disk.file,string,*quern/disk.file] -/
theorem k34_is : FnIs Try.prog prims 34 4 [ResultVar.tmp 2] k34 := FnIs.of_fn Try.func34 (by kernel_rfl) rfl
def k35_r0 : List COp := [o 4 (.assign (.const (.pointer .none))),
o 5 (pZ .i64 0)]
def k35_r1 : List COp := [o 8 (pM 0),
o 9 (pM 1),
o 10 (pD 29 8 9 25 9),
o 6 (pA 10)]
def k35_r2 : List COp := [o 11 (pM 6),
o 12 (pK .neq 29 11 .i64 0 29)]
def k35_r3 : List COp := [o 13 (pM 6),
o 4 (.assign (.const (.pointer .none))),
o 5 (pA 13)]
def k35_r4 : List COp := [o 14 (pM 0),
o 15 (.nilCheck (.tmp 14)),
o 16 (pF 57 15 0),
o 17 (pL 55 16),
o 18 (pM 1),
o 19 (.lookup 55 (.tmp 17) (.tmp 18) false),
o 7 (pA 19)]
def k35_r5 : List COp := [o 20 (pM 7),
o 21 (.binOp .eql 58 (.tmp 20) (.const (.pointer .none)) 58)]
def k35_r6 : List COp := [o 4 (.assign (.const (.pointer .none))),
o 5 (pZ .i64 21)]
def k35_r7 : List COp := [o 22 (pM 7),
o 4 (pA 22),
o 5 (pZ .i64 0)]
def k35 : CC := (.seq (.region k35_r0) (.seq (.seq (.region k35_r1) (.seq (.region k35_r2) (.cond (.tmp 12) (.seq (.region k35_r3) .ret) .skip))) (.seq (.region k35_r4) (.seq (.seq (.region k35_r5) (.cond (.tmp 21) (.seq (.region k35_r6) .ret) .skip)) (.seq (.region k35_r7) .ret)))))
def k35_p := PLift.up <| aI (vE k35.eq_1) <| aI (oE k35_r0.eq_1) <| aI (oE k35_r1.eq_1) <| aI (oE k35_r2.eq_1) <| aI (oE k35_r3.eq_1) <| aI (oE k35_r4.eq_1) <| aI (oE k35_r5.eq_1) <| aI (oE k35_r6.eq_1) (oE k35_r7.eq_1)
theorem k35_a : type_of% k35_p.down := k35_p.down
/-- (*quern/disk.Disk).there -/
theorem k35_is : FnIs Try.prog prims 35 23 [ResultVar.tmp 4, ResultVar.tmp 5] k35 := FnIs.of_fn Try.func35 (by kernel_rfl) rfl
def k36_r0 : List COp := [o 2 (.assign (.const (.slice .none 0 0)))]
def k36_r1 : List COp := [o 3 (pZ .i64 0)]
def k36_r2 : List COp := [o 9 (pM 0),
o 10 (pN 9 22),
o 11 (pW .i64 0)]
def k36_r3 : List COp := [o 12 (pB .lss 3 11 10 3)]
def k36_r4 : List COp := [o 13 (pI 22 9 11),
o 14 (pL 28 13),
o 5 (pA 14)]
def k36_r5 : List COp := [o 15 (pM 3),
o 16 (pM 5),
o 17 (pN 16 28),
o 18 (pB .add 3 15 17 3),
o 3 (pA 18)]
def k36_r6 : List COp := [o 19 (pM 3),
o 20 (pK .lss 3 19 .i64 0 3)]
def k36_r7 : List COp := [o 21 (.makeInterface 9 (.const (.string { data := #[108, 101, 110, 32, 111, 117, 116, 32, 111, 102, 32, 114, 97, 110, 103, 101] }))),
⟨none, .panic (.tmp 21), none, true⟩]
def k36_r8 : List COp := [o 22 (pK .add 3 11 .i64 1 3),
o 11 (pM 22)]
def k36_l0 : CC := (.seq (.region k36_r3) (.seq (.cond (.tmp 12) .skip (.exit 0)) (.seq (.block 1 (.seq (.region k36_r4) (.seq (.region k36_r5) (.seq (.region k36_r6) (.cond (.tmp 20) (.region k36_r7) .skip))))) (.region k36_r8))))
def k36_r9 : List COp := [o 23 (pM 3),
o 24 (.call { callee := .value (.func 50), args := #[.const (.slice .none 0 0), .tmp 23], argTypes := #[28, 3] }),
o 6 (pA 24)]
def k36_r10 : List COp := [o 25 (pM 0),
o 26 (pN 25 22),
o 27 (pW .i64 0)]
def k36_r11 : List COp := [o 28 (pB .lss 3 27 26 3)]
def k36_r12 : List COp := [o 29 (pI 22 25 27),
o 30 (pL 28 29),
o 8 (pA 30)]
def k36_r13 : CC := (.hreg [
(false, o 31 (pM 6)),
(false, o 32 (pM 8)),
(true, o 33 (pQ 31 32 28 28)),
(false, o 6 (pA 33))])
def k36_r14 : List COp := [o 34 (pK .add 3 27 .i64 1 3),
o 27 (pM 34)]
def k36_l1 : CC := (.seq (.region k36_r11) (.seq (.cond (.tmp 28) .skip (.exit 2)) (.seq (.block 3 (.seq (.region k36_r12) k36_r13)) (.region k36_r14))))
def k36_r15 : List COp := [o 35 (pM 6),
o 2 (pA 35)]
def k36 : CC := (.seq (.region k36_r0) (.seq (.region k36_r1) (.seq (.seq (.region k36_r2) (.block 0 (.loop k36_l0))) (.seq (.region k36_r9) (.seq (.seq (.region k36_r10) (.block 2 (.loop k36_l1))) (.seq (.region k36_r15) .ret))))))
def k36_p := PLift.up <| aI (vE k36.eq_1) <| aI (oE k36_r0.eq_1) <| aI (oE k36_r1.eq_1) <| aI (oE k36_r2.eq_1) <| aI (oE k36_r3.eq_1) <| aI (oE k36_r4.eq_1) <| aI (oE k36_r5.eq_1) <| aI (oE k36_r6.eq_1) <| aI (oE k36_r7.eq_1) <| aI (oE k36_r8.eq_1) <| aI (vE k36_l0.eq_1) <| aI (oE k36_r9.eq_1) <| aI (oE k36_r10.eq_1) <| aI (oE k36_r11.eq_1) <| aI (oE k36_r12.eq_1) <| aI (vE k36_r13.eq_1) <| aI (oE k36_r14.eq_1) <| aI (vE k36_l1.eq_1) (oE k36_r15.eq_1)
theorem k36_a : type_of% k36_p.down := k36_p.down
/-- slices.Concat[[]byte,byte] -/
theorem k36_is : FnIs Try.prog prims 36 36 [ResultVar.tmp 2] k36 := FnIs.of_fn Try.func36 (by kernel_rfl) rfl
def k46_r0 : List COp := [o 2 (pO false)]
def k46_r1 : List COp := [o 3 (pM 0),
o 4 (pN 3 9),
o 5 (pK .geq 3 4 .i64 1 3),
o 6 (pM 5),
oT 7 (pM 0) 6,
oT 8 (pN 7 9) 6,
oT 9 (pK .leq 3 8 .i64 16 3) 6,
o 10 (pU 6 9),
o 2 (pA 10)]
def k46 : CC := (.seq (.region k46_r0) (.seq (.region k46_r1) .ret))
def k46_p := PLift.up <| aI (vE k46.eq_1) <| aI (oE k46_r0.eq_1) (oE k46_r1.eq_1)
theorem k46_a : type_of% k46_p.down := k46_p.down
/-- quern/disk.named -/
theorem k46_is : FnIs Try.prog prims 46 11 [ResultVar.tmp 2] k46 := FnIs.of_fn Try.func46 (by kernel_rfl) rfl
def k50_r0 : List COp := [o 4 (.assign (.const (.slice .none 0 0)))]
def k50_r1 : List COp := [o 5 (pM 1),
o 6 (pK .lss 3 5 .i64 0 3)]
def k50_r2 : List COp := [o 7 (.makeInterface 9 (.const (.string { data := #[99, 97, 110, 110, 111, 116, 32, 98, 101, 32, 110, 101, 103, 97, 116, 105, 118, 101] }))),
⟨none, .panic (.tmp 7), none, true⟩]
def k50_r3 : CC := (.hreg [
(false, o 8 (pM 1)),
(false, o 9 (pM 0)),
(true, o 10 (.call { callee := .builtin .cap, args := #[.tmp 9], argTypes := #[28] })),
(false, o 11 (pM 0)),
(true, o 12 (pN 11 28)),
(false, o 13 (pB .sub 3 10 12 3)),
(false, o 14 (pB .sub 3 8 13 3)),
(false, o 1 (pA 14))])
def k50_r4 : List COp := [o 15 (pM 1),
o 16 (pK .gtr 3 15 .i64 0 3)]
def k50_r5 : CC := (.hreg [
(false, o 17 (pM 0)),
(false, o 18 (pM 0)),
(true, o 19 (.call { callee := .builtin .cap, args := #[.tmp 18], argTypes := #[28] })),
(false, o 20 (.slice 28 (.tmp 17) .none (some (.tmp 19)) .none)),
(false, o 21 (pM 1)),
(true, o 22 (pQ 20 21 28 3)),
(false, o 23 (pM 0)),
(true, o 24 (pN 23 28)),
(false, o 25 (.slice 28 (.tmp 22) .none (some (.tmp 24)) .none)),
(false, o 0 (pA 25))])
def k50_r6 : List COp := [o 26 (pM 0),
o 4 (pA 26)]
def k50 : CC := (.seq (.region k50_r0) (.seq (.seq (.region k50_r1) (.cond (.tmp 6) (.region k50_r2) .skip)) (.seq (.seq k50_r3 (.seq (.region k50_r4) (.cond (.tmp 16) k50_r5 .skip))) (.seq (.region k50_r6) .ret))))
def k50_p := PLift.up <| aI (vE k50.eq_1) <| aI (oE k50_r0.eq_1) <| aI (oE k50_r1.eq_1) <| aI (oE k50_r2.eq_1) <| aI (vE k50_r3.eq_1) <| aI (oE k50_r4.eq_1) <| aI (vE k50_r5.eq_1) (oE k50_r6.eq_1)
theorem k50_a : type_of% k50_p.down := k50_p.down
/-- slices.Grow[[]byte,byte] -/
theorem k50_is : FnIs Try.prog prims 50 27 [ResultVar.tmp 4] k50 := FnIs.of_fn Try.func50 (by kernel_rfl) rfl
theorem noSB : isSB Try.prog 27 = false ∧ isSB Try.prog 46 = false ∧ isSB Try.prog 77 = false ∧ isMapT Try.prog 46 = false ∧ isMapT Try.prog 55 = true ∧ isMapT Try.prog 57 = false ∧ isMapT Try.prog 60 = false ∧ isMapT Try.prog 71 = false ∧ isMapT Try.prog 77 = false ∧ True := ⟨by kernel_rfl, by kernel_rfl, by kernel_rfl, by kernel_rfl, by kernel_rfl, by kernel_rfl, by kernel_rfl, by kernel_rfl, by kernel_rfl, trivial⟩
end Go.Proofs.Ytnbmfhnfmhgaaaa.Q

set_option linter.unusedVariables false
set_option linter.unusedSimpArgs false
namespace Go.Proofs.Ytnbmfhnfmhgaaaa.Q
open Go Go.RowKit Go.Proofs
theorem T22 : Try.prog.underlying 28 = some (.slice 5) := by kernel_rfl
theorem T5 : Try.prog.underlying 5 = some (.int .u8) := by kernel_rfl
theorem T3 : Try.prog.underlying 3 = some (.int .i64) := by kernel_rfl
theorem S5 : sizeT Try.prog 5 = some 1 := by kernel_rfl
theorem G5 : isAggT Try.prog 5 = some false := by kernel_rfl
theorem C5 : Try.prog.cellsOf 5 = 1 := by kernel_rfl
theorem G3 : isAggT Try.prog 3 = some false := by kernel_rfl
theorem G4 : isAggT Try.prog 4 = some false := by kernel_rfl
theorem S3 : sizeT Try.prog 3 = some 1 := by kernel_rfl
theorem S4 : sizeT Try.prog 4 = some 1 := by kernel_rfl
theorem BT : ByteT Try.prog 28 5 := ⟨T22, T5, S5, by kernel_rfl, by kernel_rfl, G5, C5⟩
def isTrue : Option (VRes × St) → Bool
  | some (.ret (.bool true), _) => true
  | _ => false
theorem isTrue_eq {o : Option (VRes × St)} (h : isTrue o = true) : ∃ σ, o = some (.ret (.bool true), σ) := by
  unfold isTrue at h
  split at h
  · exact ⟨_, rfl⟩
  · cases h
theorem wrap_nat {n : Nat} (h : n < 2 ^ 63) : IntKind.i64.wrap (n : Int) = n := wrap_i64 (by omega) (by omega)
end Go.Proofs.Ytnbmfhnfmhgaaaa.Q

/- Disks, plainly: files by rising names, and what is done to them. -/
set_option linter.unusedVariables false
namespace Go.Proofs.Ytnbmfhnfmhgaaaa.Q
structure Fl where
  name : List UInt8
  safe : List UInt8
  wait : List UInt8
  deriving DecidableEq, Inhabited
structure Dk where
  files : List Fl
  room : Int
  on : Bool
  writes : Nat
  armed : Nat
  keep : Int
abbrev Fl.len (f : Fl) : Nat := f.safe.length + f.wait.length
def sizeD (l : List Fl) : Nat := (l.map Fl.len).sum
def namedD (n : List UInt8) : Bool := decide (1 ≤ n.length ∧ n.length ≤ 16)
/-- 0 OK, 1 Arg, 2 Nil, 3 Long, 20 Down, 21 File, 22 Full. -/
def readyD (d : Dk) (n : List UInt8) : Nat := if namedD n = false then 1 else if d.on = false then 20 else 0
def getF (l : List Fl) (n : List UInt8) : Option Fl := l.find? fun f => decide (f.name = n)
def putF (x : Fl) (l : List Fl) : List Fl := (l.filter fun f => decide (f.name < x.name)) ++ x :: (l.filter fun f => decide (x.name < f.name))
def dropF (n : List UInt8) (l : List Fl) : List Fl := l.filter fun f => decide (f.name ≠ n)
def offF (k : Int) (f : Fl) : Fl := ⟨f.name, f.safe ++ f.wait.take k.toNat, []⟩
def offD (k : Int) (d : Dk) : Dk := if d.on = true then { d with files := d.files.map (offF k), on := false, armed := 0 } else d
/-- A raw write is counted; does the power go in it? -/
def rawD (d : Dk) : Bool × Dk := if d.armed = 0 then (false, { d with writes := d.writes + 1 }) else (decide (d.armed = 1), { d with writes := d.writes + 1, armed := d.armed - 1 })
def appendD (n b : List UInt8) (d : Dk) : Nat × Dk :=
  if readyD d n ≠ 0 then (readyD d n, d) else
  let f := (getF d.files n).getD ⟨n, [], []⟩
  if 1048576 < f.len + b.length then (3, d) else
  if ((getF d.files n).isNone = true ∧ 16 ≤ d.files.length) ∨ d.room < ((sizeD d.files + b.length : Nat) : Int) then (22, d) else
  let d2 := { d with files := putF ⟨n, f.safe, f.wait ++ b⟩ d.files }
  if (rawD d2).1 = true then (20, offD d.keep (rawD d2).2) else (0, (rawD d2).2)
def thereD (d : Dk) (n : List UInt8) : Nat := if readyD d n ≠ 0 then readyD d n else if (getF d.files n).isNone = true then 21 else 0
def syncD (n : List UInt8) (d : Dk) : Nat × Dk :=
  if thereD d n ≠ 0 then (thereD d n, d) else
  if (rawD d).1 = true then (20, offD d.keep (rawD d).2) else
  let f := (getF d.files n).getD default
  (0, { (rawD d).2 with files := putF ⟨n, f.safe ++ f.wait, []⟩ d.files })
def truncD (n : List UInt8) (k : Int) (d : Dk) : Nat × Dk :=
  if thereD d n ≠ 0 then (thereD d n, d) else
  let f := (getF d.files n).getD default
  if k < 0 ∨ (f.len : Int) < k then (3, d) else
  if (rawD d).1 = true then (20, offD d.keep (rawD d).2) else
  (0, { (rawD d).2 with files := putF ⟨n, f.safe.take k.toNat, f.wait.take (k.toNat - f.safe.length)⟩ d.files })
def renameD (a b : List UInt8) (d : Dk) : Nat × Dk :=
  if namedD a = false ∨ namedD b = false then (1, d) else
  if thereD d a ≠ 0 then (thereD d a, d) else
  if (rawD d).1 = true then (20, offD d.keep (rawD d).2) else
  let f := (getF d.files a).getD default
  (0, { (rawD d).2 with files := putF ⟨b, f.safe, f.wait⟩ (dropF a d.files) })
def removeD (n : List UInt8) (d : Dk) : Nat × Dk :=
  if thereD d n ≠ 0 then (thereD d n, d) else
  if (rawD d).1 = true then (20, offD d.keep (rawD d).2) else
  (0, { (rawD d).2 with files := dropF n d.files })
def readD (n : List UInt8) (d : Dk) : Nat × List UInt8 :=
  if thereD d n ≠ 0 then (thereD d n, []) else
  let f := (getF d.files n).getD default
  (0, f.safe ++ f.wait)
def namesD (d : Dk) : List (List UInt8) := if d.on = true then d.files.map Fl.name else []
def armD (n k : Int) (d : Dk) : Dk := { d with armed := n.toNat, keep := k }
/-- What a disk keeps to. -/
structure Dk.Ok (d : Dk) : Prop where
  rise : d.files.Pairwise fun f g => f.name < g.name
  nm : ∀ f ∈ d.files, namedD f.name = true
  few : d.files.length ≤ 16
  sm : ∀ f ∈ d.files, f.len ≤ 1048576
  arm : (d.armed : Int) ≤ 9223372036854775807
  rm : InI64 d.room
  kp : InI64 d.keep
theorem lt_irrefl' (a : List UInt8) : ¬ a < a := List.lt_irrefl a
theorem lt_trans' {a b c : List UInt8} (h : a < b) (h2 : b < c) : a < c := List.lt_trans h h2
theorem lt_or {a b : List UInt8} (h : a ≠ b) : a < b ∨ b < a := by
  rcases Classical.em (a < b) with h1 | h1
  · exact .inl h1
  · rcases Classical.em (b < a) with h2 | h2
    · exact .inr h2
    · exact absurd (List.le_antisymm h2 h1) h
theorem Dk.Ok.nodup {d : Dk} (h : d.Ok) : (d.files.map Fl.name).Nodup := by
  rw [List.nodup_iff_pairwise_ne, List.pairwise_map]
  exact h.rise.imp fun {f g} hlt (he : f.name = g.name) => lt_irrefl' f.name (by rw [← he] at hlt; exact hlt)
theorem mem_putF {x f : Fl} {l : List Fl} : f ∈ putF x l ↔ f = x ∨ (f ∈ l ∧ f.name ≠ x.name) := by
  unfold putF
  simp only [List.mem_append, List.mem_cons, List.mem_filter, decide_eq_true_eq]
  constructor
  · rintro (⟨h1, h2⟩ | rfl | ⟨h1, h2⟩)
    · exact .inr ⟨h1, fun e => lt_irrefl' x.name (by rw [e] at h2; exact h2)⟩
    · exact .inl rfl
    · exact .inr ⟨h1, fun e => lt_irrefl' x.name (by rw [e] at h2; exact h2)⟩
  · rintro (rfl | ⟨h1, h2⟩)
    · exact .inr (.inl rfl)
    · rcases lt_or h2 with h | h
      · exact .inl ⟨h1, h⟩
      · exact .inr (.inr ⟨h1, h⟩)
theorem mem_dropF {n : List UInt8} {f : Fl} {l : List Fl} : f ∈ dropF n l ↔ f ∈ l ∧ f.name ≠ n := by
  simp [dropF]
theorem rise_putF {x : Fl} {l : List Fl} (h : l.Pairwise fun f g => f.name < g.name) : (putF x l).Pairwise fun f g => f.name < g.name := by
  unfold putF
  rw [List.pairwise_append, List.pairwise_cons]
  refine ⟨h.filter _, ⟨fun g hg => ?_, h.filter _⟩, fun f hf g hg => ?_⟩
  · simpa using (List.mem_filter.1 hg).2
  · have hf2 : f.name < x.name := by simpa using (List.mem_filter.1 hf).2
    rcases List.mem_cons.1 hg with rfl | hg
    · exact hf2
    · exact lt_trans' hf2 (by simpa using (List.mem_filter.1 hg).2)
theorem rise_dropF {n : List UInt8} {l : List Fl} (h : l.Pairwise fun f g => f.name < g.name) : (dropF n l).Pairwise fun f g => f.name < g.name := h.filter _
theorem getF_some {l : List Fl} {n : List UInt8} {f : Fl} (h : getF l n = some f) : f ∈ l ∧ f.name = n := by
  unfold getF at h
  exact ⟨List.mem_of_find?_eq_some h, by simpa using List.find?_some h⟩
theorem getF_none {l : List Fl} {n : List UInt8} (h : getF l n = none) : ∀ f ∈ l, f.name ≠ n := by
  unfold getF at h
  rw [List.find?_eq_none] at h
  intro f hf e
  exact h f hf (by simp [e])
theorem mem_name {l : List Fl} (hn : (l.map Fl.name).Nodup) {f g : Fl} (hf : f ∈ l) (hg : g ∈ l) (h : f.name = g.name) : f = g := by
  induction l with
  | nil => cases hf
  | cons a l ih =>
    simp only [List.map_cons, List.nodup_cons] at hn
    rcases List.mem_cons.1 hf with rfl | hf' <;> rcases List.mem_cons.1 hg with rfl | hg'
    · rfl
    · exact absurd (by rw [h]; exact List.mem_map_of_mem hg') hn.1
    · exact absurd (by rw [← h]; exact List.mem_map_of_mem hf') hn.1
    · exact ih hn.2 hf' hg'
theorem getF_mem {l : List Fl} (hn : (l.map Fl.name).Nodup) {f : Fl} (hf : f ∈ l) : getF l f.name = some f := by
  cases h : getF l f.name with
  | none => exact absurd rfl (getF_none h f hf)
  | some g =>
    obtain ⟨h1, h2⟩ := getF_some h
    rw [mem_name hn h1 hf h2]
theorem fl_nodup {l : List Fl} (hn : (l.map Fl.name).Nodup) : l.Nodup := by
  rw [List.nodup_iff_pairwise_ne] at hn ⊢
  rw [List.pairwise_map] at hn
  exact hn.imp fun {f g} h e => h (by rw [e])
theorem fl_perm {l m : List Fl} (hl : (l.map Fl.name).Nodup) (hm : (m.map Fl.name).Nodup) (h : ∀ f, f ∈ l ↔ f ∈ m) : l.Perm m := (List.perm_ext_iff_of_nodup (fl_nodup hl) (fl_nodup hm)).2 h
theorem len_putF {x : Fl} {l : List Fl} (hr : l.Pairwise fun f g => f.name < g.name) : (putF x l).length = if (getF l x.name).isNone = true then l.length + 1 else l.length := by
  have hn : (l.map Fl.name).Nodup := by
    rw [List.nodup_iff_pairwise_ne, List.pairwise_map]
    exact hr.imp fun {f g} hlt (he : f.name = g.name) => lt_irrefl' f.name (by rw [← he] at hlt; exact hlt)
  have hn2 : ((putF x l).map Fl.name).Nodup := by
    rw [List.nodup_iff_pairwise_ne, List.pairwise_map]
    exact (rise_putF hr).imp fun {f g} hlt (he : f.name = g.name) => lt_irrefl' f.name (by rw [← he] at hlt; exact hlt)
  have hp : (putF x l).Perm (x :: dropF x.name l) := by
    refine fl_perm hn2 ?_ fun f => ?_
    · simp only [List.map_cons, List.nodup_cons]
      refine ⟨fun h => ?_, ?_⟩
      · obtain ⟨g, hg, he⟩ := List.mem_map.1 h
        exact (mem_dropF.1 hg).2 he
      · exact List.Sublist.nodup ((List.filter_sublist).map _) hn
    · rw [mem_putF, List.mem_cons, mem_dropF]
  rw [hp.length_eq, List.length_cons]
  cases h : getF l x.name with
  | none =>
    have : dropF x.name l = l := by
      unfold dropF
      rw [List.filter_eq_self]
      intro f hf
      simpa using getF_none h f hf
    simp [this]
  | some f =>
    obtain ⟨h1, h2⟩ := getF_some h
    have hq : l.Perm (f :: dropF x.name l) := by
      refine fl_perm hn ?_ fun g => ?_
      · simp only [List.map_cons, List.nodup_cons]
        refine ⟨fun h => ?_, List.Sublist.nodup ((List.filter_sublist).map _) hn⟩
        obtain ⟨g, hg, he⟩ := List.mem_map.1 h
        exact (mem_dropF.1 hg).2 (he.trans h2)
      · rw [List.mem_cons, mem_dropF]
        constructor
        · intro hg
          by_cases e : g.name = x.name
          · exact .inl (mem_name hn hg h1 (e.trans h2.symm))
          · exact .inr ⟨hg, e⟩
        · rintro (rfl | h3)
          · exact h1
          · exact h3.1
    have := hq.length_eq
    simp at this ⊢
    omega
end Go.Proofs.Ytnbmfhnfmhgaaaa.Q

/- Disks as they lie in memory. -/
set_option linter.unusedVariables false
set_option linter.unusedSimpArgs false
set_option maxRecDepth 100000
namespace Go.Proofs.Ytnbmfhnfmhgaaaa.Q
open Go Go.RowKit Go.Proofs
/-! ### What stays -/
structure KS (S : List Nat) (σ σ' : St) : Prop where
  ko : ∀ r o, r ∉ S → σ.objs[r]? = some o → σ'.objs[r]? = some o
  le : σ.objs.length ≤ σ'.objs.length
  tl : σ.toks.length ≤ σ'.toks.length
  tk : ∀ k, tokLive σ.toks k = true → tokLive σ'.toks k = true
theorem KS.refl (S : List Nat) (σ : St) : KS S σ σ := ⟨fun _ _ _ h => h, Nat.le_refl _, Nat.le_refl _, fun _ h => h⟩
theorem KS.trans {S S1 : List Nat} {σ σ1 σ2 : St} (h : KS S σ σ1) (h2 : KS S1 σ1 σ2) (hs : ∀ x ∈ S1, x ∈ S ∨ σ.objs.length ≤ x) : KS S σ σ2 :=
  ⟨fun r o hr ho => h2.ko r o (fun hx => by
    have := (List.getElem?_eq_some_iff.1 ho).1
    rcases hs r hx with h | h
    · exact hr h
    · omega) (h.ko r o hr ho), Nat.le_trans h.le h2.le, Nat.le_trans h.tl h2.tl, fun k hk => h2.tk k (h.tk k hk)⟩
theorem KS.trans' {S : List Nat} {σ σ1 σ2 : St} (h : KS S σ σ1) (h2 : KS S σ1 σ2) : KS S σ σ2 := h.trans h2 fun _ hx => .inl hx
theorem KS.mono {S S1 : List Nat} {σ σ1 : St} (h : KS S1 σ σ1) (hs : ∀ x ∈ S1, x ∈ S ∨ σ.objs.length ≤ x) : KS S σ σ1 := (KS.refl S σ).trans h hs
theorem KS.push (S : List Nat) (σ : St) (o : Ob) : KS S σ ⟨σ.objs ++ [o], σ.toks⟩ := ⟨fun r p _ hp => by
  simp only; rw [List.getElem?_append_left (List.getElem?_eq_some_iff.1 hp).1]; exact hp, by simp, Nat.le_refl _, fun _ h => h⟩
theorem KS.set {S : List Nat} {σ : St} {k : Nat} (hk : k ∈ S ∨ σ.objs.length ≤ k) (o : Ob) : KS S σ ⟨σ.objs.set k o, σ.toks⟩ := ⟨fun r p hr hp => by
  have h2 := (List.getElem?_eq_some_iff.1 hp).1
  simp only
  rw [List.getElem?_set_ne]
  · exact hp
  · rintro rfl
    rcases hk with hk | hk
    · exact hr hk
    · omega, by simp, Nat.le_refl _, fun _ h => h⟩
theorem Keep.ks {σ σ' : St} (h : Keep σ σ') (S : List Nat) : KS S σ σ' := by
  refine ⟨fun r o _ ho => h.1 r o ho, ?_, h.2.1, h.2.2⟩
  rcases Nat.eq_zero_or_pos σ.objs.length with h0 | h0
  · omega
  · have := (List.getElem?_eq_some_iff.1 (h.1 (σ.objs.length - 1) _ (List.getElem?_eq_getElem (by omega)))).1
    omega
theorem KS.keep {σ σ' : St} (h : KS [] σ σ') : Keep σ σ' := ⟨fun r o ho => h.ko r o (by simp) ho, h.tl, h.tk⟩
/-! ### A disk -/
abbrev Ent := Fl × FO
def fent (p : Ent) : V × V := (.str p.1.name, .optr p.2.rf 0)
structure FAt (objs : List Ob) (p : Ent) : Prop where
  ob : objs[p.2.rf]? = some (.cells [p.2.s, p.2.w])
  s : rowOf objs p.2.s = some (p.2.rs, p.1.safe.map byteV)
  w : rowOf objs p.2.w = some (p.2.rw, p.1.wait.map byteV)
  cs : p.2.cs = p.1.safe.map byteV
  ds : p.2.ds = p.1.wait.map byteV
def dcells (rm : Nat) (d : Dk) : List V := [.omap rm, .int .i64 d.room, .bool (!d.on), .int .i64 (d.writes : Nat), .int .i64 (d.armed : Nat), .int .i64 d.keep]
def foot (r rm : Nat) (fs : List Ent) : List Nat := r :: rm :: fs.flatMap fun p => p.2.ids
structure DiskAt (σ : St) (r : Nat) (d : Dk) (rm : Nat) (fs : List Ent) : Prop where
  hd : σ.objs[r]? = some (.cells (dcells rm d))
  hm : σ.objs[rm]? = some (.mp (fs.map fent))
  hf : ∀ p ∈ fs, FAt σ.objs p
  nd : (foot r rm fs).Nodup
  pm : (fs.map (·.1)).Perm d.files
theorem FAt.file {objs : List Ob} {p : Ent} (h : FAt objs p) : fileOf objs (fent p) = some p.2 := by
  have h1 := h.s
  have h2 := h.w
  rw [← h.cs] at h1
  rw [← h.ds] at h2
  simp only [fent, fileOf, h.ob, h1, h2]
theorem files_all {objs : List Ob} : ∀ {fs : List Ent}, (∀ p ∈ fs, FAt objs p) → filesOf objs (fs.map fent) = some (fs.map (·.2))
  | [], _ => rfl
  | p :: fs, h => by
    simp only [List.map_cons, filesOf, (h p (List.mem_cons_self ..)).file, files_all fun q hq => h q (List.mem_cons_of_mem _ hq)]
theorem FAt.frame {objs objs2 : List Ob} {p : Ent} (h : FAt objs p) (hk : ∀ x ∈ p.2.ids, ∀ o, objs[x]? = some o → objs2[x]? = some o) : FAt objs2 p := by
  refine ⟨hk _ (by simp [FO.ids]) _ h.ob, ?_, ?_, h.cs, h.ds⟩
  · rcases rowOf_spec h.s with ⟨e1, e2, e3⟩ | ⟨r, full, e1, e2, hr, hl, hc⟩
    · rw [← h.s]; rw [e1]; rfl
    · exact rowOf_eq h.s fun q hq => by
        rw [e2] at hq; injection hq with hq; subst hq
        rw [hr]; exact hk _ (by simp [FO.ids, e2]) _ hr
  · rcases rowOf_spec h.w with ⟨e1, e2, e3⟩ | ⟨r, full, e1, e2, hr, hl, hc⟩
    · rw [← h.w]; rw [e1]; rfl
    · exact rowOf_eq h.w fun q hq => by
        rw [e2] at hq; injection hq with hq; subst hq
        rw [hr]; exact hk _ (by simp [FO.ids, e2]) _ hr
/-- Other objects change. -/
theorem DiskAt.keep {σ σ' : St} {r rm : Nat} {d : Dk} {fs : List Ent} {S : List Nat} (h : DiskAt σ r d rm fs) (hk : KS S σ σ') (hs : ∀ x ∈ foot r rm fs, x ∉ S) : DiskAt σ' r d rm fs := by
  refine ⟨hk.ko _ _ (hs _ (by simp [foot])) h.hd, hk.ko _ _ (hs _ (by simp [foot])) h.hm, fun p hp => (h.hf p hp).frame fun x hx o ho => hk.ko _ _ (hs _ ?_) ho, h.nd, h.pm⟩
  simp only [foot, List.mem_cons, List.mem_flatMap]
  exact .inr (.inr ⟨p, hp, hx⟩)
theorem DiskAt.lt {σ : St} {r rm : Nat} {d : Dk} {fs : List Ent} (h : DiskAt σ r d rm fs) : ∀ x ∈ foot r rm fs, x < σ.objs.length := by
  intro x hx
  simp only [foot, List.mem_cons, List.mem_flatMap] at hx
  rcases hx with rfl | rfl | ⟨p, hp, hx⟩
  · exact (List.getElem?_eq_some_iff.1 h.hd).1
  · exact (List.getElem?_eq_some_iff.1 h.hm).1
  · obtain ⟨cs, hc⟩ := ids_lt (h.hf p hp).file hx
    exact (List.getElem?_eq_some_iff.1 hc).1
/-- Only its head changes. -/
theorem DiskAt.head {σ : St} {r rm : Nat} {d d2 : Dk} {fs : List Ent} (h : DiskAt σ r d rm fs) (hf : d2.files = d.files) {σ' : St} (hs : σ' = ⟨σ.objs.set r (.cells (dcells rm d2)), σ.toks⟩) : DiskAt σ' r d2 rm fs ∧ KS (foot r rm fs) σ σ' := by
  subst hs
  have hr := (List.getElem?_eq_some_iff.1 h.hd).1
  have hn := h.nd
  unfold foot at hn
  rw [List.nodup_cons, List.nodup_cons] at hn
  have hne : ∀ x, x ∈ rm :: fs.flatMap (fun p => p.2.ids) → r ≠ x := fun x hx e => hn.1 (by rw [e]; exact hx)
  refine ⟨⟨by simp only; rw [List.getElem?_set_self hr], ?_, fun p hp => (h.hf p hp).frame fun x hx o ho => ?_, h.nd, by rw [hf]; exact h.pm⟩, KS.set (.inl (by simp [foot])) _⟩
  · simp only
    rw [List.getElem?_set_ne (hne _ (List.mem_cons_self ..))]; exact h.hm
  · simp only
    rw [List.getElem?_set_ne (hne _ (List.mem_cons_of_mem _ (List.mem_flatMap.2 ⟨p, hp, hx⟩)))]; exact ho
end Go.Proofs.Ytnbmfhnfmhgaaaa.Q

/- The small functions of a disk. -/
set_option linter.unusedVariables false
set_option linter.unusedSimpArgs false
set_option maxRecDepth 100000
namespace Go.Proofs.Ytnbmfhnfmhgaaaa.Q
open Go Go.RowKit Go.Proofs
theorem T9 : Try.prog.underlying 9 = some .string := by kernel_rfl
theorem G9 : isAggT Try.prog 9 = some false := by kernel_rfl
theorem zeroF : zeroT Try.prog 58 = some .nilp := by kernel_rfl
theorem keyD : keyDesc Try.prog 9 = some .string := by kernel_rfl
theorem ofNilP : ofVal (.pointer none) = some .nilp := by kernel_rfl
theorem ofInt (k : IntKind) (n : Int) : ofVal (.int k n) = some (.int k n) := rfl
/-- A file is found. -/
theorem find_no {fs : List Ent} {n : List UInt8} (h : ∀ p ∈ fs, p.1.name ≠ n) (i : Nat) : vfind .string (.str n) (fs.map fent) i = some none := by
  induction fs generalizing i with
  | nil => rfl
  | cons p fs ih =>
    have h1 := h p (List.mem_cons_self ..)
    have : keyEq .string (.str n) (.str p.1.name) = some false := by simp only [keyEq]; rw [decide_eq_false (fun e => h1 e.symm)]
    simp only [List.map_cons, vfind, fent, this]
    exact ih (fun q hq => h q (List.mem_cons_of_mem _ hq)) _
theorem find_yes {a b : List Ent} {p : Ent} (h : ∀ q ∈ a, q.1.name ≠ p.1.name) (i : Nat) : vfind .string (.str p.1.name) ((a ++ p :: b).map fent) i = some (some (i + a.length, .optr p.2.rf 0)) := by
  induction a generalizing i with
  | nil => simp [vfind, fent, keyEq]
  | cons q a ih =>
    have h1 := h q (List.mem_cons_self ..)
    have : keyEq .string (.str p.1.name) (.str q.1.name) = some false := by simp only [keyEq]; rw [decide_eq_false (fun e => h1 e.symm)]
    simp only [List.cons_append, List.map_cons, vfind, fent, this]
    have := ih (fun r hr => h r (List.mem_cons_of_mem _ hr)) (i + 1)
    rw [show i + (q :: a).length = i + 1 + a.length by rw [List.length_cons]; omega]
    exact this
/-- A file of the disk, and the others. -/
structure Has (d : Dk) (fs a b : List Ent) (p : Ent) (n : List UInt8) : Prop where
  e : fs = a ++ p :: b
  nm : p.1.name = n
  g : getF d.files n = some p.1
  a : ∀ q ∈ a, q.1.name ≠ n
  b : ∀ q ∈ b, q.1.name ≠ n
theorem DiskAt.names {σ : St} {r rm : Nat} {d : Dk} {fs : List Ent} (h : DiskAt σ r d rm fs) (hok : d.Ok) : (fs.map fun p => p.1.name).Nodup := by
  have h1 := (h.pm.map Fl.name).nodup_iff.2 hok.nodup
  rwa [List.map_map] at h1
theorem DiskAt.get_no {σ : St} {r rm : Nat} {d : Dk} {fs : List Ent} (h : DiskAt σ r d rm fs) {n : List UInt8} (hg : getF d.files n = none) : ∀ p ∈ fs, p.1.name ≠ n := fun p hp =>
  getF_none hg _ (h.pm.mem_iff.1 (List.mem_map_of_mem hp))
theorem DiskAt.get_yes {σ : St} {r rm : Nat} {d : Dk} {fs : List Ent} (h : DiskAt σ r d rm fs) (hok : d.Ok) {n : List UInt8} {f : Fl} (hg : getF d.files n = some f) : ∃ a p b, Has d fs a b p n := by
  obtain ⟨hf, hn⟩ := getF_some hg
  obtain ⟨p, hp, rfl⟩ := List.mem_map.1 (h.pm.mem_iff.2 hf)
  obtain ⟨a, b, rfl⟩ := List.append_of_mem hp
  have hd := h.names hok
  rw [List.map_append, List.map_cons, List.nodup_append, List.nodup_cons] at hd
  exact ⟨a, p, b, rfl, hn, hg, fun q hq e => hd.2.2 _ (List.mem_map_of_mem hq) _ (List.mem_cons_self ..) (by rw [e, hn]), fun q hq e => hd.2.1.1 (by rw [hn, ← e]; exact List.mem_map_of_mem hq)⟩
theorem DiskAt.look_no {σ : St} {r rm : Nat} {d : Dk} {fs : List Ent} (h : DiskAt σ r d rm fs) {n : List UInt8} (hg : getF d.files n = none) : vlookup Try.prog σ.objs 55 (.omap rm) (.str n) false = some .nilp := by
  simp only [vlookup, pTM, h.hm, keyD, zeroF, find_no (h.get_no hg)]
  rfl
theorem DiskAt.look_yes {σ : St} {r rm : Nat} {d : Dk} {fs a b : List Ent} {p : Ent} (h : DiskAt σ r d rm fs) {n : List UInt8} (hg : Has d fs a b p n) : vlookup Try.prog σ.objs 55 (.omap rm) (.str n) false = some (.optr p.2.rf 0) := by
  have hm := h.hm
  rw [hg.e] at hm
  have hv := find_yes (a := a) (b := b) (p := p) (by rw [hg.nm]; exact hg.a) 0
  rw [hg.nm] at hv
  simp only [vlookup, pTM, hm, keyD, zeroF, hv]
  rfl
theorem named_does (n : List UInt8) (σ : St) : Does Try.prog prims 46 [.str n] σ (.ret (.bool (namedD n))) σ := by
  apply k46_is.ret (by simp)
  have e : vlen Try.prog 9 (.str n) = some (.int .i64 (n.length : Nat)) := by simp [vlen, T9]
  simp only [k46_a, WK, vop, evAll, evOpt, evParts, vbuiltin, vun, vextract, Nat.reduceLT, Nat.reduceEqDiff, ↓reduceIte, reduceCtorEq, Nat.reduceAdd, Int.reduceLT, Int.reduceNeg, valloc_std, noSB, vhot, List.getD_cons_zero, e]
  by_cases h1 : 1 ≤ n.length
  · have h1' : (1 : Int) ≤ (n.length : Int) := by omega
    simp only [k46_a, WK, vop, evAll, evOpt, evParts, vbuiltin, vun, vextract, Nat.reduceLT, Nat.reduceEqDiff, ↓reduceIte, reduceCtorEq, Nat.reduceAdd, Int.reduceLT, Int.reduceNeg, valloc_std, noSB, vhot, h1', decide_true, List.getD_cons_zero, e]
    by_cases h2 : n.length ≤ 16
    · have h2' : (n.length : Int) ≤ 16 := by omega
      simp [k46_a, WK, vop, evAll, evOpt, evParts, vbuiltin, vun, vextract, Nat.reduceLT, Nat.reduceEqDiff, ↓reduceIte, reduceCtorEq, Nat.reduceAdd, Int.reduceLT, Int.reduceNeg, valloc_std, noSB, vhot, h2', namedD, h1, h2]
    · have h2' : ¬ (n.length : Int) ≤ 16 := by omega
      simp [k46_a, WK, vop, evAll, evOpt, evParts, vbuiltin, vun, vextract, Nat.reduceLT, Nat.reduceEqDiff, ↓reduceIte, reduceCtorEq, Nat.reduceAdd, Int.reduceLT, Int.reduceNeg, valloc_std, noSB, vhot, h2', namedD, h1, h2]
  · have h1' : ¬ (1 : Int) ≤ (n.length : Int) := by omega
    simp only [k46_a, WK, vop, evAll, evOpt, evParts, vbuiltin, vun, vextract, Nat.reduceLT, Nat.reduceEqDiff, ↓reduceIte, reduceCtorEq, Nat.reduceAdd, Int.reduceLT, Int.reduceNeg, valloc_std, noSB, vhot, h1', decide_false]
    simp [namedD, h1]
theorem ready_does {σ : St} {r rm : Nat} {d : Dk} {fs : List Ent} (h : DiskAt σ r d rm fs) (n : List UInt8) : Does Try.prog prims 29 [.optr r 0, .str n] σ (.ret (.int .i64 (readyD d n : Nat))) σ := by
  apply k29_is.ret (by simp)
  simp only [k29_a, WK, vop, evAll, evOpt, evParts, vbuiltin, vun, vextract, Nat.reduceLT, Nat.reduceEqDiff, ↓reduceIte, reduceCtorEq, Nat.reduceAdd, Int.reduceLT, Int.reduceNeg, valloc_std, noSB, vhot, List.getD_cons_zero, List.getD_cons_succ, eql_optr pTD]
  refine KD.ret (named_does n σ) ?_
  simp only [k29_a, WK, vop, evAll, evOpt, evParts, vbuiltin, vun, vextract, Nat.reduceLT, Nat.reduceEqDiff, ↓reduceIte, reduceCtorEq, Nat.reduceAdd, Int.reduceLT, Int.reduceNeg, valloc_std, noSB, vhot]
  have hl : vload Try.prog σ.objs 4 (.optr r 2) = some (.bool (!d.on)) := by rw [vload_obj h.hd G4]; rfl
  cases hn : namedD n with
  | false => simp [k29_a, WK, vop, evAll, evOpt, evParts, vbuiltin, vun, vextract, Nat.reduceLT, Nat.reduceEqDiff, ↓reduceIte, reduceCtorEq, Nat.reduceAdd, Int.reduceLT, Int.reduceNeg, valloc_std, noSB, vhot, readyD, hn]
  | true =>
    simp only [k29_a, WK, vop, evAll, evOpt, evParts, vbuiltin, vun, vextract, Nat.reduceLT, Nat.reduceEqDiff, ↓reduceIte, reduceCtorEq, Nat.reduceAdd, Int.reduceLT, Int.reduceNeg, valloc_std, noSB, vhot, Bool.not_true, pFA r 2 (by omega), hl]
    cases ho : d.on <;> simp [k29_a, WK, vop, evAll, evOpt, evParts, vbuiltin, vun, vextract, Nat.reduceLT, Nat.reduceEqDiff, ↓reduceIte, reduceCtorEq, Nat.reduceAdd, Int.reduceLT, Int.reduceNeg, valloc_std, noSB, vhot, readyD, hn, ho]
theorem there_no {σ : St} {r rm : Nat} {d : Dk} {fs : List Ent} (h : DiskAt σ r d rm fs) (n : List UInt8) (hz : thereD d n ≠ 0) : Does Try.prog prims 35 [.optr r 0, .str n] σ (.ret (.tuple [.nilp, .int .i64 (thereD d n : Nat)])) σ := by
  apply k35_is.ret (by simp)
  simp only [k35_a, WK, vop, evAll, evOpt, evParts, vbuiltin, vun, vextract, Nat.reduceLT, Nat.reduceEqDiff, ↓reduceIte, reduceCtorEq, Nat.reduceAdd, Int.reduceLT, Int.reduceNeg, valloc_std, noSB, vhot, List.getD_cons_zero, List.getD_cons_succ, ofNilP]
  refine KD.ret (ready_does h n) ?_
  have hl : vload Try.prog σ.objs 55 (.optr r 0) = some (.omap rm) := by rw [vload_obj h.hd pGM]; rfl
  simp only [k35_a, WK, vop, evAll, evOpt, evParts, vbuiltin, vun, vextract, Nat.reduceLT, Nat.reduceEqDiff, ↓reduceIte, reduceCtorEq, Nat.reduceAdd, Int.reduceLT, Int.reduceNeg, valloc_std, noSB, vhot]
  unfold thereD at hz ⊢
  by_cases hr : readyD d n = 0
  · have hr' : ((readyD d n : Nat) : Int) = 0 := by omega
    have hr2 : ¬ readyD d n ≠ 0 := fun h => h hr
    rw [if_neg hr2] at hz ⊢
    cases hg : getF d.files n with
    | some f => rw [hg] at hz; exact absurd rfl hz
    | none =>
      simp only [k35_a, WK, vop, evAll, evOpt, evParts, vbuiltin, vun, vextract, Nat.reduceLT, Nat.reduceEqDiff, ↓reduceIte, reduceCtorEq, Nat.reduceAdd, Int.reduceLT, Int.reduceNeg, valloc_std, noSB, vhot, hr', pFA r 0 (by omega), hl, h.look_no hg, eql_nilp pTF, ofNilP]
      simp
  · have hr' : ¬ ((readyD d n : Nat) : Int) = 0 := by omega
    rw [if_pos hr]
    simp only [k35_a, WK, vop, evAll, evOpt, evParts, vbuiltin, vun, vextract, Nat.reduceLT, Nat.reduceEqDiff, ↓reduceIte, reduceCtorEq, Nat.reduceAdd, Int.reduceLT, Int.reduceNeg, valloc_std, noSB, vhot, hr', ofNilP]
theorem there_yes {σ : St} {r rm : Nat} {d : Dk} {fs a b : List Ent} {p : Ent} (h : DiskAt σ r d rm fs) {n : List UInt8} (hr : readyD d n = 0) (hg : Has d fs a b p n) : Does Try.prog prims 35 [.optr r 0, .str n] σ (.ret (.tuple [.optr p.2.rf 0, .int .i64 0])) σ := by
  apply k35_is.ret (by simp)
  have hl : vload Try.prog σ.objs 55 (.optr r 0) = some (.omap rm) := by rw [vload_obj h.hd pGM]; rfl
  have hr' : ((readyD d n : Nat) : Int) = 0 := by omega
  simp only [k35_a, WK, vop, evAll, evOpt, evParts, vbuiltin, vun, vextract, Nat.reduceLT, Nat.reduceEqDiff, ↓reduceIte, reduceCtorEq, Nat.reduceAdd, Int.reduceLT, Int.reduceNeg, valloc_std, noSB, vhot, List.getD_cons_zero, List.getD_cons_succ, ofNilP]
  refine KD.ret (ready_does h n) ?_
  simp only [k35_a, WK, vop, evAll, evOpt, evParts, vbuiltin, vun, vextract, Nat.reduceLT, Nat.reduceEqDiff, ↓reduceIte, reduceCtorEq, Nat.reduceAdd, Int.reduceLT, Int.reduceNeg, valloc_std, noSB, vhot, hr', pFA r 0 (by omega), hl, h.look_yes hg, eql_optr pTF, ofNilP]
theorem there_ok {σ : St} {r rm : Nat} {d : Dk} {fs : List Ent} (h : DiskAt σ r d rm fs) (hok : d.Ok) {n : List UInt8} (hz : thereD d n = 0) : ∃ a b p, Has d fs a b p n ∧ readyD d n = 0 := by
  unfold thereD at hz
  split at hz
  · rename_i h1; exact absurd hz h1
  · rename_i h1
    have h1 : readyD d n = 0 := Classical.byContradiction h1
    cases hg : getF d.files n with
    | none => rw [hg] at hz; cases hz
    | some f =>
      obtain ⟨a, p, b, hA⟩ := h.get_yes hok hg
      exact ⟨a, b, p, hA, h1⟩
/-- A raw write. -/
theorem raw_does {σ : St} {r rm : Nat} {d : Dk} {fs : List Ent} (h : DiskAt σ r d rm fs) (hok : d.Ok) (hw : d.writes < 4611686018427387904) :
    ∃ σ', Does Try.prog prims 31 [.optr r 0] σ (.ret (.bool (rawD d).1)) σ' ∧ DiskAt σ' r (rawD d).2 rm fs ∧ KS (foot r rm fs) σ σ' ∧ σ'.objs.length = σ.objs.length := by
  have key : ∃ q σ', Does Try.prog prims 31 [.optr r 0] σ q σ' ∧ (q = .ret (.bool (rawD d).1) ∧ DiskAt σ' r (rawD d).2 rm fs ∧ KS (foot r rm fs) σ σ' ∧ σ'.objs.length = σ.objs.length) := by
    apply k31_is.does (by simp)
    have hww : IntKind.i64.wrap ((d.writes : Int) + 1) = ((d.writes + 1 : Nat) : Int) := by rw [show (d.writes : Int) + 1 = ((d.writes + 1 : Nat) : Int) by omega]; exact wrap_nat (by omega)
    have l1 : vload Try.prog σ.objs 3 (.optr r 3) = some (.int .i64 (d.writes : Nat)) := by rw [vload_obj h.hd G3]; rfl
    obtain ⟨d1, hd1⟩ : ∃ d1 : Dk, d1 = { d with writes := d.writes + 1 } := ⟨_, rfl⟩
    obtain ⟨s1, hs1⟩ : ∃ s1 : St, s1 = ⟨σ.objs.set r (.cells (dcells rm d1)), σ.toks⟩ := ⟨_, rfl⟩
    have st1 : vstore Try.prog σ 3 (.optr r 3) (.int .i64 ((d.writes + 1 : Nat) : Int)) = some s1 := by rw [vstore_obj h.hd S3 rfl (by simp [dcells]), hs1, hd1]; rfl
    obtain ⟨D1, K1⟩ := h.head (d2 := d1) (by rw [hd1]) hs1
    have L1 : s1.objs.length = σ.objs.length := by rw [hs1]; simp
    have l2 : vload Try.prog s1.objs 3 (.optr r 4) = some (.int .i64 (d.armed : Nat)) := by rw [vload_obj D1.hd G3, hd1]; rfl
    simp only [k31_a, WK, vop, evAll, evOpt, evParts, vbuiltin, vun, vextract, Nat.reduceLT, Nat.reduceEqDiff, ↓reduceIte, reduceCtorEq, Nat.reduceAdd, Int.reduceLT, Int.reduceNeg, valloc_std, noSB, vhot, List.getD_cons_zero, pFA r 3 (by omega), pFA r 4 (by omega), l1, hww, st1, l2]
    by_cases ha : d.armed = 0
    · have ha' : ((d.armed : Nat) : Int) = 0 := by omega
      have e : rawD d = (false, d1) := by simp [rawD, ha, hd1]
      simp only [k31_a, WK, vop, evAll, evOpt, evParts, vbuiltin, vun, vextract, Nat.reduceLT, Nat.reduceEqDiff, ↓reduceIte, reduceCtorEq, Nat.reduceAdd, Int.reduceLT, Int.reduceNeg, valloc_std, noSB, vhot, ha', decide_true, e]
      exact ⟨D1, K1, L1⟩
    · have ha' : ¬ ((d.armed : Nat) : Int) = 0 := by omega
      have hwa : IntKind.i64.wrap ((d.armed : Int) - 1) = ((d.armed - 1 : Nat) : Int) := by
        have := hok.arm
        rw [show (d.armed : Int) - 1 = ((d.armed - 1 : Nat) : Int) by omega]; exact wrap_nat (by omega)
      obtain ⟨d2, hd2⟩ : ∃ d2 : Dk, d2 = { d with writes := d.writes + 1, armed := d.armed - 1 } := ⟨_, rfl⟩
      obtain ⟨s2, hs2⟩ : ∃ s2 : St, s2 = ⟨s1.objs.set r (.cells (dcells rm d2)), s1.toks⟩ := ⟨_, rfl⟩
      have st2 : vstore Try.prog s1 3 (.optr r 4) (.int .i64 ((d.armed - 1 : Nat) : Int)) = some s2 := by rw [vstore_obj D1.hd S3 rfl (by simp [dcells]), hs2, hd1, hd2]; rfl
      obtain ⟨D2, K2⟩ := D1.head (d2 := d2) (by rw [hd1, hd2]) hs2
      have L2 : s2.objs.length = σ.objs.length := by rw [hs2]; simp [L1]
      have l3 : vload Try.prog s2.objs 3 (.optr r 4) = some (.int .i64 ((d.armed - 1 : Nat) : Int)) := by rw [vload_obj D2.hd G3, hd2]; rfl
      have e : rawD d = (decide (d.armed = 1), d2) := by simp [rawD, ha, hd2]
      simp only [k31_a, WK, vop, evAll, evOpt, evParts, vbuiltin, vun, vextract, Nat.reduceLT, Nat.reduceEqDiff, ↓reduceIte, reduceCtorEq, Nat.reduceAdd, Int.reduceLT, Int.reduceNeg, valloc_std, noSB, vhot, pFA r 3 (by omega), pFA r 4 (by omega), ha', decide_false, hwa, st2, l3, l2, e]
      refine ⟨?_, D2, K1.trans' K2, L2⟩
      congr 2
      by_cases h1 : d.armed = 1
      · simp [h1]
      · have : ¬ ((d.armed - 1 : Nat) : Int) = 0 := by omega
        simp [h1]; omega
  obtain ⟨q, σ', h1, rfl, h2⟩ := key
  exact ⟨σ', h1, h2⟩
end Go.Proofs.Ytnbmfhnfmhgaaaa.Q

/- The power goes. -/
set_option linter.unusedVariables false
set_option linter.unusedSimpArgs false
set_option maxRecDepth 100000
namespace Go.Proofs.Ytnbmfhnfmhgaaaa.Q
open Go Go.RowKit Go.Proofs
theorem Does.prim {f : FuncId} {vs : List V} {σ : St} {v : V} {σ' : St} (hi : prims.is f = true) (h : prims.f f vs σ = some (v, σ')) : Does Try.prog prims f vs σ (.ret v) σ' := ⟨1, by rw [vcall, if_pos hi, h]; rfl⟩
def w1 (k : Int) (b : Nat) (f : FO) : List (Nat × Ob) :=
  if f.kept k = [] then [(f.rf, .cells [f.s, .nils])] else
    f.rs.toList.map (·, Ob.dead) ++ [(f.rf, .cells [.hslice b 0 1 (f.cs.length + (f.kept k).length), .nils]), (b, .cells (f.cs ++ f.kept k))]
def wAll (k : Int) : Nat → List FO → List (Nat × Ob)
  | _, [] => []
  | b, f :: fos => w1 k b f ++ wAll k (b + 1) fos
def off1 (k : Int) (b : Nat) (p : Ent) : Ent := (offF k p.1, if p.2.kept k = [] then { p.2 with w := .nils, rw := none, ds := [] } else { rf := p.2.rf, s := .hslice b 0 1 (p.2.cs.length + (p.2.kept k).length), rs := some b, cs := p.2.cs ++ p.2.kept k, w := .nils, rw := none, ds := [] })
def offL (k : Int) : Nat → List Ent → List Ent
  | _, [] => []
  | b, p :: fs => off1 k b p :: offL k (b + 1) fs
theorem fwrites_all (k : Int) : ∀ (fos : List FO) (b : Nat), (List.range fos.length).flatMap (fwrites k b fos) = wAll k b fos
  | [], b => rfl
  | f :: fos, b => by
    rw [List.length_cons, List.range_succ_eq_map, List.flatMap_cons, List.flatMap_map, wAll, ← fwrites_all k fos (b + 1)]
    congr 1
    · by_cases hk : f.kept k = []
      · rw [fwrites_none (f := f) rfl hk, w1, if_pos hk]
      · rw [fwrites_some (f := f) rfl hk, w1, if_neg hk]; rfl
    refine congrArg (fun g => List.flatMap g (List.range fos.length)) (funext fun i => ?_)
    show fwrites k b (f :: fos) (i + 1) = fwrites k (b + 1) fos i
    by_cases hk : (fos.getD i default).kept k = []
    · rw [fwrites_none (fos := f :: fos) (i := i + 1) (f := fos.getD i default) (by simp) hk, fwrites_none (fos := fos) (i := i) (f := fos.getD i default) rfl hk]
    · rw [fwrites_some (fos := f :: fos) (i := i + 1) (f := fos.getD i default) (by simp) hk, fwrites_some (fos := fos) (i := i) (f := fos.getD i default) rfl hk, show b + (i + 1) = b + 1 + i by omega]
theorem off1_ids {k : Int} {b : Nat} {p : Ent} : ∀ x ∈ (off1 k b p).2.ids, x ∈ p.2.ids ∨ x = b := by
  intro x hx
  simp only [off1] at hx
  split at hx
  · simp only [FO.ids, List.mem_cons, List.mem_append] at hx ⊢
    rcases hx with h | h | h
    · exact .inl (.inl h)
    · exact .inl (.inr (.inl h))
    · cases h
  · simp only [FO.ids, List.mem_cons, List.mem_append] at hx ⊢
    rcases hx with h | h | h
    · exact .inl (.inl h)
    · simp at h; exact .inr h
    · cases h
theorem off1_nodup {k : Int} {b : Nat} {p : Ent} (h : p.2.ids.Nodup) (hb : ∀ x ∈ p.2.ids, x < b) : (off1 k b p).2.ids.Nodup := by
  have hrf : p.2.rf < b := hb _ (by simp [FO.ids])
  simp only [off1]
  split
  · simp only [FO.ids, List.nodup_cons] at h ⊢
    refine ⟨fun hx => h.1 ?_, ?_⟩
    · simp only [Option.toList, List.append_nil, List.mem_append] at hx ⊢
      exact .inl hx
    · have := (List.nodup_append.1 h.2).1
      simpa using this
  · simp only [FO.ids, Option.toList, List.append_nil, List.nodup_cons, List.mem_singleton]
    exact ⟨by omega, by simp, by simp⟩
theorem offL_ids {k : Int} : ∀ {fs : List Ent} {b : Nat}, ∀ x ∈ (offL k b fs).flatMap (fun p => p.2.ids), x ∈ fs.flatMap (fun p => p.2.ids) ∨ b ≤ x
  | [], b, x, hx => by simp [offL] at hx
  | p :: fs, b, x, hx => by
    simp only [offL, List.flatMap_cons, List.mem_append] at hx ⊢
    rcases hx with h | h
    · rcases off1_ids x h with h | h
      · exact .inl (.inl h)
      · exact .inr (by omega)
    · rcases offL_ids x h with h | h
      · exact .inl (.inr h)
      · exact .inr (by omega)
theorem offL_nodup {k : Int} : ∀ {fs : List Ent} {b : Nat}, (fs.flatMap fun p => p.2.ids).Nodup → (∀ x ∈ fs.flatMap (fun p => p.2.ids), x < b) → ((offL k b fs).flatMap fun p => p.2.ids).Nodup
  | [], b, _, _ => by simp [offL]
  | p :: fs, b, h, hb => by
    simp only [offL, List.flatMap_cons] at h hb ⊢
    rw [List.nodup_append] at h ⊢
    have hb1 : ∀ x ∈ p.2.ids, x < b := fun x hx => hb x (List.mem_append_left _ hx)
    have hb2 : ∀ x ∈ fs.flatMap (fun p => p.2.ids), x < b := fun x hx => hb x (List.mem_append_right _ hx)
    refine ⟨off1_nodup h.1 hb1, offL_nodup h.2.1 fun x hx => by have := hb2 x hx; omega, fun x hx y hy e => ?_⟩
    subst e
    rcases off1_ids x hx with h1 | h1 <;> rcases offL_ids x hy with h2 | h2
    · exact h.2.2 x h1 x h2 rfl
    · have := hb1 x h1; omega
    · have := hb2 x h2; omega
    · omega
theorem bytes_take (l : List UInt8) (n : Nat) : (l.map byteV).take n = (l.take n).map byteV := (List.map_take ..).symm
theorem w1_at {k : Int} {b : Nat} {O : List Ob} {p : Ent} (h : FAt O p) (hn : p.2.ids.Nodup) (hb : ∀ x ∈ p.2.ids, x < b) (hl : b < O.length) :
    FAt (applyW (w1 k b p.2) O) (off1 k b p) ∧ ∀ q, q ∉ p.2.ids → q ≠ b → (applyW (w1 k b p.2) O)[q]? = O[q]? := by
  have hrf : p.2.rf < b := hb _ (by simp [FO.ids])
  have hkm : p.2.kept k = (p.1.wait.take k.toNat).map byteV := by rw [FO.kept, h.ds, bytes_take]
  by_cases hk : p.2.kept k = []
  · have e : w1 k b p.2 = [(p.2.rf, .cells [p.2.s, .nils])] := by unfold w1; rw [if_pos hk]
    have e2 : off1 k b p = (offF k p.1, { p.2 with w := .nils, rw := none, ds := [] }) := by unfold off1; rw [if_pos hk]
    have hw0 : p.1.wait.take k.toNat = [] := by rw [hk] at hkm; exact List.map_eq_nil_iff.1 hkm.symm
    rw [e, e2]
    simp only [applyW, List.foldl_cons, List.foldl_nil]
    refine ⟨⟨by simp only; rw [List.getElem?_set_self (by omega)], ?_, rfl, ?_, rfl⟩, fun q hq _ => ?_⟩
    · simp only [offF, hw0, List.append_nil]
      refine rowOf_eq h.s fun q hq => ?_
      rw [List.getElem?_set_ne]
      intro e3
      simp only [FO.ids, List.nodup_cons] at hn
      exact hn.1 (by simp [hq, e3])
    · simp only [offF, hw0, List.append_nil]; exact h.cs
    · rw [List.getElem?_set_ne]
      intro e3
      exact hq (by simp [FO.ids, e3])
  · have e : w1 k b p.2 = p.2.rs.toList.map (·, Ob.dead) ++ [(p.2.rf, .cells [.hslice b 0 1 (p.2.cs.length + (p.2.kept k).length), .nils]), (b, .cells (p.2.cs ++ p.2.kept k))] := by unfold w1; rw [if_neg hk]
    have e2 : off1 k b p = (offF k p.1, { rf := p.2.rf, s := .hslice b 0 1 (p.2.cs.length + (p.2.kept k).length), rs := some b, cs := p.2.cs ++ p.2.kept k, w := .nils, rw := none, ds := [] }) := by unfold off1; rw [if_neg hk]
    have hcat : p.2.cs ++ p.2.kept k = (p.1.safe ++ p.1.wait.take k.toNat).map byteV := by rw [h.cs, hkm, List.map_append]
    rw [e, e2, applyW_append]
    obtain ⟨O1, hO1⟩ : ∃ O1, O1 = applyW (p.2.rs.toList.map (·, Ob.dead)) O := ⟨_, rfl⟩
    have hl1 : O1.length = O.length := by rw [hO1, applyW_len]
    rw [← hO1]
    simp only [applyW, List.foldl_cons, List.foldl_nil]
    refine ⟨⟨?_, ?_, rfl, ?_, rfl⟩, fun q hq hqb => ?_⟩
    · simp only; rw [List.getElem?_set_ne (by omega), List.getElem?_set_self (by omega)]
    · simp only [rowOf]
      rw [List.getElem?_set_self (by rw [List.length_set]; omega)]
      simp only [offF, List.length_append, Nat.le_refl, ↓reduceIte]
      rw [List.take_of_length_le (by simp), hcat]
    · simp only [offF]; exact hcat
    · rw [List.getElem?_set_ne (Ne.symm hqb), List.getElem?_set_ne, hO1, applyW_ne]
      · intro hm
        rw [List.map_map, List.mem_map] at hm
        obtain ⟨x, hx, rfl⟩ := hm
        exact hq (by simp only [FO.ids, List.mem_cons, List.mem_append]; exact .inr (.inl hx))
      · intro e3
        exact hq (by simp [FO.ids, e3])
theorem offW {k : Int} : ∀ {fs : List Ent} {b : Nat} {O : List Ob}, (fs.flatMap fun p => p.2.ids).Nodup → (∀ x ∈ fs.flatMap (fun p => p.2.ids), x < b) → b + fs.length ≤ O.length → (∀ p ∈ fs, FAt O p) →
    (∀ p ∈ offL k b fs, FAt (applyW (wAll k b (fs.map (·.2))) O) p) ∧ ∀ q, q ∉ fs.flatMap (fun p => p.2.ids) → q < b → (applyW (wAll k b (fs.map (·.2))) O)[q]? = O[q]?
  | [], b, O, _, _, _, _ => ⟨fun p hp => by simp [offL] at hp, fun q _ _ => rfl⟩
  | p :: fs, b, O, hn, hb, hl, hF => by
    simp only [List.flatMap_cons, List.length_cons] at hn hb hl
    rw [List.nodup_append] at hn
    have hb1 : ∀ x ∈ p.2.ids, x < b := fun x hx => hb x (List.mem_append_left _ hx)
    have hb2 : ∀ x ∈ fs.flatMap (fun p => p.2.ids), x < b := fun x hx => hb x (List.mem_append_right _ hx)
    obtain ⟨g1, g2⟩ := w1_at (k := k) (hF p (List.mem_cons_self ..)) hn.1 hb1 (by omega)
    obtain ⟨O1, hO1⟩ : ∃ O1, O1 = applyW (w1 k b p.2) O := ⟨_, rfl⟩
    have hl1 : O1.length = O.length := by rw [hO1, applyW_len]
    rw [← hO1] at g1 g2
    have hF1 : ∀ q ∈ fs, FAt O1 q := fun q hq => (hF q (List.mem_cons_of_mem _ hq)).frame fun x hx o ho => by
      have hxm : x ∈ fs.flatMap (fun p => p.2.ids) := List.mem_flatMap.2 ⟨q, hq, hx⟩
      have := hb2 x hxm
      rw [g2 x (fun h => hn.2.2 x h x hxm rfl) (by omega)]
      exact ho
    obtain ⟨i1, i2⟩ := offW (k := k) (b := b + 1) (O := O1) hn.2.1 (fun x hx => by have := hb2 x hx; omega) (by omega) hF1
    simp only [List.map_cons, wAll, applyW_append, offL, ← hO1]
    refine ⟨fun q hq => ?_, fun q hq hqb => ?_⟩
    · rcases List.mem_cons.1 hq with rfl | hq
      · refine g1.frame fun x hx o ho => ?_
        rw [i2 x ?_ ?_]
        · exact ho
        · intro hxm
          rcases off1_ids x hx with h | h
          · exact hn.2.2 x h x hxm rfl
          · have := hb2 x hxm; omega
        · rcases off1_ids x hx with h | h
          · have := hb1 x h; omega
          · omega
      · exact i1 q hq
    · rw [List.flatMap_cons, List.mem_append] at hq
      rw [i2 q (fun h => hq (.inr h)) (by omega), g2 q (fun h => hq (.inl h)) (by omega)]
theorem offL_ent {k : Int} : ∀ {fs : List Ent} {b : Nat}, (offL k b fs).map fent = fs.map fent
  | [], b => rfl
  | p :: fs, b => by
    simp only [offL, List.map_cons, offL_ent (k := k) (fs := fs) (b := b + 1)]
    congr 1
    simp only [fent, off1, offF]
    split <;> rfl
theorem offL_fst {k : Int} : ∀ {fs : List Ent} {b : Nat}, (offL k b fs).map (·.1) = (fs.map (·.1)).map (offF k)
  | [], b => rfl
  | p :: fs, b => by
    simp only [offL, List.map_cons, offL_fst (k := k) (fs := fs) (b := b + 1)]
    rfl
theorem off_does {σ : St} {r rm : Nat} {d : Dk} {fs : List Ent} (h : DiskAt σ r d rm fs) (hok : d.Ok) (k : Int) :
    ∃ σ' fs', Does Try.prog prims 15 [.optr r 0, .int .i64 k] σ (.ret (.tuple [])) σ' ∧ DiskAt σ' r (offD k d) rm fs' ∧ KS (foot r rm fs) σ σ' ∧ ∀ x ∈ foot r rm fs', x ∈ foot r rm fs ∨ σ.objs.length ≤ x := by
  cases hon : d.on with
  | false =>
    refine ⟨σ, fs, Does.prim (by kernel_rfl) ?_, by simp only [offD, hon]; exact h, KS.refl _ _, fun x hx => .inl hx⟩
    simp only [prims]
    rw [if_neg (by decide +kernel), if_pos trivial]
    simp only [offP, h.hd, dcells, hon, Bool.not_false, ↓reduceIte]
  | true =>
    have hnd := h.nd
    unfold foot at hnd
    rw [List.nodup_cons, List.nodup_cons] at hnd
    have hlt := h.lt
    have hids : ∀ x ∈ fs.flatMap (fun p => p.2.ids), x < σ.objs.length := fun x hx => hlt x (by simp only [foot, List.mem_cons]; exact .inr (.inr hx))
    have hrl := hlt r (by simp [foot])
    have hml := hlt rm (by simp [foot])
    have hne : r ≠ rm := fun e => hnd.1 (by rw [e]; exact List.mem_cons_self ..)
    have hfm : (fs.map (·.2)).flatMap FO.ids = fs.flatMap fun p => p.2.ids := by rw [List.flatMap_map]
    obtain ⟨O, hO⟩ : ∃ O, O = σ.objs ++ [Ob.dead] ++ List.replicate fs.length Ob.unb := ⟨_, rfl⟩
    have hOl : O.length = σ.objs.length + 1 + fs.length := by rw [hO]; simp; omega
    have hOo : ∀ q, q < σ.objs.length → O[q]? = σ.objs[q]? := fun q hq => by
      rw [hO, List.getElem?_append_left (by simp; omega), List.getElem?_append_left hq]
    have hFO : ∀ p ∈ fs, FAt O p := fun p hp => (h.hf p hp).frame fun x hx o ho => by
      rw [hOo x (hids x (List.mem_flatMap.2 ⟨p, hp, hx⟩))]; exact ho
    obtain ⟨i1, i2⟩ := offW (k := k) (b := σ.objs.length + 1) (O := O) hnd.2.2 (fun x hx => by have := hids x hx; omega) (by omega) hFO
    obtain ⟨O1, hO1⟩ : ∃ O1, O1 = applyW (wAll k (σ.objs.length + 1) (fs.map (·.2))) O := ⟨_, rfl⟩
    have hO1l : O1.length = O.length := by rw [hO1, applyW_len]
    rw [← hO1] at i1 i2
    have hrn : r ∉ fs.flatMap fun p => p.2.ids := fun hx => hnd.1 (List.mem_cons_of_mem _ hx)
    have hd2 : offD k d = { d with files := d.files.map (offF k), on := false, armed := 0 } := by simp [offD, hon]
    have hids2 : ∀ x ∈ (offL k (σ.objs.length + 1) fs).flatMap (fun p => p.2.ids), x ∈ fs.flatMap (fun p => p.2.ids) ∨ σ.objs.length + 1 ≤ x := fun x hx => offL_ids x hx
    refine ⟨⟨O1.set r (.cells (dcells rm (offD k d))), σ.toks⟩, offL k (σ.objs.length + 1) fs, Does.prim (by kernel_rfl) ?_, ⟨?_, ?_, fun p hp => (i1 p hp).frame fun x hx o ho => ?_, ?_, ?_⟩, ⟨fun q o hq ho => ?_, ?_, Nat.le_refl _, fun _ h => h⟩, fun x hx => ?_⟩
    · simp only [prims]
      rw [if_neg (by decide +kernel), if_pos trivial]
      have hc : (((fs.map (·.2)).flatMap FO.ids).Nodup ∧ r ∉ (fs.map (·.2)).flatMap FO.ids ∧ ((fs.map (·.2)).all fun f => (f.kept k).all one && decide (f.cs.length + (f.kept k).length ≤ 140737488355328)) = true) := by
        rw [hfm]
        refine ⟨hnd.2.2, hrn, ?_⟩
        rw [List.all_eq_true]
        intro f hf
        obtain ⟨p, hp, rfl⟩ := List.mem_map.1 hf
        have hF := h.hf p hp
        have hsm := hok.sm p.1 (h.pm.mem_iff.1 (List.mem_map_of_mem hp))
        have hkm : p.2.kept k = (p.1.wait.take k.toNat).map byteV := by rw [FO.kept, hF.ds, bytes_take]
        rw [hkm, hF.cs, Bool.and_eq_true, decide_eq_true_eq]
        refine ⟨byteV_one _, ?_⟩
        simp only [Fl.len, List.length_map, List.length_take] at hsm ⊢
        omega
      simp only [offP, h.hd, dcells, hon, Bool.not_true, Bool.false_eq_true, ↓reduceIte, h.hm, files_all h.hf]
      rw [if_pos hc, List.length_map, ← hO]
      have := fwrites_all k (fs.map (·.2)) (σ.objs.length + 1)
      rw [List.length_map] at this
      rw [this, ← hO1, hd2]
      rfl
    · simp only; rw [List.getElem?_set_self (by omega)]
    · simp only
      rw [List.getElem?_set_ne hne, i2 rm hnd.2.1 (by omega), hOo rm hml, offL_ent]
      exact h.hm
    · simp only
      rw [List.getElem?_set_ne]
      · exact ho
      · rintro rfl
        rcases hids2 r (List.mem_flatMap.2 ⟨p, hp, hx⟩) with h | h
        · exact hrn h
        · omega
    · unfold foot
      rw [List.nodup_cons, List.nodup_cons]
      refine ⟨fun hx => ?_, fun hx => ?_, offL_nodup hnd.2.2 fun x hx => by have := hids x hx; omega⟩
      · rcases List.mem_cons.1 hx with e | hx
        · exact hne e
        · rcases hids2 _ hx with h | h
          · exact hrn h
          · omega
      · rcases hids2 _ hx with h | h
        · exact hnd.2.1 h
        · omega
    · rw [offL_fst, hd2]
      exact h.pm.map _
    · have hql := (List.getElem?_eq_some_iff.1 ho).1
      simp only [foot, List.mem_cons, not_or] at hq
      simp only
      rw [List.getElem?_set_ne (Ne.symm hq.1), i2 q hq.2.2 (by omega), hOo q hql]
      exact ho
    · simp only [List.length_set]; omega
    · simp only [foot, List.mem_cons] at hx ⊢
      rcases hx with h | h | h
      · exact .inl (.inl h)
      · exact .inl (.inr (.inl h))
      · rcases hids2 x h with h | h
        · exact .inl (.inr (.inr h))
        · exact .inr (by omega)
theorem ends_does {σ : St} {r rm : Nat} {d : Dk} {fs : List Ent} (h : DiskAt σ r d rm fs) (hok : d.Ok) :
    ∃ σ' fs', Does Try.prog prims 32 [.optr r 0] σ (.ret (.int .i64 20)) σ' ∧ DiskAt σ' r (offD d.keep d) rm fs' ∧ KS (foot r rm fs) σ σ' ∧ ∀ x ∈ foot r rm fs', x ∈ foot r rm fs ∨ σ.objs.length ≤ x := by
  obtain ⟨σ', fs', h1, h2, h3, h4⟩ := off_does h hok d.keep
  refine ⟨σ', fs', ?_, h2, h3, h4⟩
  have key : ∃ q s, Does Try.prog prims 32 [.optr r 0] σ q s ∧ (q = .ret (.int .i64 20) ∧ s = σ') := by
    apply k32_is.does (by simp)
    have l1 : vload Try.prog σ.objs 3 (.optr r 5) = some (.int .i64 d.keep) := by rw [vload_obj h.hd G3]; rfl
    simp only [k32_a, WK, vop, evAll, evOpt, evParts, vbuiltin, vun, vextract, Nat.reduceLT, Nat.reduceEqDiff, ↓reduceIte, reduceCtorEq, Nat.reduceAdd, Int.reduceLT, Int.reduceNeg, valloc_std, noSB, vhot, List.getD_cons_zero, pFA r 5 (by omega), l1]
    refine KD.ret h1 ?_
    simp only [k32_a, WK, vop, evAll, evOpt, evParts, vbuiltin, vun, vextract, Nat.reduceLT, Nat.reduceEqDiff, ↓reduceIte, reduceCtorEq, Nat.reduceAdd, Int.reduceLT, Int.reduceNeg, valloc_std, noSB, vhot]
  obtain ⟨q, s, h5, rfl, rfl⟩ := key
  exact h5
end Go.Proofs.Ytnbmfhnfmhgaaaa.Q

set_option linter.unusedVariables false
set_option linter.unusedSimpArgs false
set_option maxRecDepth 100000
namespace Go.Proofs.Ytnbmfhnfmhgaaaa.Q
open Go Go.RowKit Go.Proofs
/-- v is a written row: the whole of object r, that has these bytes. -/
def HB (σ : St) (v : V) (r : Nat) (bs : List UInt8) : Prop := v = .hslice r 0 1 bs.length ∧ σ.objs[r]? = some (.cells (bs.map byteV))
theorem HB.keep {σ σ' : St} {v : V} {r : Nat} {bs : List UInt8} (h : HB σ v r bs) (hk : Keep σ σ') : HB σ' v r bs := ⟨h.1, hk.1 _ _ h.2⟩
theorem HB.lt {σ : St} {v : V} {r : Nat} {bs : List UInt8} (h : HB σ v r bs) : r < σ.objs.length := (List.getElem?_eq_some_iff.1 h.2).1
/-- A row of bytes, written or not. -/
def RB (σ : St) (v : V) (bs : List UInt8) : Prop := BtsV v bs ∨ ∃ r off cs, v = .hslice r off 1 bs.length ∧ σ.objs[r]? = some (.cells cs) ∧ off + bs.length ≤ cs.length ∧ (cs.drop off).take bs.length = bs.map byteV
theorem HB.rb {σ : St} {v : V} {r : Nat} {bs : List UInt8} (h : HB σ v r bs) : RB σ v bs := .inr ⟨r, 0, _, h.1, h.2, by simp, by rw [List.drop_zero]; exact List.take_of_length_le (by simp)⟩
theorem RB.keep {σ σ' : St} {v : V} {bs : List UInt8} (h : RB σ v bs) (hk : Keep σ σ') : RB σ' v bs := by
  rcases h with h | ⟨r, off, cs, h1, h2, h3⟩
  · exact .inl h
  · exact .inr ⟨r, off, cs, h1, hk.1 _ _ h2, h3⟩
theorem RB.len {σ : St} {v : V} {bs : List UInt8} (h : RB σ v bs) : vlen Try.prog 28 v = some (.int .i64 (bs.length : Nat)) := by
  rcases h with h | ⟨r, off, cs, rfl, _⟩
  · exact h.len T22
  · simp [vlen, T22]
theorem RB.news {σ : St} {v : V} {bs : List UInt8} (h : RB σ v bs) : vnewsO Try.prog σ.objs 28 v 1 = some (bs.map byteV, bs.length) := by
  rcases h with h | ⟨r, off, cs, rfl, h2, h3, h4⟩
  · refine vnewsO_of ?_
    rcases h with ⟨rfl, rfl⟩ | ⟨p, rfl⟩ <;> simp [vnews, T22]
  · simp [vnewsO, vnews, T22, h2, h3, h4]
/-- Its places. -/
theorem RB.at {σ : St} {v : V} {bs : List UInt8} (h : RB σ v bs) {i : Nat} (hi : i < bs.length) : ∃ p, vindexAddr Try.prog 28 v (.int .i64 (i : Int)) = some p ∧ vload Try.prog σ.objs 5 p = some (.int .u8 (bs[i].toNat : Nat)) := by
  have hi' : (i : Int) < bs.length := by omega
  rcases h with h | ⟨r, off, cs, rfl, h2, h3, h4⟩
  · refine ⟨_, h.addr T22 S5 (Int.natCast_nonneg i) hi', ?_⟩
    have := BtsV.load (P := Try.prog) (objs := σ.objs) G5 hi
    simpa using this
  · refine ⟨.optr r (off + i), by simp [vindexAddr, T22, S5, hi'], ?_⟩
    have h5 : cs[off + i]? = some (byteV bs[i]) := by
      have := congrArg (·[i]?) h4
      simp only [List.getElem?_take_of_lt hi, List.getElem?_drop, List.getElem?_map, List.getElem?_eq_getElem hi] at this
      simpa using this
    rw [vload_obj h2 G5, h5]
    rfl
theorem HB.slice {σ : St} {v : V} {r : Nat} {bs : List UInt8} (h : HB σ v r bs) {n : Nat} (hn : n ≤ bs.length) (hl : bs.length ≤ 1000000000) : ∃ w, vslice Try.prog 28 v none (some (.int .i64 (n : Int))) none = some w ∧ RB σ w (bs.take n) := by
  have hb : vbounds bs.length none (some (.int .i64 (n : Int))) none = some (0, n, none) := vbounds_hi (by omega) (by omega)
  refine ⟨.hslice r 0 1 n, by rw [h.1]; simp [vslice, T22, S5, hb], .inr ⟨r, 0, _, by rw [List.length_take, Nat.min_eq_left hn], h.2, by rw [List.length_take, List.length_map]; omega, ?_⟩⟩
  rw [List.drop_zero, List.length_take, Nat.min_eq_left hn, ← List.map_take]
/-! ### Rows that are made as objects -/
theorem litRow0 (σ : St) : vbuildRow Try.prog σ 28 0 [] = some (.hslice σ.objs.length 0 1 0, ⟨σ.objs ++ [.cells []], σ.toks⟩) := by
  have hz := BT.z
  simp [vbuildRow, T22, S5, hz, vcells, zeroCellsV, vfill]
theorem made {σ : St} (v : V) (bs : List UInt8) (hv : v = .hslice σ.objs.length 0 1 bs.length) : HB ⟨σ.objs ++ [.cells (bs.map byteV)], σ.toks⟩ v σ.objs.length bs := ⟨hv, push_new _ _⟩
/-- An append behind such a row. -/
theorem HB.append {σ : St} {v y : V} {r : Nat} {bs ys : List UInt8} (h : HB σ v r bs) (hy : RB σ y ys) (hl : bs.length + ys.length ≤ 140737488355328) :
    ∃ v' r' σ', vappendRow Try.prog σ 28 28 v y = some (v', σ') ∧ HB σ' v' r' (bs ++ ys) ∧ KeepX r σ σ' ∧ (r' = r ∨ σ.objs.length ≤ r') := by
  have hb := BT.b
  have hz := BT.z
  have hn := hy.news
  rw [h.1]
  by_cases hm : ys.length = 0
  · have : ys = [] := List.length_eq_zero_iff.1 hm
    subst this
    refine ⟨_, r, σ, ?_, by rw [List.append_nil]; exact ⟨rfl, h.2⟩, KeepX.refl _ _, .inl rfl⟩
    simp [vappendRow, T22, hb, S5, hz, vcells, hn]
  · refine ⟨.hslice σ.objs.length 0 1 (bs ++ ys).length, σ.objs.length, ⟨σ.objs.set r .dead ++ [.cells ((bs ++ ys).map byteV)], σ.toks⟩, ?_, ⟨rfl, ?_⟩, ⟨fun q o hq ho => ?_, Nat.le_refl _, fun _ h => h⟩, .inr (Nat.le_refl _)⟩
    · have h1 := byteV_one ys
      have h2 : List.take bs.length (bs.map byteV) = bs.map byteV := List.take_of_length_le (by simp)
      simp [vappendRow, T22, hb, S5, hz, vcells, hn, hm, h.2, hl, h1, h2]
    · have := push_new (σ.objs.set r .dead) (Ob.cells ((bs ++ ys).map byteV))
      rwa [List.length_set] at this
    · have hql : q < σ.objs.length := (List.getElem?_eq_some_iff.1 ho).1
      simp only
      rw [List.getElem?_append_left (by rw [List.length_set]; exact hql), List.getElem?_set_ne (Ne.symm hq)]
      exact ho
end Go.Proofs.Ytnbmfhnfmhgaaaa.Q

/- Files change. -/
set_option linter.unusedVariables false
set_option linter.unusedSimpArgs false
set_option maxRecDepth 100000
namespace Go.Proofs.Ytnbmfhnfmhgaaaa.Q
open Go Go.RowKit Go.Proofs
theorem SBB : sizeT Try.prog 28 = some 1 := pSB
theorem bInfo : (Try.prog.info? 5).map (·.bytes) = some 1 := by kernel_rfl
theorem bZero : zeroT Try.prog 5 = some (.int .u8 0) := by kernel_rfl
/-- An append behind a row. -/
theorem rowApp {σ : St} {s w' : V} {q : Option Nat} {cs ys : List V} (h : rowOf σ.objs s = some (q, cs)) (hw : vnewsO Try.prog σ.objs 28 w' 1 = some (ys, ys.length)) (ho : ys.all one = true) (hl : cs.length + ys.length ≤ 140737488355328) :
    ∃ s' q' σ', vappendRow Try.prog σ 28 28 s w' = some (s', σ') ∧ rowOf σ'.objs s' = some (q', cs ++ ys) ∧ KS q.toList σ σ' ∧ (∀ x ∈ q'.toList, x ∈ q.toList ∨ σ.objs.length ≤ x) ∧ one s' = true := by
  have ha := off_append (toks := σ.toks) h hw ho hl
  by_cases h0 : ys = []
  · rw [if_pos h0] at ha
    refine ⟨s, q, σ, ha, by rw [h0, List.append_nil]; exact h, KS.refl _ _, fun x hx => .inl hx, ?_⟩
    rcases rowOf_spec h with ⟨rfl, _⟩ | ⟨r, full, rfl, _⟩ <;> rfl
  · rw [if_neg h0] at ha
    refine ⟨_, some σ.objs.length, _, ha, ?_, ⟨fun r o hr ho => ?_, ?_, Nat.le_refl _, fun _ h => h⟩, fun x hx => ?_, rfl⟩
    · have e : (applyW (q.toList.map (·, Ob.dead)) σ.objs).length = σ.objs.length := applyW_len _ _
      have := push_new (applyW (q.toList.map (·, Ob.dead)) σ.objs) (.cells (cs ++ ys))
      rw [e] at this
      simp only [rowOf, this, List.length_append, Nat.le_refl, ↓reduceIte]
      rw [List.take_of_length_le (by simp)]
    · have hrl := (List.getElem?_eq_some_iff.1 ho).1
      simp only
      rw [List.getElem?_append_left (by rw [applyW_len]; exact hrl), applyW_ne]
      · exact ho
      · rw [List.map_map]
        intro hx
        obtain ⟨y, hy, rfl⟩ := List.mem_map.1 hx
        exact hr hy
    · simp only [List.length_append, applyW_len]; omega
    · simp at hx; exact .inr (by omega)
theorem rowOf_one {objs : List Ob} {v : V} {q : Option Nat} {cs : List V} (h : rowOf objs v = some (q, cs)) : one v = true := by
  rcases rowOf_spec h with ⟨rfl, _⟩ | ⟨r, full, rfl, _⟩ <;> rfl
theorem rowOf_len {objs : List Ob} {v : V} {q : Option Nat} {cs : List V} (h : rowOf objs v = some (q, cs)) : vlen Try.prog 28 v = some (.int .i64 (cs.length : Nat)) := by
  rcases rowOf_spec h with ⟨rfl, rfl, rfl⟩ | ⟨r, full, rfl, _⟩ <;> simp [vlen, pTB]
theorem rowOf_rl {objs : List Ob} {v : V} {q : Option Nat} {cs : List V} (h : rowOf objs v = some (q, cs)) : rowLen v = some cs.length := by
  rcases rowOf_spec h with ⟨rfl, rfl, rfl⟩ | ⟨r, full, rfl, _⟩ <;> simp [rowLen]
theorem rowOf_lt {objs : List Ob} {v : V} {q : Option Nat} {cs : List V} (h : rowOf objs v = some (q, cs)) : ∀ x ∈ q.toList, x < objs.length := by
  rcases rowOf_spec h with ⟨rfl, rfl, rfl⟩ | ⟨r, full, rfl, rfl, hr, _⟩
  · intro x hx; cases hx
  · intro x hx; simp at hx; subst hx; exact (List.getElem?_eq_some_iff.1 hr).1
/-- A row of bytes. -/
theorem rowOf_rb {σ : St} {v : V} {q : Option Nat} {bs : List UInt8} (h : rowOf σ.objs v = some (q, bs.map byteV)) : RB σ v bs := by
  rcases rowOf_spec h with ⟨rfl, rfl, h0⟩ | ⟨r, full, rfl, rfl, hr, hl, hc⟩
  · exact .inl (.inl ⟨rfl, List.map_eq_nil_iff.1 h0⟩)
  · simp only [List.length_map] at hl hc ⊢
    exact .inr ⟨r, 0, full, rfl, hr, by omega, by rw [List.drop_zero]; exact hc.symm⟩
theorem rowOf_frame {objs objs2 : List Ob} {v : V} {q : Option Nat} {cs : List V} (h : rowOf objs v = some (q, cs)) (hk : ∀ x ∈ q.toList, ∀ o, objs[x]? = some o → objs2[x]? = some o) : rowOf objs2 v = some (q, cs) := by
  rcases rowOf_spec h with ⟨rfl, rfl, rfl⟩ | ⟨r, full, e1, e2, hr, hl, hc⟩
  · rfl
  · exact rowOf_eq h fun x hx => by
      rw [e2] at hx; injection hx with hx; subst hx
      rw [hr]; exact hk _ (by simp [e2]) _ hr
/-- Its first part. -/
theorem rowOf_take {objs : List Ob} {v : V} {q : Option Nat} {cs : List V} (h : rowOf objs v = some (q, cs)) {n : Nat} (hn : n ≤ cs.length) : ∃ v', vslice Try.prog 28 v none (some (.int .i64 (n : Int))) none = some v' ∧ rowOf objs v' = some (q, cs.take n) := by
  have hb := vbounds_hi (k := .i64) (n := (n : Int)) (len := cs.length) (by omega) (by omega)
  rcases rowOf_spec h with ⟨rfl, rfl, rfl⟩ | ⟨r, full, rfl, rfl, hr, hl, hc⟩
  · have : n = 0 := by simpa using hn
    subst this
    exact ⟨.nils, by kernel_rfl, rfl⟩
  · refine ⟨.hslice r 0 1 n, ?_, ?_⟩
    · simp only [vslice, pTB, pS1, hb]
      simp
    · have h1 : full.take n = cs.take n := by rw [hc, List.take_take, Nat.min_eq_left]; omega
      simp only [rowOf, hr]
      rw [if_pos (by omega), h1]
/-! ### A file changes -/
theorem flat_mid (a b : List Ent) (p : Ent) : ((a ++ p :: b).flatMap fun p => p.2.ids) = (a.flatMap fun p => p.2.ids) ++ (p.2.ids ++ b.flatMap fun p => p.2.ids) := by simp
/-- The names of the objects of a disk whose file changed. -/
theorem nodup_mid {A I J B : List Nat} {n : Nat} (h : (A ++ (I ++ B)).Nodup) (hl : ∀ x ∈ A ++ (I ++ B), x < n) (hj : J.Nodup) (hs : ∀ x ∈ J, x ∈ I ∨ n ≤ x) : (A ++ (J ++ B)).Nodup := by
  rw [List.nodup_append, List.nodup_append] at h ⊢
  obtain ⟨h1, ⟨h2, h3, h4⟩, h5⟩ := h
  refine ⟨h1, ⟨hj, h3, fun x hx y hy e => ?_⟩, fun x hx y hy e => ?_⟩
  · rcases hs x hx with h | h
    · exact h4 x h y hy e
    · have := hl y (by simp [hy]); omega
  · rcases List.mem_append.1 hy with hy | hy
    · rcases hs y hy with h | h
      · exact h5 x hx y (List.mem_append_left _ h) e
      · have := hl x (by simp [hx]); omega
    · exact h5 x hx y (List.mem_append_right _ hy) e
theorem putF_perm {l : List Fl} {f x : Fl} {A B : List Fl} (hr : l.Pairwise fun f g => f.name < g.name) (hp : (A ++ f :: B).Perm l) (hx : x.name = f.name) : (A ++ x :: B).Perm (putF x l) := by
  have hnl : (l.map Fl.name).Nodup := by
    rw [List.nodup_iff_pairwise_ne, List.pairwise_map]
    exact hr.imp fun {f g} hlt (he : f.name = g.name) => lt_irrefl' f.name (by rw [← he] at hlt; exact hlt)
  have hn2 : ((putF x l).map Fl.name).Nodup := by
    rw [List.nodup_iff_pairwise_ne, List.pairwise_map]
    exact (rise_putF hr).imp fun {f g} hlt (he : f.name = g.name) => lt_irrefl' f.name (by rw [← he] at hlt; exact hlt)
  have hn1 : ((A ++ f :: B).map Fl.name).Nodup := (hp.map _).nodup_iff.2 hnl
  have hn3 : ((A ++ x :: B).map Fl.name).Nodup := by
    simp only [List.map_append, List.map_cons, hx] at hn1 ⊢
    exact hn1
  refine fl_perm hn3 hn2 fun g => ?_
  rw [mem_putF, ← hp.mem_iff, List.mem_append, List.mem_cons, List.mem_append, List.mem_cons]
  have hA : ∀ g, g ∈ A → g.name ≠ x.name := fun g hg e => by
    simp only [List.map_append, List.map_cons] at hn3
    rw [List.nodup_append] at hn3
    exact hn3.2.2 _ (List.mem_map_of_mem hg) _ (List.mem_cons_self ..) e
  have hB : ∀ g, g ∈ B → g.name ≠ x.name := fun g hg e => by
    simp only [List.map_append, List.map_cons] at hn3
    rw [List.nodup_append, List.nodup_cons] at hn3
    exact hn3.2.1.1 (by rw [← e]; exact List.mem_map_of_mem hg)
  constructor
  · rintro (h | rfl | h)
    · exact .inr ⟨.inl h, hA g h⟩
    · exact .inl rfl
    · exact .inr ⟨.inr (.inr h), hB g h⟩
  · rintro (rfl | ⟨h | rfl | h, h2⟩)
    · exact .inr (.inl rfl)
    · exact .inl h
    · exact absurd hx.symm h2
    · exact .inr (.inr h)
theorem DiskAt.change {σ σ' : St} {r rm : Nat} {d d2 : Dk} {fs a b : List Ent} {p p' : Ent} {n : List UInt8} (h : DiskAt σ r d rm fs) (hok : d.Ok) (hA : Has d fs a b p n) (hk : KS p.2.ids σ σ') (hF : FAt σ'.objs p') (hrf : p'.2.rf = p.2.rf) (hn : p'.1.name = n)
    (hnd : p'.2.ids.Nodup) (hids : ∀ x ∈ p'.2.ids, x ∈ p.2.ids ∨ σ.objs.length ≤ x) (hd2 : d2 = { d with files := putF p'.1 d.files }) : DiskAt σ' r d2 rm (a ++ p' :: b) ∧ KS (foot r rm fs) σ σ' ∧ ∀ x ∈ foot r rm (a ++ p' :: b), x ∈ foot r rm fs ∨ σ.objs.length ≤ x := by
  have hlt := h.lt
  have hN := h.nd
  have hfs := hA.e
  subst hfs
  have hpm := h.pm
  have hN0 := hN
  unfold foot at hN
  rw [List.nodup_cons, List.nodup_cons, flat_mid] at hN
  obtain ⟨n1, n2, n3⟩ := hN
  have hdj : ∀ q ∈ a ++ b, ∀ x ∈ q.2.ids, x ∉ p.2.ids := by
    intro q hq x hx hx2
    rw [List.nodup_append, List.nodup_append] at n3
    rcases List.mem_append.1 hq with hq | hq
    · exact n3.2.2 x (List.mem_flatMap.2 ⟨q, hq, hx⟩) x (List.mem_append_left _ hx2) rfl
    · exact n3.2.1.2.2 x hx2 x (List.mem_flatMap.2 ⟨q, hq, hx⟩) rfl
  have hpi : ∀ x ∈ p.2.ids, x ∈ foot r rm (a ++ p :: b) := fun x hx => by
    simp only [foot, List.mem_cons, List.mem_flatMap]
    exact .inr (.inr ⟨p, by simp, hx⟩)
  have hrp : r ∉ p.2.ids := fun hx => n1 (List.mem_cons_of_mem _ (by simp [hx]))
  have hmp : rm ∉ p.2.ids := fun hx => n2 (by simp [hx])
  have hfoot : ∀ x ∈ foot r rm (a ++ p' :: b), x ∈ foot r rm (a ++ p :: b) ∨ σ.objs.length ≤ x := by
    intro x hx
    simp only [foot, List.mem_cons, List.flatMap_append, List.flatMap_cons, List.mem_append] at hx ⊢
    rcases hx with hx | hx | hx | hx | hx
    · exact .inl (.inl hx)
    · exact .inl (.inr (.inl hx))
    · exact .inl (.inr (.inr (.inl hx)))
    · rcases hids x hx with h | h
      · exact .inl (.inr (.inr (.inr (.inl h))))
      · exact .inr h
    · exact .inl (.inr (.inr (.inr (.inr hx))))
  have hent : (a ++ p' :: b).map fent = (a ++ p :: b).map fent := by
    simp only [List.map_append, List.map_cons]
    rw [show fent p' = fent p by simp only [fent, hn, hA.nm, hrf]]
  refine ⟨⟨?_, ?_, fun q hq => ?_, ?_, ?_⟩, hk.mono fun x hx => .inl (hpi x hx), hfoot⟩
  · rw [hd2]; exact hk.ko _ _ hrp h.hd
  · rw [hent]; exact hk.ko _ _ hmp h.hm
  · by_cases hqp : q ∈ a ++ b
    · have hqm : q ∈ a ++ p :: b := by
        rcases List.mem_append.1 hqp with h | h <;> simp [h]
      exact (h.hf q hqm).frame fun x hx o ho => hk.ko _ _ (hdj q hqp x hx) ho
    · have : q = p' := by
        simp only [List.mem_append, List.mem_cons, not_or] at hq hqp
        rcases hq with h | h | h
        · exact absurd h hqp.1
        · exact h
        · exact absurd h hqp.2
      subst this
      exact hF
  · have hx := nodup_mid (n := σ.objs.length) (A := r :: rm :: a.flatMap fun p => p.2.ids) (I := p.2.ids) (J := p'.2.ids) (B := b.flatMap fun p => p.2.ids) (by
      unfold foot at hN0; rw [flat_mid] at hN0; exact hN0) (fun x hx => hlt x (by unfold foot; rw [flat_mid]; exact hx)) hnd hids
    unfold foot
    rw [flat_mid]
    exact hx
  · rw [hd2]
    simp only [List.map_append, List.map_cons] at hpm ⊢
    exact putF_perm hok.rise hpm (by rw [hn, hA.nm])
end Go.Proofs.Ytnbmfhnfmhgaaaa.Q

/- What keeps a disk right. -/
set_option linter.unusedVariables false
set_option linter.unusedSimpArgs false
set_option maxRecDepth 100000
namespace Go.Proofs.Ytnbmfhnfmhgaaaa.Q
open Go Go.RowKit Go.Proofs
/-- A file's two rows change. -/
theorem FAt.upd {σ σa : St} {p : Ent} {s' w' : V} {qs qw : Option Nat} {f' : Fl} (h : FAt σ.objs p) (hk : KS (p.2.rs.toList ++ p.2.rw.toList) σ σa) (hnd : p.2.ids.Nodup) (hlt : ∀ x ∈ p.2.ids, x < σ.objs.length)
    (hs : rowOf σa.objs s' = some (qs, f'.safe.map byteV)) (hw : rowOf σa.objs w' = some (qw, f'.wait.map byteV)) (hq : ∀ x ∈ qs.toList ++ qw.toList, x ∈ p.2.rs.toList ++ p.2.rw.toList ∨ σ.objs.length ≤ x) (hqn : (qs.toList ++ qw.toList).Nodup) :
    ∃ p' : Ent, p'.1 = f' ∧ p'.2.rf = p.2.rf ∧ FAt (σa.objs.set p.2.rf (.cells [s', w'])) p' ∧ KS p.2.ids σ ⟨σa.objs.set p.2.rf (.cells [s', w']), σa.toks⟩ ∧ p'.2.ids.Nodup ∧ (∀ x ∈ p'.2.ids, x ∈ p.2.ids ∨ σ.objs.length ≤ x) ∧ σa.objs[p.2.rf]? = some (.cells [p.2.s, p.2.w]) := by
  have hrfl := hlt p.2.rf (by simp [FO.ids])
  simp only [FO.ids, List.nodup_cons] at hnd
  have hrf : p.2.rf ∉ qs.toList ++ qw.toList := fun hx => by
    rcases hq _ hx with h | h
    · exact hnd.1 h
    · omega
  have hoba : σa.objs[p.2.rf]? = some (.cells [p.2.s, p.2.w]) := hk.ko _ _ hnd.1 h.ob
  have hk1 : KS p.2.ids σ σa := hk.mono fun x hx => .inl (by simp only [FO.ids, List.mem_cons]; exact .inr hx)
  refine ⟨(f', ⟨p.2.rf, s', qs, f'.safe.map byteV, w', qw, f'.wait.map byteV⟩), rfl, rfl, ⟨obj_set hoba, ?_, ?_, rfl, rfl⟩, hk1.trans' (KS.set (.inl (by simp [FO.ids])) _), ?_, ?_, hoba⟩
  · refine rowOf_frame hs fun x hx o ho => ?_
    rw [List.getElem?_set_ne]
    · exact ho
    · rintro rfl; exact hrf (List.mem_append_left _ hx)
  · refine rowOf_frame hw fun x hx o ho => ?_
    rw [List.getElem?_set_ne]
    · exact ho
    · rintro rfl; exact hrf (List.mem_append_right _ hx)
  · simp only [FO.ids, List.nodup_cons]; exact ⟨hrf, hqn⟩
  · intro x hx
    simp only [FO.ids, List.mem_cons] at hx ⊢
    rcases hx with h | h
    · exact .inl (.inl h)
    · rcases hq x h with h | h
      · exact .inl (.inr h)
      · exact .inr h
/-- What a disk is behind a call. -/
def Next (σ : St) (r rm : Nat) (fs : List Ent) (σ' : St) (d' : Dk) : Prop := ∃ fs', DiskAt σ' r d' rm fs' ∧ KS (foot r rm fs) σ σ' ∧ ∀ x ∈ foot r rm fs', x ∈ foot r rm fs ∨ σ.objs.length ≤ x
theorem Next.refl {σ : St} {r rm : Nat} {d : Dk} {fs : List Ent} (h : DiskAt σ r d rm fs) : Next σ r rm fs σ d := ⟨fs, h, KS.refl _ _, fun x hx => .inl hx⟩
theorem Next.trans {σ σ1 σ2 : St} {r rm : Nat} {d : Dk} {fs fs1 : List Ent} (hk : KS (foot r rm fs) σ σ1) (hs : ∀ x ∈ foot r rm fs1, x ∈ foot r rm fs ∨ σ.objs.length ≤ x) (h : Next σ1 r rm fs1 σ2 d) : Next σ r rm fs σ2 d := by
  obtain ⟨fs', h1, h2, h3⟩ := h
  refine ⟨fs', h1, hk.trans h2 hs, fun x hx => ?_⟩
  have := hk.le
  rcases h3 x hx with h | h
  · exact hs x h
  · exact .inr (by omega)
theorem Has.ids {σ : St} {r rm : Nat} {d : Dk} {fs a b : List Ent} {p : Ent} {n : List UInt8} (h : DiskAt σ r d rm fs) (hA : Has d fs a b p n) : FAt σ.objs p ∧ p.2.ids.Nodup ∧ ∀ x ∈ p.2.ids, x < σ.objs.length := by
  have hp : p ∈ fs := by rw [hA.e]; simp
  have hN := h.nd
  unfold foot at hN
  rw [List.nodup_cons, List.nodup_cons, hA.e, flat_mid, List.nodup_append, List.nodup_append] at hN
  refine ⟨h.hf p hp, hN.2.2.2.1.1, fun x hx => h.lt x ?_⟩
  simp only [foot, List.mem_cons, List.mem_flatMap]
  exact .inr (.inr ⟨p, hp, hx⟩)
/-- A file's rows change: the disk. -/
theorem DiskAt.upd {σ σa : St} {r rm : Nat} {d : Dk} {fs a b : List Ent} {p : Ent} {n : List UInt8} {s' w' : V} {qs qw : Option Nat} {f' : Fl} (h : DiskAt σ r d rm fs) (hok : d.Ok) (hA : Has d fs a b p n) (hk : KS (p.2.rs.toList ++ p.2.rw.toList) σ σa)
    (hs : rowOf σa.objs s' = some (qs, f'.safe.map byteV)) (hw : rowOf σa.objs w' = some (qw, f'.wait.map byteV)) (hq : ∀ x ∈ qs.toList ++ qw.toList, x ∈ p.2.rs.toList ++ p.2.rw.toList ∨ σ.objs.length ≤ x) (hqn : (qs.toList ++ qw.toList).Nodup) (hn : f'.name = n) :
    Next σ r rm fs ⟨σa.objs.set p.2.rf (.cells [s', w']), σa.toks⟩ { d with files := putF f' d.files } ∧ σa.objs[p.2.rf]? = some (.cells [p.2.s, p.2.w]) := by
  obtain ⟨g1, g2, g3⟩ := hA.ids h
  obtain ⟨p', e1, e2, e3, e4, e5, e6, e7⟩ := g1.upd hk g2 g3 hs hw hq hqn
  obtain ⟨i1, i2, i3⟩ := h.change hok hA e4 e3 e2 (by rw [e1, hn]) e5 e6 (d2 := { d with files := putF f' d.files }) (by rw [e1])
  exact ⟨⟨_, i1, i2, i3⟩, e7⟩
/-! ### Rightness -/
theorem Dk.Ok.head {d d2 : Dk} (h : d.Ok) (hf : d2.files = d.files) (ha : (d2.armed : Int) ≤ 9223372036854775807) (hr : InI64 d2.room) (hk : InI64 d2.keep) : d2.Ok := ⟨by rw [hf]; exact h.rise, by rw [hf]; exact h.nm, by rw [hf]; exact h.few, by rw [hf]; exact h.sm, ha, hr, hk⟩
theorem Dk.Ok.raw {d : Dk} (h : d.Ok) : (rawD d).2.Ok := by
  have := h.arm
  unfold rawD
  split
  · exact h.head rfl h.arm h.rm h.kp
  · exact h.head rfl (by simp only; omega) h.rm h.kp
theorem raw_files (d : Dk) : (rawD d).2.files = d.files ∧ (rawD d).2.keep = d.keep ∧ (rawD d).2.room = d.room ∧ (rawD d).2.on = d.on ∧ (rawD d).2.writes = d.writes + 1 := by
  unfold rawD
  split <;> exact ⟨rfl, rfl, rfl, rfl, rfl⟩
theorem Dk.Ok.off {d : Dk} (h : d.Ok) (k : Int) : (offD k d).Ok := by
  unfold offD
  split
  · refine ⟨?_, fun f hf => ?_, by simp only [List.length_map]; exact h.few, fun f hf => ?_, by simp, h.rm, h.kp⟩
    · simp only [List.pairwise_map]
      exact h.rise
    · obtain ⟨g, hg, rfl⟩ := List.mem_map.1 hf
      exact h.nm g hg
    · obtain ⟨g, hg, rfl⟩ := List.mem_map.1 hf
      have := h.sm g hg
      simp only [Fl.len, offF, List.length_append, List.length_take, List.length_nil] at this ⊢
      omega
  · exact h
theorem Dk.Ok.put {d : Dk} (h : d.Ok) {x : Fl} (hn : namedD x.name = true) (hs : x.len ≤ 1048576) (hl : (getF d.files x.name).isNone = true → d.files.length < 16) : ({ d with files := putF x d.files } : Dk).Ok := by
  refine ⟨rise_putF h.rise, fun f hf => ?_, ?_, fun f hf => ?_, h.arm, h.rm, h.kp⟩
  · rcases mem_putF.1 hf with rfl | ⟨hf, _⟩
    · exact hn
    · exact h.nm f hf
  · simp only
    rw [len_putF h.rise]
    have := h.few
    split
    · rename_i h1
      have := hl h1
      omega
    · exact h.few
  · rcases mem_putF.1 hf with rfl | ⟨hf, _⟩
    · exact hs
    · exact h.sm f hf
theorem Dk.Ok.drop {d : Dk} (h : d.Ok) (n : List UInt8) : ({ d with files := dropF n d.files } : Dk).Ok := by
  refine ⟨rise_dropF h.rise, fun f hf => h.nm f (mem_dropF.1 hf).1, ?_, fun f hf => h.sm f (mem_dropF.1 hf).1, h.arm, h.rm, h.kp⟩
  exact Nat.le_trans (List.length_filter_le ..) h.few
theorem readyD_named {d : Dk} {n : List UInt8} (h : readyD d n = 0) : namedD n = true ∧ d.on = true := by
  unfold readyD at h
  split at h
  · cases h
  · rename_i h1
    split at h
    · cases h
    · rename_i h2
      exact ⟨by simpa using h1, by simpa using h2⟩
theorem thereD_zero {d : Dk} {n : List UInt8} (h : thereD d n = 0) : readyD d n = 0 ∧ ∃ f, getF d.files n = some f := by
  unfold thereD at h
  split at h
  · rename_i h1; exact absurd h h1
  · rename_i h1
    refine ⟨Classical.byContradiction h1, ?_⟩
    cases hg : getF d.files n with
    | none => rw [hg] at h; cases h
    | some f => exact ⟨f, rfl⟩
theorem Has.files {d d2 : Dk} {fs a b : List Ent} {p : Ent} {n : List UInt8} (hA : Has d fs a b p n) (h : d2.files = d.files) : Has d2 fs a b p n := ⟨hA.e, hA.nm, by rw [h]; exact hA.g, hA.a, hA.b⟩
theorem Dk.Ok.get {d : Dk} (h : d.Ok) {n : List UInt8} {f : Fl} (hg : getF d.files n = some f) : f ∈ d.files ∧ f.name = n ∧ namedD n = true ∧ f.len ≤ 1048576 := by
  obtain ⟨h1, h2⟩ := getF_some hg
  exact ⟨h1, h2, by rw [← h2]; exact h.nm f h1, h.sm f h1⟩
/-- Behind a raw write: the power may go. -/
theorem rawNext {σ : St} {r rm : Nat} {d : Dk} {fs : List Ent} (h : DiskAt σ r d rm fs) (hok : d.Ok) (hw : d.writes < 4611686018427387904) :
    ∃ σ1, Does Try.prog prims 31 [.optr r 0] σ (.ret (.bool (rawD d).1)) σ1 ∧ DiskAt σ1 r (rawD d).2 rm fs ∧ KS (foot r rm fs) σ σ1 ∧ σ1.objs.length = σ.objs.length ∧
      ∃ σ2, Does Try.prog prims 32 [.optr r 0] σ1 (.ret (.int .i64 20)) σ2 ∧ Next σ r rm fs σ2 (offD d.keep (rawD d).2) := by
  obtain ⟨σ1, h1, h2, h3, h4⟩ := raw_does h hok hw
  obtain ⟨σ2, fs2, h5, h6, h7, h8⟩ := ends_does h2 hok.raw
  refine ⟨σ1, h1, h2, h3, h4, σ2, h5, ?_⟩
  rw [(raw_files d).2.1] at h6
  exact Next.trans h3 (fun x hx => .inl hx) ⟨fs2, h6, h7, h8⟩
end Go.Proofs.Ytnbmfhnfmhgaaaa.Q

/- Append. -/
set_option linter.unusedVariables false
set_option linter.unusedSimpArgs false
set_option maxRecDepth 100000
namespace Go.Proofs.Ytnbmfhnfmhgaaaa.Q
open Go Go.RowKit Go.Proofs
theorem lens_all {objs : List Ob} : ∀ {fs : List Ent}, (∀ p ∈ fs, FAt objs p) → fileLens objs (fs.map fent) = some (fs.map fun p => p.1.len)
  | [], _ => rfl
  | p :: fs, h => by
    have hp := h p (List.mem_cons_self ..)
    have h1 := rowOf_rl hp.s
    have h2 := rowOf_rl hp.w
    rw [List.length_map] at h1 h2
    simp only [List.map_cons, fileLens, fileLen, fent, hp.ob, h1, h2]
    have := lens_all fun q hq => h q (List.mem_cons_of_mem _ hq)
    rw [this]
theorem sum_le_all {l : List Nat} {m : Nat} (h : ∀ x ∈ l, x ≤ m) : l.sum ≤ l.length * m := by
  induction l with
  | nil => simp
  | cons x l ih =>
    have h1 := h x (List.mem_cons_self ..)
    have h2 := ih fun y hy => h y (List.mem_cons_of_mem _ hy)
    simp only [List.sum_cons, List.length_cons, Nat.succ_mul]
    omega
theorem sizeD_le {d : Dk} (hok : d.Ok) : sizeD d.files ≤ 16777216 := by
  have h1 := sum_le_all (l := d.files.map Fl.len) (m := 1048576) fun x hx => by
    obtain ⟨f, hf, rfl⟩ := List.mem_map.1 hx
    exact hok.sm f hf
  have h2 := hok.few
  unfold sizeD
  rw [List.length_map] at h1
  omega
theorem size_does {σ : St} {r rm : Nat} {d : Dk} {fs : List Ent} (h : DiskAt σ r d rm fs) (hok : d.Ok) : Does Try.prog prims 30 [.optr r 0] σ (.ret (.int .i64 (sizeD d.files : Nat))) ⟨σ.objs ++ [.dead], σ.toks⟩ := by
  refine Does.prim (by kernel_rfl) ?_
  simp only [prims]
  rw [if_pos trivial]
  have hs : (fs.map fun p => p.1.len).sum = sizeD d.files := by
    have := (h.pm.map Fl.len).sum_nat
    rw [List.map_map] at this
    exact this
  have hb := sizeD_le hok
  simp only [sizeP, h.hd, dcells, h.hm, lens_all h.hf, hs]
  rw [if_pos (by omega)]
theorem DiskAt.pushed {σ : St} {r rm : Nat} {d : Dk} {fs : List Ent} (h : DiskAt σ r d rm fs) (o : Ob) : DiskAt ⟨σ.objs ++ [o], σ.toks⟩ r d rm fs := h.keep (KS.push [] σ o) fun x _ => by simp
theorem putF_putF {x y : Fl} {l : List Fl} (hn : x.name = y.name) : putF x (putF y l) = putF x l := by
  unfold putF
  have h1 : ¬ y.name < y.name := lt_irrefl' _
  have e1 : (List.filter (fun f => decide (f.name < x.name)) (l.filter fun f => decide (y.name < f.name))) = [] := by
    rw [List.filter_filter, List.filter_eq_nil_iff]
    intro f _
    rw [hn]
    simp only [Bool.and_eq_true, decide_eq_true_eq, not_and]
    intro h2 h3
    exact lt_irrefl' _ (lt_trans' h2 h3)
  have e2 : (List.filter (fun f => decide (x.name < f.name)) (l.filter fun f => decide (f.name < y.name))) = [] := by
    rw [List.filter_filter, List.filter_eq_nil_iff]
    intro f _
    rw [hn]
    simp only [Bool.and_eq_true, decide_eq_true_eq, not_and]
    intro h2 h3
    exact lt_irrefl' _ (lt_trans' h2 h3)
  rw [List.filter_append, List.filter_append, List.filter_cons, List.filter_cons, e1, e2, hn]
  simp only [h1, decide_false, Bool.false_eq_true, ↓reduceIte, List.append_nil, List.nil_append, List.filter_filter, Bool.and_self]
theorem RB.ks {σ σ' : St} {v : V} {bs : List UInt8} {S : List Nat} (h : RB σ v bs) (hk : KS S σ σ') (hs : ∀ q ∈ S, ∀ cs, σ.objs[q]? ≠ some (.cells cs)) : RB σ' v bs := by
  rcases h with h | ⟨q, off, cs, e1, e2, e3⟩
  · exact .inl h
  · exact .inr ⟨q, off, cs, e1, hk.ko q _ (fun hq => hs q hq cs e2) e2, e3⟩
/-- A new file. -/
theorem DiskAt.fresh {σ : St} {r rm : Nat} {d : Dk} {fs : List Ent} (h : DiskAt σ r d rm fs) (hok : d.Ok) {n : List UInt8} (hg : getF d.files n = none) {σ1 σ2 : St} (h1 : σ1 = ⟨σ.objs ++ [.cells [.nils, .nils]], σ.toks⟩) :
    ∃ σ2 p d2, vmapSet Try.prog σ1 55 (.omap rm) (.str n) (.optr σ.objs.length 0) = some σ2 ∧ d2 = { d with files := putF ⟨n, [], []⟩ d.files } ∧ p.1 = ⟨n, [], []⟩ ∧ p.2.rf = σ.objs.length ∧ DiskAt σ2 r d2 rm (fs ++ [p]) ∧ KS [rm] σ σ2 ∧ Has d2 (fs ++ [p]) fs [] p n ∧ σ2.objs.length = σ.objs.length + 1 ∧ ∀ x ∈ foot r rm (fs ++ [p]), x ∈ foot r rm fs ∨ σ.objs.length ≤ x := by
  have D1 : DiskAt σ1 r d rm fs := by rw [h1]; exact h.pushed _
  have hlt := h.lt
  have hN := h.nd
  have hno := h.get_no hg
  unfold foot at hN
  rw [List.nodup_cons, List.nodup_cons] at hN
  have hrl := hlt r (by simp [foot])
  have hml := hlt rm (by simp [foot])
  have hml1 : rm < σ1.objs.length := by rw [h1]; simp; omega
  have hfl : ∀ x ∈ fs.flatMap (fun p => p.2.ids), x < σ.objs.length := fun x hx => hlt x (by simp only [foot, List.mem_cons]; exact .inr (.inr hx))
  refine ⟨⟨σ1.objs.set rm (.mp (fs.map fent ++ [(.str n, .optr σ.objs.length 0)])), σ1.toks⟩, (⟨n, [], []⟩, ⟨σ.objs.length, .nils, none, [], .nils, none, []⟩), _, ?_, rfl, rfl, rfl, ⟨?_, ?_, ?_, ?_, ?_⟩, ?_, ⟨rfl, rfl, ?_, hno, fun q hq => by cases hq⟩, ?_, ?_⟩
  · simp only [vmapSet, pTM, D1.hm, keyD, find_no hno]
  · simp only
    rw [List.getElem?_set_ne (fun e => hN.1 (by rw [e]; exact List.mem_cons_self ..))]
    exact D1.hd
  · simp only
    rw [List.getElem?_set_self hml1, List.map_append]
    rfl
  · intro q hq
    rcases List.mem_append.1 hq with hq | hq
    · exact (D1.hf q hq).frame fun x hx o ho => by
        simp only
        rw [List.getElem?_set_ne (fun e => hN.2.1 (by rw [e]; exact List.mem_flatMap.2 ⟨q, hq, hx⟩))]
        exact ho
    · rw [List.mem_singleton] at hq
      subst hq
      refine ⟨?_, rfl, rfl, rfl, rfl⟩
      simp only
      rw [List.getElem?_set_ne (by omega), h1]
      exact push_new _ _
  · have e : foot r rm (fs ++ [((⟨n, [], []⟩ : Fl), (⟨σ.objs.length, .nils, none, [], .nils, none, []⟩ : FO))]) = foot r rm fs ++ [σ.objs.length] := by
      simp [foot, FO.ids]
    rw [e, List.nodup_append]
    exact ⟨h.nd, by simp, fun x hx y hy => by rw [List.mem_singleton] at hy; have := hlt x hx; omega⟩
  · simp only [List.map_append, List.map_cons, List.map_nil]
    have hp := h.pm
    have h3 : (putF ⟨n, [], []⟩ d.files).Perm (⟨n, [], []⟩ :: d.files) := by
      unfold putF
      refine (List.perm_middle).trans (.cons _ ?_)
      have e : (d.files.filter fun f => decide (n < f.name)) = d.files.filter fun f => !decide (f.name < n) := by
        refine List.filter_congr fun f hf => ?_
        have hne := getF_none hg f hf
        rcases lt_or hne with h | h
        · have : ¬ n < f.name := fun h2 => lt_irrefl' _ (lt_trans' h h2)
          simp [h, this]
        · have : ¬ f.name < n := fun h2 => lt_irrefl' _ (lt_trans' h h2)
          simp [h, this]
      rw [e]
      exact List.filter_append_perm _ _
    exact (List.perm_append_singleton ..).trans ((hp.cons _).trans h3.symm)
  · refine (KS.push [rm] σ (.cells [.nils, .nils])).trans' ?_
    rw [← h1]
    exact KS.set (.inl (by simp)) _
  · have hm : (⟨n, [], []⟩ : Fl) ∈ putF ⟨n, [], []⟩ d.files := mem_putF.2 (.inl rfl)
    have hnd : ((putF ⟨n, [], []⟩ d.files).map Fl.name).Nodup := by
      rw [List.nodup_iff_pairwise_ne, List.pairwise_map]
      exact (rise_putF hok.rise).imp fun {f g} hlt (he : f.name = g.name) => lt_irrefl' f.name (by rw [← he] at hlt; exact hlt)
    exact getF_mem hnd hm
  · simp [h1]
  · intro x hx
    simp only [foot, List.mem_cons, List.flatMap_append, List.mem_append] at hx ⊢
    rcases hx with hx | hx | hx | hx
    · exact .inl (.inl hx)
    · exact .inl (.inr (.inl hx))
    · exact .inl (.inr (.inr hx))
    · simp [FO.ids] at hx; exact .inr (by omega)
/-- The bytes are put behind the file's, and the write is counted. -/
theorem append_tail {σ : St} {r rm : Nat} {d : Dk} {fs a b : List Ent} {p : Ent} {n bs : List UInt8} {v : V} {e : Nat → V} {R : VRes → St → Prop} (h : DiskAt σ r d rm fs) (hok : d.Ok) (hA : Has d fs a b p n) (hw : d.writes < 4611686018427387904) (hb : RB σ v bs) (hl : p.1.len + bs.length ≤ 1048576)
    (h0 : e 0 = .optr r 0) (h2 : e 2 = v) (h8 : e 8 = .optr p.2.rf 0) (d2 : Dk) (hd2 : d2 = { d with files := putF ⟨n, p.1.safe, p.1.wait ++ bs⟩ d.files })
    (hR : ∀ σ' x, Next σ r rm fs σ' (if (rawD d2).1 = true then offD d.keep (rawD d2).2 else (rawD d2).2) → x = (if (rawD d2).1 = true then 20 else 0 : Nat) → R (.ret (.int .i64 (x : Nat))) σ') :
    Ev Try.prog prims 88 (k10_r14.seq (((CC.region k10_r15).seq (CC.cond (.tmp 85) ((CC.region k10_r16).seq CC.ret) CC.skip)).seq ((CC.region k10_r17).seq CC.ret))) e σ (fnK Try.prog 88 [ResultVar.tmp 6] R) := by
  obtain ⟨g1, g2, g3⟩ := hA.ids h
  simp only [Fl.len] at hl
  have hbn := hb.news
  rw [← List.length_map (f := byteV)] at hbn
  obtain ⟨w', qw, σa, ha, hwa, hka, hqa, h1a⟩ := rowApp g1.w hbn (byteV_one bs) (by simp; omega)
  have hk2 : KS (p.2.rs.toList ++ p.2.rw.toList) σ σa := hka.mono fun x hx => .inl (List.mem_append_right _ hx)
  have hnd2 : (p.2.rs.toList ++ p.2.rw.toList).Nodup := by simp only [FO.ids, List.nodup_cons] at g2; exact g2.2
  have hlt2 : ∀ x ∈ p.2.rs.toList, x < σ.objs.length := fun x hx => g3 x (by simp only [FO.ids, List.mem_cons, List.mem_append]; exact .inr (.inl hx))
  have hsa : rowOf σa.objs p.2.s = some (p.2.rs, p.1.safe.map byteV) := rowOf_frame g1.s fun x hx o ho => hka.ko _ _ (fun hx2 => (List.nodup_append.1 hnd2).2.2 x hx x hx2 rfl) ho
  have hqn : (p.2.rs.toList ++ qw.toList).Nodup := by
    rw [List.nodup_append] at hnd2 ⊢
    refine ⟨hnd2.1, by cases qw <;> simp, fun x hx y hy e => ?_⟩
    rcases hqa y hy with h | h
    · exact hnd2.2.2 x hx y h e
    · have := hlt2 x hx; omega
  obtain ⟨N1, hob⟩ := h.upd hok hA (f' := ⟨n, p.1.safe, p.1.wait ++ bs⟩) hk2 hsa (by rw [List.map_append]; exact hwa) (fun x hx => by
    rcases List.mem_append.1 hx with h | h
    · exact .inl (List.mem_append_left _ h)
    · rcases hqa x h with h | h
      · exact .inl (List.mem_append_right _ h)
      · exact .inr h) hqn rfl
  rw [← hd2] at N1
  have lw : vload Try.prog σ.objs 28 (.optr p.2.rf 1) = some p.2.w := by rw [vload_obj g1.ob pGB]; rfl
  obtain ⟨σb, hσb⟩ : ∃ σb : St, σb = ⟨σa.objs.set p.2.rf (.cells [p.2.s, w']), σa.toks⟩ := ⟨_, rfl⟩
  have st : vstore Try.prog σa 28 (.optr p.2.rf 1) w' = some σb := by rw [vstore_obj hob SBB h1a (by simp), hσb]; rfl
  rw [← hσb] at N1
  obtain ⟨fs1, D1, K1, I1⟩ := N1
  have hgt := hok.get hA.g
  have ok2 : d2.Ok := by
    rw [hd2]
    refine hok.put hgt.2.2.1 (by simp only [Fl.len, List.length_append]; omega) fun hn => ?_
    simp only at hn
    rw [hA.g] at hn
    cases hn
  have hw2 : d2.writes < 4611686018427387904 := by rw [hd2]; exact hw
  have hkp : d2.keep = d.keep := by rw [hd2]
  obtain ⟨σ1, r1, r2, r3, r4, σ2, r5, r6⟩ := rawNext D1 ok2 hw2
  simp only [k10_a, WK, vop, evAll, evOpt, evParts, vbuiltin, vun, vextract, Nat.reduceLT, Nat.reduceEqDiff, ↓reduceIte, reduceCtorEq, Nat.reduceAdd, Int.reduceLT, Int.reduceNeg, valloc_std, noSB, vhot, h8, h2, h0, pFF1, lw, ha, st]
  refine KD.ret r1 ?_
  cases hgo : (rawD d2).1 with
  | true =>
    simp only [k10_a, WK, vop, evAll, evOpt, evParts, vbuiltin, vun, vextract, Nat.reduceLT, Nat.reduceEqDiff, ↓reduceIte, reduceCtorEq, Nat.reduceAdd, Int.reduceLT, Int.reduceNeg, valloc_std, noSB, vhot, h0]
    refine KD.ret r5 ?_
    simp only [k10_a, WK, vop, evAll, evOpt, evParts, vbuiltin, vun, vextract, Nat.reduceLT, Nat.reduceEqDiff, ↓reduceIte, reduceCtorEq, Nat.reduceAdd, Int.reduceLT, Int.reduceNeg, valloc_std, noSB, vhot]
    refine hR _ 20 ?_ (by rw [if_pos hgo])
    rw [if_pos hgo, ← hkp]
    exact Next.trans K1 I1 r6
  | false =>
    simp only [k10_a, WK, vop, evAll, evOpt, evParts, vbuiltin, vun, vextract, Nat.reduceLT, Nat.reduceEqDiff, ↓reduceIte, reduceCtorEq, Nat.reduceAdd, Int.reduceLT, Int.reduceNeg, valloc_std, noSB, vhot, h0]
    refine hR _ 0 ?_ (by rw [if_neg (by rw [hgo]; simp)])
    rw [if_neg (by rw [hgo]; simp)]
    exact Next.trans K1 I1 ⟨fs1, r2, r3, fun x hx => .inl hx⟩
theorem append_sees {σ : St} {r rm : Nat} {d : Dk} {fs : List Ent} {v : V} {n bs : List UInt8} (h : DiskAt σ r d rm fs) (hok : d.Ok) (hw : d.writes < 4611686018427387904) (hb : RB σ v bs) (hbl : bs.length ≤ 1000000000) :
    ∃ q σ', Does Try.prog prims 10 [.optr r 0, .str n, v] σ q σ' ∧ (q = .ret (.int .i64 ((appendD n bs d).1 : Nat)) ∧ Next σ r rm fs σ' (appendD n bs d).2) := by
  apply k10_is.does (by simp)
  have lm : vload Try.prog σ.objs 55 (.optr r 0) = some (.omap rm) := by rw [vload_obj h.hd pGM]; rfl
  have lr : vload Try.prog σ.objs 3 (.optr r 1) = some (.int .i64 d.room) := by rw [vload_obj h.hd G3]; rfl
  obtain ⟨σd, hσd⟩ : ∃ σd : St, σd = ⟨σ.objs ++ [.dead], σ.toks⟩ := ⟨_, rfl⟩
  have Kd : KS (foot r rm fs) σ σd := by rw [hσd]; exact KS.push _ _ _
  have Dd : DiskAt σd r d rm fs := by rw [hσd]; exact h.pushed .dead
  have lr2 : vload Try.prog σd.objs 3 (.optr r 1) = some (.int .i64 d.room) := by rw [vload_obj Dd.hd G3]; rfl
  have lm2 : vload Try.prog σd.objs 55 (.optr r 0) = some (.omap rm) := by rw [vload_obj Dd.hd pGM]; rfl
  have hsz := size_does h hok
  rw [← hσd] at hsz
  have hbd : RB σd v bs := by
    rw [hσd]
    exact hb.keep ((Keep.refl σ).push _)
  have hszl := sizeD_le hok
  have hws : IntKind.i64.wrap (((sizeD d.files : Nat) : Int) + (bs.length : Nat)) = ((sizeD d.files + bs.length : Nat) : Int) := by rw [wrap_i64 (by omega) (by omega)]; omega
  have hkt : ∀ σ', Next σd r rm fs σ' (appendD n bs d).2 → Next σ r rm fs σ' (appendD n bs d).2 := fun σ' hN => Next.trans Kd (fun x hx => .inl hx) hN
  simp only [k10_a, WK, vop, evAll, evOpt, evParts, vbuiltin, vun, vextract, Nat.reduceLT, Nat.reduceEqDiff, ↓reduceIte, reduceCtorEq, Nat.reduceAdd, Int.reduceLT, Int.reduceNeg, valloc_std, noSB, vhot, List.getD_cons_zero, List.getD_cons_succ]
  refine KD.ret (ready_does h n) ?_
  generalize hC : CC.seq k10_r14 _ = C14
  by_cases hr : readyD d n = 0
  · have hr' : ((readyD d n : Nat) : Int) = 0 := by omega
    cases hg : getF d.files n with
    | some f =>
      obtain ⟨a, p, b, hA⟩ := h.get_yes hok hg
      have hf : p.1 = f := by have := hA.g; rw [hg] at this; injection this with this; exact this.symm
      obtain ⟨g1, g2, g3⟩ := hA.ids h
      have hgt := hok.get hg
      have ls : vload Try.prog σ.objs 28 (.optr p.2.rf 0) = some p.2.s := by rw [vload_obj g1.ob pGB]; rfl
      have lw : vload Try.prog σ.objs 28 (.optr p.2.rf 1) = some p.2.w := by rw [vload_obj g1.ob pGB]; rfl
      have vs : vlen Try.prog 28 p.2.s = some (.int .i64 (p.1.safe.length : Nat)) := by rw [rowOf_len g1.s, List.length_map]
      have vw : vlen Try.prog 28 p.2.w = some (.int .i64 (p.1.wait.length : Nat)) := by rw [rowOf_len g1.w, List.length_map]
      have hlen : p.1.safe.length + p.1.wait.length ≤ 1048576 := by rw [hf]; exact hgt.2.2.2
      have w1 : IntKind.i64.wrap (1048576 - (p.1.safe.length : Int)) = 1048576 - (p.1.safe.length : Int) := wrap_i64 (by omega) (by omega)
      have w2 : IntKind.i64.wrap (1048576 - (p.1.safe.length : Int) - (p.1.wait.length : Int)) = 1048576 - (p.1.safe.length : Int) - (p.1.wait.length : Int) := wrap_i64 (by omega) (by omega)
      have hn0 : ¬ readyD d n ≠ 0 := fun h => h hr
      by_cases hbig : 1048576 < f.len + bs.length
      · have e : appendD n bs d = (3, d) := by unfold appendD; rw [if_neg hn0, hg]; simp only [Option.getD_some]; rw [if_pos hbig]
        have hbig' : 1048576 - (p.1.safe.length : Int) - (p.1.wait.length : Int) < (bs.length : Nat) := by rw [hf]; simp only [Fl.len] at hbig; omega
        simp only [k10_a, WK, vop, evAll, evOpt, evParts, vbuiltin, vun, vextract, Nat.reduceLT, Nat.reduceEqDiff, ↓reduceIte, reduceCtorEq, Nat.reduceAdd, Int.reduceLT, Int.reduceNeg, valloc_std, noSB, vhot, hr', pFA r 0 (by omega), lm, h.look_yes hA, hb.len, neq_optr pTF, eql_optr pTF, pFF0, pFF1, ls, lw, vs, vw, w1, w2, hbig', e]
        exact ⟨rfl, Next.refl h⟩
      · have hbig' : ¬ 1048576 - (p.1.safe.length : Int) - (p.1.wait.length : Int) < (bs.length : Nat) := by rw [hf]; simp only [Fl.len] at hbig; omega
        have hb2 : ¬ (1048576 : Int) < (bs.length : Nat) := by simp only [Fl.len] at hbig; omega
        simp only [k10_a, WK, vop, evAll, evOpt, evParts, vbuiltin, vun, vextract, Nat.reduceLT, Nat.reduceEqDiff, ↓reduceIte, reduceCtorEq, Nat.reduceAdd, Int.reduceLT, Int.reduceNeg, valloc_std, noSB, vhot, hr', pFA r 0 (by omega), pFA r 1 (by omega), lm, lr, lr2, h.look_yes hA, hb.len, neq_optr pTF, eql_optr pTF, pFF0, pFF1, ls, lw, vs, vw, w1, w2, hbig', hb2, decide_false]
        refine KD.ret hsz ?_
        by_cases hfull : d.room < ((sizeD d.files + bs.length : Nat) : Int)
        · have e : appendD n bs d = (22, d) := by
            unfold appendD; rw [if_neg hn0, hg]; simp only [Option.getD_some]; rw [if_neg hbig, if_pos (.inr hfull)]
          rw [e] at hkt ⊢
          simp only [k10_a, WK, vop, evAll, evOpt, evParts, vbuiltin, vun, vextract, Nat.reduceLT, Nat.reduceEqDiff, ↓reduceIte, reduceCtorEq, Nat.reduceAdd, Int.reduceLT, Int.reduceNeg, valloc_std, noSB, vhot, hr', pFA r 0 (by omega), pFA r 1 (by omega), lm, lr, lr2, hb.len, hws, hfull, decide_true]
          exact ⟨rfl, hkt _ (Next.refl Dd)⟩
        · have e : appendD n bs d = (if (rawD { d with files := putF ⟨n, f.safe, f.wait ++ bs⟩ d.files }).1 = true then (20, offD d.keep (rawD { d with files := putF ⟨n, f.safe, f.wait ++ bs⟩ d.files }).2) else (0, (rawD { d with files := putF ⟨n, f.safe, f.wait ++ bs⟩ d.files }).2)) := by
            unfold appendD; rw [if_neg hn0, hg]; simp only [Option.getD_some]; rw [if_neg hbig, if_neg (fun h => h.elim (fun h1 => by simp at h1) hfull)]
          simp only [k10_a, WK, vop, evAll, evOpt, evParts, vbuiltin, vun, vextract, Nat.reduceLT, Nat.reduceEqDiff, ↓reduceIte, reduceCtorEq, Nat.reduceAdd, Int.reduceLT, Int.reduceNeg, valloc_std, noSB, vhot, hr', pFA r 0 (by omega), pFA r 1 (by omega), lm, lr, lr2, hb.len, hws, hfull, decide_false, eql_optr pTF]
          rw [← hC]
          refine append_tail Dd hok hA hw hbd (by rw [hf]; omega) (by simp [upd_some]) (by simp [upd_some]) (by simp [upd_some]) _ rfl ?_
          intro σ' x hN hx
          rw [hf] at hN hx
          refine ⟨?_, hkt σ' ?_⟩
          · rw [hx, e]; split <;> rfl
          · rw [e]
            split at hN
            · rename_i h9; rw [if_pos h9]; exact hN
            · rename_i h9; rw [if_neg h9]; exact hN
    | none =>
      have hn0 : ¬ readyD d n ≠ 0 := fun h => h hr
      have hlD : vmapLen Try.prog σ.objs 55 (.omap rm) = some (.int .i64 (d.files.length : Nat)) := by
        simp only [vmapLen, pTM, h.hm, List.length_map]
        have := h.pm.length_eq
        rw [List.length_map] at this
        rw [this]
      have hvl : vlen Try.prog 55 (.omap rm) = none := by simp [vlen, pTM]
      by_cases hbig : 1048576 < bs.length
      · have hbig' : (1048576 : Int) < (bs.length : Nat) := by omega
        have e : appendD n bs d = (3, d) := by unfold appendD; rw [if_neg hn0, hg]; simp only [Option.getD_none]; rw [if_pos (by simp [Fl.len]; omega)]
        simp only [k10_a, WK, vop, evAll, evOpt, evParts, vbuiltin, vun, vextract, Nat.reduceLT, Nat.reduceEqDiff, ↓reduceIte, reduceCtorEq, Nat.reduceAdd, Int.reduceLT, Int.reduceNeg, valloc_std, noSB, vhot, hr', pFA r 0 (by omega), lm, h.look_no hg, hb.len, neq_nilp pTF, eql_nilp pTF, ofNilP, hbig', decide_true, e]
        exact ⟨rfl, Next.refl h⟩
      · have hbig' : ¬ (1048576 : Int) < (bs.length : Nat) := by omega
        have hbig2 : ¬ 1048576 < (⟨n, [], []⟩ : Fl).len + bs.length := by simp [Fl.len]; omega
        simp only [k10_a, WK, vop, evAll, evOpt, evParts, vbuiltin, vun, vextract, Nat.reduceLT, Nat.reduceEqDiff, ↓reduceIte, reduceCtorEq, Nat.reduceAdd, Int.reduceLT, Int.reduceNeg, valloc_std, noSB, vhot, hr', pFA r 0 (by omega), lm, h.look_no hg, hb.len, neq_nilp pTF, eql_nilp pTF, ofNilP, hbig', decide_false, hlD, hvl]
        by_cases hmany : 16 ≤ d.files.length
        · have hmany' : (16 : Int) ≤ (d.files.length : Nat) := by omega
          have e : appendD n bs d = (22, d) := by
            unfold appendD; rw [if_neg hn0, hg]; simp only [Option.getD_none]; rw [if_neg hbig2, if_pos (.inl ⟨rfl, hmany⟩)]
          simp only [k10_a, WK, vop, evAll, evOpt, evParts, vbuiltin, vun, vextract, Nat.reduceLT, Nat.reduceEqDiff, ↓reduceIte, reduceCtorEq, Nat.reduceAdd, Int.reduceLT, Int.reduceNeg, valloc_std, noSB, vhot, hmany', decide_true, e]
          exact ⟨rfl, Next.refl h⟩
        · have hmany' : ¬ (16 : Int) ≤ (d.files.length : Nat) := by omega
          simp only [k10_a, WK, vop, evAll, evOpt, evParts, vbuiltin, vun, vextract, Nat.reduceLT, Nat.reduceEqDiff, ↓reduceIte, reduceCtorEq, Nat.reduceAdd, Int.reduceLT, Int.reduceNeg, valloc_std, noSB, vhot, hmany', decide_false, pFA r 0 (by omega), pFA r 1 (by omega), lm, lr, lr2, hb.len]
          refine KD.ret hsz ?_
          by_cases hfull : d.room < ((sizeD d.files + bs.length : Nat) : Int)
          · have e : appendD n bs d = (22, d) := by
              unfold appendD; rw [if_neg hn0, hg]; simp only [Option.getD_none]; rw [if_neg hbig2, if_pos (.inr hfull)]
            rw [e] at hkt ⊢
            simp only [k10_a, WK, vop, evAll, evOpt, evParts, vbuiltin, vun, vextract, Nat.reduceLT, Nat.reduceEqDiff, ↓reduceIte, reduceCtorEq, Nat.reduceAdd, Int.reduceLT, Int.reduceNeg, valloc_std, noSB, vhot, hr', pFA r 0 (by omega), pFA r 1 (by omega), lm, lr, lr2, hb.len, hws, hfull, decide_true]
            exact ⟨rfl, hkt _ (Next.refl Dd)⟩
          · obtain ⟨x, hx⟩ : ∃ x : Dk, x = { d with files := putF ⟨n, [], bs⟩ d.files } := ⟨_, rfl⟩
            have e : appendD n bs d = (if (rawD x).1 = true then (20, offD d.keep (rawD x).2) else (0, (rawD x).2)) := by
              unfold appendD; rw [if_neg hn0, hg]; simp only [Option.getD_none]; rw [if_neg hbig2, if_neg (fun h => h.elim (fun h1 => hmany h1.2) hfull), hx]; rfl
            obtain ⟨s1, hs1⟩ : ∃ s1 : St, s1 = ⟨σd.objs ++ [.cells [.nils, .nils]], σd.toks⟩ := ⟨_, rfl⟩
            obtain ⟨s2, p, d2, hst, hd2, hp1, hp2, D2, K2, A2, L2, I2⟩ := Dd.fresh hok hg (σ2 := s1) hs1
            have l1 : vload Try.prog s1.objs 55 (.optr r 0) = some (.omap rm) := by rw [hs1, vload_obj (Dd.pushed _).hd pGM]; rfl
            have hbf : vbuild Try.prog 60 [] = some (.agg [.nils, .nils]) := by kernel_rfl
            have ok2 : d2.Ok := by
              rw [hd2]
              exact hok.put (readyD_named hr).1 (by simp [Fl.len]) fun _ => by omega
            have hb2 : RB s2 v bs := hbd.ks K2 fun q hq cs hc => by
              rw [List.mem_singleton] at hq
              subst hq
              rw [Dd.hm] at hc
              cases hc
            have K2 : KS (foot r rm fs) σd s2 := K2.mono fun q hq => .inl (by rw [List.mem_singleton] at hq; subst hq; simp [foot])
            simp only [k10_a, WK, vop, evAll, evOpt, evParts, vbuiltin, vun, vextract, Nat.reduceLT, Nat.reduceEqDiff, ↓reduceIte, reduceCtorEq, Nat.reduceAdd, Int.reduceLT, Int.reduceNeg, valloc_std, noSB, vhot, hr', pFA r 0 (by omega), pFA r 1 (by omega), lm, lr, lr2, hb.len, hws, hfull, decide_false, eql_nilp pTF, hbf, vbox, vcells, ← hs1, l1, hst]
            rw [← hC]
            refine append_tail D2 ok2 A2 (by rw [hd2]; exact hw) hb2 (by rw [hp1]; simp [Fl.len]; omega) (by simp [upd_some]) (by simp [upd_some]) (by simp [upd_some, hp2]) x ?_ ?_
            · rw [hx, hd2, hp1]; simp only [List.nil_append]; rw [putF_putF (x := ⟨n, [], bs⟩) (y := ⟨n, [], []⟩) rfl]
            intro σ' c hN hc
            have hkp : d2.keep = d.keep := by rw [hd2]
            rw [hkp] at hN
            refine ⟨?_, hkt σ' ?_⟩
            · rw [hc, e]; split <;> rfl
            · rw [e]
              split at hN
              · rename_i h9; rw [if_pos h9]; exact Next.trans K2 I2 hN
              · rename_i h9; rw [if_neg h9]; exact Next.trans K2 I2 hN
  · have hr' : ¬ ((readyD d n : Nat) : Int) = 0 := by omega
    have e : appendD n bs d = (readyD d n, d) := by unfold appendD; rw [if_pos hr]
    simp only [k10_a, WK, vop, evAll, evOpt, evParts, vbuiltin, vun, vextract, Nat.reduceLT, Nat.reduceEqDiff, ↓reduceIte, reduceCtorEq, Nat.reduceAdd, Int.reduceLT, Int.reduceNeg, valloc_std, noSB, vhot, hr', e]
    exact Next.refl h
end Go.Proofs.Ytnbmfhnfmhgaaaa.Q

/- Sync, Truncate, Rename, Remove. -/
set_option linter.unusedVariables false
set_option linter.unusedSimpArgs false
set_option maxRecDepth 100000
namespace Go.Proofs.Ytnbmfhnfmhgaaaa.Q
open Go Go.RowKit Go.Proofs
theorem rowOf_news {objs : List Ob} {v : V} {q : Option Nat} {cs : List V} (h : rowOf objs v = some (q, cs)) : vnewsO Try.prog objs 28 v 1 = some (cs, cs.length) := by
  rcases rowOf_spec h with ⟨rfl, rfl, rfl⟩ | ⟨r, full, rfl, rfl, hr, hl, hc⟩
  · simp [vnewsO, vnews, pTB]
  · have h2 : List.take cs.length full = cs := hc.symm
    simp [vnewsO, vnews, pTB, hr, hl, h2]
theorem Has.facts {σ : St} {r rm : Nat} {d : Dk} {fs a b : List Ent} {p : Ent} {n : List UInt8} (h : DiskAt σ r d rm fs) (hok : d.Ok) (hA : Has d fs a b p n) :
    vload Try.prog σ.objs 28 (.optr p.2.rf 0) = some p.2.s ∧ vload Try.prog σ.objs 28 (.optr p.2.rf 1) = some p.2.w ∧ vlen Try.prog 28 p.2.s = some (.int .i64 (p.1.safe.length : Nat)) ∧ vlen Try.prog 28 p.2.w = some (.int .i64 (p.1.wait.length : Nat)) ∧
      p.1.safe.length + p.1.wait.length ≤ 1048576 ∧ namedD n = true ∧ (p.2.rs.toList ++ p.2.rw.toList).Nodup ∧ p.2.rf ∉ p.2.rs.toList ++ p.2.rw.toList := by
  obtain ⟨g1, g2, g3⟩ := hA.ids h
  have hgt := hok.get hA.g
  simp only [FO.ids, List.nodup_cons] at g2
  exact ⟨by rw [vload_obj g1.ob pGB]; rfl, by rw [vload_obj g1.ob pGB]; rfl, by rw [rowOf_len g1.s, List.length_map], by rw [rowOf_len g1.w, List.length_map], hgt.2.2.2, hgt.2.2.1, g2.2, g2.1⟩
theorem sync_sees {σ : St} {r rm : Nat} {d : Dk} {fs : List Ent} {n : List UInt8} (h : DiskAt σ r d rm fs) (hok : d.Ok) (hw : d.writes < 4611686018427387904) :
    ∃ q σ', Does Try.prog prims 13 [.optr r 0, .str n] σ q σ' ∧ (q = .ret (.int .i64 ((syncD n d).1 : Nat)) ∧ Next σ r rm fs σ' (syncD n d).2) := by
  apply k13_is.does (by simp)
  simp only [k13_a, WK, vop, evAll, evOpt, evParts, vbuiltin, vun, vextract, Nat.reduceLT, Nat.reduceEqDiff, ↓reduceIte, reduceCtorEq, Nat.reduceAdd, Int.reduceLT, Int.reduceNeg, valloc_std, noSB, vhot, List.getD_cons_zero, List.getD_cons_succ]
  by_cases hz : thereD d n = 0
  · obtain ⟨a, b, p, hA, hr⟩ := there_ok h hok hz
    refine KD.ret (there_yes h hr hA) ?_
    obtain ⟨σ1, r1, D1, r3, r4, σ2, r5, r6⟩ := rawNext h hok hw
    obtain ⟨f1, f2, f3, f4, f5⟩ := raw_files d
    simp only [k13_a, WK, vop, evAll, evOpt, evParts, vbuiltin, vun, vextract, Nat.reduceLT, Nat.reduceEqDiff, ↓reduceIte, reduceCtorEq, Nat.reduceAdd, Int.reduceLT, Int.reduceNeg, valloc_std, noSB, vhot]
    refine KD.ret r1 ?_
    have hz' : ¬ thereD d n ≠ 0 := fun h => h hz
    cases hgo : (rawD d).1 with
    | true =>
      have e : syncD n d = (20, offD d.keep (rawD d).2) := by unfold syncD; rw [if_neg hz', if_pos hgo]
      simp only [k13_a, WK, vop, evAll, evOpt, evParts, vbuiltin, vun, vextract, Nat.reduceLT, Nat.reduceEqDiff, ↓reduceIte, reduceCtorEq, Nat.reduceAdd, Int.reduceLT, Int.reduceNeg, valloc_std, noSB, vhot]
      refine KD.ret r5 ?_
      simp only [k13_a, WK, vop, evAll, evOpt, evParts, vbuiltin, vun, vextract, Nat.reduceLT, Nat.reduceEqDiff, ↓reduceIte, reduceCtorEq, Nat.reduceAdd, Int.reduceLT, Int.reduceNeg, valloc_std, noSB, vhot, e]
      exact ⟨rfl, r6⟩
    | false =>
      have A1 := hA.files (d2 := (rawD d).2) f1
      have e : syncD n d = (0, { (rawD d).2 with files := putF ⟨n, p.1.safe ++ p.1.wait, []⟩ d.files }) := by
        unfold syncD; rw [if_neg hz', if_neg (by rw [hgo]; simp), hA.g]; rfl
      obtain ⟨g1, g2, g3⟩ := A1.ids D1
      obtain ⟨l1, l2, v1, v2, hl, hn, hnd, hrf⟩ := A1.facts D1 hok.raw
      obtain ⟨s', qs, σa, ha, hsa, hka, hqa, h1a⟩ := rowApp g1.s (rowOf_news g1.w) (byteV_one _) (by simp; omega)
      obtain ⟨N1, hob⟩ := D1.upd hok.raw A1 (f' := ⟨n, p.1.safe ++ p.1.wait, []⟩) (s' := s') (w' := .nils) (qs := qs) (qw := none) (hka.mono fun x hx => .inl (List.mem_append_left _ hx)) (by rw [List.map_append]; exact hsa) rfl (fun x hx => by
        rcases List.mem_append.1 hx with h | h
        · rcases hqa x h with h | h
          · exact .inl (List.mem_append_left _ h)
          · exact .inr h
        · cases h) (by cases qs <;> simp) rfl
      obtain ⟨σb, hσb⟩ : ∃ σb : St, σb = ⟨σa.objs.set p.2.rf (.cells [s', p.2.w]), σa.toks⟩ := ⟨_, rfl⟩
      have st1 : vstore Try.prog σa 28 (.optr p.2.rf 0) s' = some σb := by rw [vstore_obj hob SBB h1a (by simp), hσb]; rfl
      have hobb : σb.objs[p.2.rf]? = some (.cells [s', p.2.w]) := by rw [hσb]; exact obj_set hob
      have st2 : vstore Try.prog σb 28 (.optr p.2.rf 1) .nils = some ⟨σa.objs.set p.2.rf (.cells [s', .nils]), σa.toks⟩ := by
        rw [vstore_obj hobb SBB rfl (by simp), hσb]; simp [List.set_set]
      simp only [k13_a, WK, vop, evAll, evOpt, evParts, vbuiltin, vun, vextract, Nat.reduceLT, Nat.reduceEqDiff, ↓reduceIte, reduceCtorEq, Nat.reduceAdd, Int.reduceLT, Int.reduceNeg, valloc_std, noSB, vhot, pFF0, pFF1, l1, l2, ha, st1, st2, nilEP, e]
      rw [f1] at N1
      exact ⟨rfl, Next.trans r3 (fun x hx => .inl hx) N1⟩
  · refine KD.ret (there_no h n hz) ?_
    have hz' : ¬ ((thereD d n : Nat) : Int) = 0 := by omega
    have e : syncD n d = (thereD d n, d) := by unfold syncD; rw [if_pos hz]
    simp only [k13_a, WK, vop, evAll, evOpt, evParts, vbuiltin, vun, vextract, Nat.reduceLT, Nat.reduceEqDiff, ↓reduceIte, reduceCtorEq, Nat.reduceAdd, Int.reduceLT, Int.reduceNeg, valloc_std, noSB, vhot, hz', e]
    exact Next.refl h
/-! ### Files leave the map, and come into it -/
theorem DiskAt.gone {σ : St} {r rm : Nat} {d : Dk} {fs a b : List Ent} {p : Ent} {n : List UInt8} (h : DiskAt σ r d rm fs) (hok : d.Ok) (hA : Has d fs a b p n) :
    ∃ σ', vmapDel Try.prog σ 55 (.omap rm) (.str n) = some σ' ∧ DiskAt σ' r { d with files := dropF n d.files } rm (a ++ b) ∧ KS [rm] σ σ' ∧ FAt σ'.objs p ∧ p.2.ids.Nodup ∧ (∀ x ∈ p.2.ids, x ∈ foot r rm fs ∧ x ∉ foot r rm (a ++ b)) ∧ ∀ x ∈ foot r rm (a ++ b), x ∈ foot r rm fs := by
  have hlt := h.lt
  have hN := h.nd
  obtain ⟨g1, g2, g3⟩ := hA.ids h
  have hfs := hA.e
  subst hfs
  have hpm := h.pm
  unfold foot at hN
  rw [List.nodup_cons, List.nodup_cons, flat_mid] at hN
  obtain ⟨n1, n2, n3⟩ := hN
  have hml := hlt rm (by simp [foot])
  have hv := find_yes (a := a) (b := b) (p := p) (by rw [hA.nm]; exact hA.a) 0
  rw [hA.nm] at hv
  have hne : ∀ x, x ∈ (a ++ p :: b).flatMap (fun p => p.2.ids) → rm ≠ x := fun x hx e => n2 (by rw [flat_mid] at hx; rw [e]; exact hx)
  have hkeep : ∀ q ∈ a ++ p :: b, FAt (σ.objs.set rm (.mp ((a ++ b).map fent))) q := fun q hq => (h.hf q hq).frame fun x hx o ho => by
    rw [List.getElem?_set_ne (hne x (List.mem_flatMap.2 ⟨q, hq, hx⟩))]; exact ho
  have hids : ∀ x ∈ foot r rm (a ++ b), x ∈ foot r rm (a ++ p :: b) := by
    intro x hx
    simp only [foot, List.mem_cons, List.flatMap_append, List.flatMap_cons, List.mem_append] at hx ⊢
    rcases hx with h | h | h | h
    · exact .inl h
    · exact .inr (.inl h)
    · exact .inr (.inr (.inl h))
    · exact .inr (.inr (.inr (.inr h)))
  have hsub : ((a ++ b).flatMap fun p => p.2.ids).Sublist ((a ++ p :: b).flatMap fun p => p.2.ids) := by
    rw [flat_mid, List.flatMap_append]
    exact (List.Sublist.refl _).append (List.sublist_append_right ..)
  refine ⟨⟨σ.objs.set rm (.mp ((a ++ b).map fent)), σ.toks⟩, ?_, ⟨?_, ?_, fun q hq => hkeep q ?_, ?_, ?_⟩, KS.set (.inl (by simp)) _, hkeep p (by simp), g2, fun x hx => ⟨?_, fun hx2 => ?_⟩, hids⟩
  · simp only [vmapDel, pTM, h.hm, keyD, hv]
    congr 3
    rw [List.map_append, List.map_cons, Nat.zero_add, ← List.length_map (f := fent), List.eraseIdx_append_of_length_le (Nat.le_refl _), Nat.sub_self, List.map_append]
    rfl
  · simp only
    rw [List.getElem?_set_ne (fun e => n1 (by rw [e]; exact List.mem_cons_self ..))]
    exact h.hd
  · simp only
    rw [List.getElem?_set_self hml]
  · rcases List.mem_append.1 hq with h | h <;> simp [h]
  · have := h.nd
    unfold foot at this ⊢
    exact (List.Sublist.cons_cons _ (List.Sublist.cons_cons _ hsub)).nodup this
  · simp only [List.map_append, List.map_cons] at hpm ⊢
    have e : (a.map (·.1) ++ b.map (·.1)) = dropF n (a.map (·.1) ++ p.1 :: b.map (·.1)) := by
      unfold dropF
      rw [List.filter_append, List.filter_cons]
      simp only [hA.nm, ne_eq, not_true_eq_false, decide_false, Bool.false_eq_true, ↓reduceIte]
      rw [List.filter_eq_self.2, List.filter_eq_self.2]
      · intro f hf
        obtain ⟨q, hq, rfl⟩ := List.mem_map.1 hf
        simp [hA.b q hq]
      · intro f hf
        obtain ⟨q, hq, rfl⟩ := List.mem_map.1 hf
        simp [hA.a q hq]
    rw [e]
    exact hpm.filter _
  · simp only [foot, List.mem_cons, List.mem_flatMap]
    exact .inr (.inr ⟨p, by simp, hx⟩)
  · simp only [foot, List.mem_cons, List.flatMap_append, List.mem_append] at hx2
    rw [List.nodup_append, List.nodup_append] at n3
    rcases hx2 with h | h | h | h
    · subst h; exact n1 (List.mem_cons_of_mem _ (by simp [hx]))
    · subst h; exact n2 (by simp [hx])
    · exact n3.2.2 x h x (List.mem_append_left _ hx) rfl
    · exact n3.2.1.2.2 x hx x h rfl
theorem putF_new {l : List Fl} {x : Fl} (hg : getF l x.name = none) : (putF x l).Perm (x :: l) := by
  unfold putF
  refine (List.perm_middle).trans (.cons _ ?_)
  have e : (l.filter fun f => decide (x.name < f.name)) = l.filter fun f => !decide (f.name < x.name) := by
    refine List.filter_congr fun f hf => ?_
    have hne := getF_none hg f hf
    rcases lt_or hne with h | h
    · have : ¬ x.name < f.name := fun h2 => lt_irrefl' _ (lt_trans' h h2)
      simp [h, this]
    · have : ¬ f.name < x.name := fun h2 => lt_irrefl' _ (lt_trans' h h2)
      simp [h, this]
  rw [e]
  exact List.filter_append_perm _ _
theorem DiskAt.come {σ : St} {r rm : Nat} {d : Dk} {fs : List Ent} {p : Ent} (h : DiskAt σ r d rm fs) (hok : d.Ok) (hF : FAt σ.objs p) (hnd : p.2.ids.Nodup) (hdj : ∀ x ∈ p.2.ids, x ∉ foot r rm fs) :
    ∃ σ' fs', vmapSet Try.prog σ 55 (.omap rm) (.str p.1.name) (.optr p.2.rf 0) = some σ' ∧ DiskAt σ' r { d with files := putF p.1 d.files } rm fs' ∧ KS [rm] σ σ' ∧ ∀ x ∈ foot r rm fs', x ∈ foot r rm fs ∨ x ∈ p.2.ids := by
  have hlt := h.lt
  have hN := h.nd
  have hN0 := hN
  have hml := hlt rm (by simp [foot])
  unfold foot at hN
  rw [List.nodup_cons, List.nodup_cons] at hN
  obtain ⟨n1, n2, n3⟩ := hN
  have hkeep : ∀ q ∈ fs, ∀ o, FAt (σ.objs.set rm o) q := fun q hq o => (h.hf q hq).frame fun x hx o ho => by
    rw [List.getElem?_set_ne (fun e => n2 (by rw [e]; exact List.mem_flatMap.2 ⟨q, hq, hx⟩))]; exact ho
  have hkp : ∀ o, FAt (σ.objs.set rm o) p := fun o => hF.frame fun x hx o ho => by
    rw [List.getElem?_set_ne (fun e => hdj x hx (by rw [← e]; simp [foot]))]; exact ho
  have hrm : rm ≠ r := fun e => n1 (by rw [← e]; exact List.mem_cons_self ..)
  cases hg : getF d.files p.1.name with
  | none =>
    have hno := h.get_no hg
    refine ⟨⟨σ.objs.set rm (.mp ((fs ++ [p]).map fent)), σ.toks⟩, fs ++ [p], ?_, ⟨?_, ?_, ?_, ?_, ?_⟩, KS.set (.inl (by simp)) _, ?_⟩
    · simp only [vmapSet, pTM, h.hm, keyD, find_no hno]
      rw [List.map_append]
      rfl
    · simp only; rw [List.getElem?_set_ne hrm]; exact h.hd
    · simp only; rw [List.getElem?_set_self hml]
    · intro q hq
      rcases List.mem_append.1 hq with hq | hq
      · exact hkeep q hq _
      · rw [List.mem_singleton] at hq; subst hq; exact hkp _
    · have e : foot r rm (fs ++ [p]) = foot r rm fs ++ p.2.ids := by simp [foot]
      rw [e, List.nodup_append]
      exact ⟨hN0, hnd, fun x hx y hy e => hdj y hy (by rw [← e]; exact hx)⟩
    · simp only [List.map_append, List.map_cons, List.map_nil]
      exact (List.perm_append_singleton ..).trans ((h.pm.cons _).trans (putF_new hg).symm)
    · intro x hx
      have e : foot r rm (fs ++ [p]) = foot r rm fs ++ p.2.ids := by simp [foot]
      rw [e, List.mem_append] at hx
      exact hx
  | some f =>
    obtain ⟨a, q, b, hA⟩ := h.get_yes hok hg
    have hfs := hA.e
    subst hfs
    have hpm := h.pm
    have hv := find_yes (a := a) (b := b) (p := q) (by rw [hA.nm]; exact hA.a) 0
    rw [hA.nm] at hv
    have hmem : ∀ x ∈ foot r rm (a ++ p :: b), x ∈ foot r rm (a ++ q :: b) ∨ x ∈ p.2.ids := by
      intro x hx
      simp only [foot, List.mem_cons, List.flatMap_append, List.flatMap_cons, List.mem_append] at hx ⊢
      rcases hx with h | h | h | h | h
      · exact .inl (.inl h)
      · exact .inl (.inr (.inl h))
      · exact .inl (.inr (.inr (.inl h)))
      · exact .inr h
      · exact .inl (.inr (.inr (.inr (.inr h))))
    refine ⟨⟨σ.objs.set rm (.mp ((a ++ p :: b).map fent)), σ.toks⟩, a ++ p :: b, ?_, ⟨?_, ?_, ?_, ?_, ?_⟩, KS.set (.inl (by simp)) _, hmem⟩
    · simp only [vmapSet, pTM, h.hm, keyD, hv]
      congr 3
      rw [List.map_append, List.map_cons, Nat.zero_add, ← List.length_map (f := fent), List.set_append_right _ _ (Nat.le_refl _), Nat.sub_self, List.map_append]
      rfl
    · simp only; rw [List.getElem?_set_ne hrm]; exact h.hd
    · simp only; rw [List.getElem?_set_self hml]
    · intro x hx
      simp only [List.mem_append, List.mem_cons] at hx
      rcases hx with hx | rfl | hx
      · exact hkeep x (by simp [hx]) _
      · exact hkp _
      · exact hkeep x (by simp [hx]) _
    · unfold foot at hN0 ⊢
      rw [flat_mid] at hN0 ⊢
      have hdj2 : ∀ x ∈ p.2.ids, x ∉ r :: rm :: ((a.flatMap fun p => p.2.ids) ++ (q.2.ids ++ b.flatMap fun p => p.2.ids)) := fun x hx hx2 => hdj x hx (by unfold foot; rw [flat_mid]; exact hx2)
      rw [← List.cons_append, ← List.cons_append] at hN0 ⊢
      rw [List.nodup_append, List.nodup_append] at hN0 ⊢
      obtain ⟨m1, ⟨m2, m3, m4⟩, m5⟩ := hN0
      refine ⟨m1, ⟨hnd, m3, fun x hx y hy e => hdj2 x hx (by rw [e]; simp [hy])⟩, fun x hx y hy e => ?_⟩
      rcases List.mem_append.1 hy with hy | hy
      · refine hdj2 y hy ?_
        rw [← e]
        rw [← List.cons_append, ← List.cons_append]
        exact List.mem_append_left _ hx
      · exact m5 x hx y (List.mem_append_right _ hy) e
    · simp only [List.map_append, List.map_cons] at hpm ⊢
      exact putF_perm hok.rise hpm hA.nm.symm
end Go.Proofs.Ytnbmfhnfmhgaaaa.Q

/- Remove, Rename, and the small calls. -/
set_option linter.unusedVariables false
set_option linter.unusedSimpArgs false
set_option maxRecDepth 100000
namespace Go.Proofs.Ytnbmfhnfmhgaaaa.Q
open Go Go.RowKit Go.Proofs
end Go.Proofs.Ytnbmfhnfmhgaaaa.Q

/- Concat, Read and Names. -/
set_option linter.unusedVariables false
set_option linter.unusedSimpArgs false
set_option maxRecDepth 100000
namespace Go.Proofs.Ytnbmfhnfmhgaaaa.Q
open Go Go.RowKit Go.Proofs
theorem TBB : Try.prog.underlying 22 = some (.slice 28) := by kernel_rfl
theorem grow_does {σ : St} {n : Nat} (hn : n ≤ 1000000000) : ∃ v q σ', Does Try.prog prims 50 [.nils, .int .i64 (n : Int)] σ (.ret v) σ' ∧ rowOf σ'.objs v = some (q, []) ∧ KS [] σ σ' ∧ ∀ x ∈ q.toList, σ.objs.length ≤ x := by
  have key : ∃ r σ', Does Try.prog prims 50 [.nils, .int .i64 (n : Int)] σ r σ' ∧ ∃ v q, r = .ret v ∧ rowOf σ'.objs v = some (q, []) ∧ KS [] σ σ' ∧ ∀ x ∈ q.toList, σ.objs.length ≤ x := by
    apply k50_is.does (by simp)
    have h0 : ¬ (n : Int) < 0 := by omega
    have hvc : vcap Try.prog 28 .nils = some (.int .i64 0) := by kernel_rfl
    have hvl : vlen Try.prog 28 .nils = some (.int .i64 0) := by kernel_rfl
    have hw0 : IntKind.i64.wrap ((0 : Int) - 0) = 0 := by decide
    have hwn : IntKind.i64.wrap ((n : Int) - 0) = n := by rw [wrap_i64 (by omega) (by omega)]; omega
    have hsl : vslice Try.prog 28 .nils none (some (.int .i64 0)) none = some .nils := by kernel_rfl
    by_cases hz : n = 0
    · have h1 : ¬ (0 : Int) < (n : Int) := by omega
      simp only [k50_a, WK, vop, evAll, evOpt, evParts, vbuiltin, vun, vextract, Nat.reduceLT, Nat.reduceEqDiff, ↓reduceIte, reduceCtorEq, Nat.reduceAdd, Int.reduceLT, Int.reduceNeg, valloc_std, noSB, vhot, List.getD_cons_zero, List.getD_cons_succ, h0, hvc, hvl, hw0, hwn, nilEP, h1, decide_false]
      exact ⟨.nils, none, rfl, rfl, KS.refl _ _, fun x hx => by cases hx⟩
    · have h1 : (0 : Int) < (n : Int) := by omega
      have hno : vappendRow Try.prog σ 28 3 .nils (.int .i64 (n : Int)) = none := by
        simp [vappendRow, pTB, bInfo, pS1, bZero, vnewsO, vnews, T3]
      have hmk : vappendMake Try.prog σ 28 3 .nils (.int .i64 (n : Int)) = some (.hslice σ.objs.length 0 1 n, ⟨σ.objs ++ [.cells []], σ.toks⟩) := by
        have : 0 < n := by omega
        have h9 : n ≤ 140737488355328 := by omega
        simp [vappendMake, pTB, bInfo, pS1, bZero, T3, vcells, this, h9]
      have hb := vbounds_hi (k := .i64) (n := 0) (len := n) (by omega) (by omega)
      have hs2 : vslice Try.prog 28 (.hslice σ.objs.length 0 1 n) none (some (.int .i64 0)) none = some (.hslice σ.objs.length 0 1 0) := by
        simp only [vslice, pTB, pS1, hb]
        simp
      simp only [k50_a, WK, vop, evAll, evOpt, evParts, vbuiltin, vun, vextract, Nat.reduceLT, Nat.reduceEqDiff, ↓reduceIte, reduceCtorEq, Nat.reduceAdd, Int.reduceLT, Int.reduceNeg, valloc_std, noSB, vhot, List.getD_cons_zero, List.getD_cons_succ, h0, hvc, hvl, hw0, hwn, nilEP, h1, decide_true, hsl, pTB, hno, hmk, hs2]
      refine ⟨_, some σ.objs.length, rfl, ?_, KS.push _ _ _, fun x hx => by simp at hx; omega⟩
      simp [rowOf]
  obtain ⟨r, σ', h1, v, q, rfl, h2⟩ := key
  exact ⟨v, q, σ', h1, h2⟩
/-- Rows put behind each other. -/
theorem concat_does {σ : St} {pm : Perm} {vs : List V} {bss : List (List UInt8)} (hl : vs.length = bss.length) (hb : ∀ (i : Nat) (h : i < vs.length) (h' : i < bss.length), RB σ vs[i] bss[i]) (hlen : bss.flatten.length ≤ 1000000000) (hcl : bss.length ≤ 1000000000) :
    ∃ v q σ', Does Try.prog prims 36 [.slice pm 1 vs vs.length] σ (.ret v) σ' ∧ rowOf σ'.objs v = some (q, bss.flatten.map byteV) ∧ KS [] σ σ' ∧ ∀ x ∈ q.toList, σ.objs.length ≤ x := by
  have key : ∃ r σ', Does Try.prog prims 36 [.slice pm 1 vs vs.length] σ r σ' ∧ ∃ v q, r = .ret v ∧ rowOf σ'.objs v = some (q, bss.flatten.map byteV) ∧ KS [] σ σ' ∧ ∀ x ∈ q.toList, σ.objs.length ≤ x := by
    apply k36_is.does (by simp)
    have hvl : vlen Try.prog 22 (.slice pm 1 vs vs.length) = some (.int .i64 (vs.length : Nat)) := by simp [vlen, TBB]
    have haddr : ∀ i : Nat, i < vs.length → vindexAddr Try.prog 22 (.slice pm 1 vs vs.length) (.int .i64 (i : Int)) = some (.eptr vs i) := by
      intro i hi
      have h1 : vs.isEmpty = false := by cases vs with | nil => simp at hi | cons => rfl
      have h2 : (i : Int) < vs.length := by omega
      simp [vindexAddr, TBB, SBB, h1, h2]
    have hload : ∀ (s : St) (i : Nat) (hi : i < vs.length), vload Try.prog s.objs 28 (.eptr vs i) = some vs[i] := by
      intro s i hi
      simp [vload, vcellsAt, vpart, pGB, hi]
    have hsum : ∀ i, i ≤ bss.length → (bss.take i).flatten.length ≤ bss.flatten.length := by
      intro i hi
      have := congrArg List.length (congrArg List.flatten (List.take_append_drop i bss))
      rw [List.flatten_append, List.length_append] at this
      omega
    have hstep : ∀ i (h : i < bss.length), (bss.take (i + 1)).flatten = (bss.take i).flatten ++ bss[i] := by
      intro i h
      rw [List.take_succ_eq_append_getElem h, List.flatten_append]
      simp
    simp only [k36_a, WK, vop, evAll, evOpt, evParts, vbuiltin, vun, vextract, Nat.reduceLT, Nat.reduceEqDiff, ↓reduceIte, reduceCtorEq, Nat.reduceAdd, Int.reduceLT, Int.reduceNeg, valloc_std, noSB, vhot, List.getD_cons_zero, List.getD_cons_succ, hvl, nilEP]
    refine Ev.loopF (fun (i : Nat) e σ' => σ' = σ ∧ e 11 = .int .i64 (i : Nat) ∧ i ≤ vs.length ∧ e 3 = .int .i64 ((bss.take i).flatten.length : Nat)) (fun i => vs.length - i) 0 ⟨rfl, by simp [upd_some], Nat.zero_le _, by simp [upd_some]⟩ ?_
    rintro i e σ' ⟨rfl, h11, hi, h3⟩ hf
    have h0 : e 0 = .slice pm 1 vs vs.length := (hf 0 (by decide)).trans (by simp [upd_some])
    have h9 : e 9 = .slice pm 1 vs vs.length := (hf 9 (by decide)).trans (by simp [upd_some])
    have h10 : e 10 = .int .i64 (vs.length : Nat) := (hf 10 (by decide)).trans (by simp [upd_some])
    clear hf
    by_cases hlt : i < vs.length
    · have hlt' : (i : Int) < vs.length := by omega
      have hlb : i < bss.length := by omega
      have hwi : IntKind.i64.wrap ((i : Int) + 1) = ((i + 1 : Nat) : Int) := by rw [show ((i : Int) + 1) = ((i + 1 : Nat) : Int) from by omega]; exact wrap_nat (by omega)
      have hle := hsum (i + 1) (by omega)
      have hst := hstep i hlb
      have hws : IntKind.i64.wrap (((bss.take i).flatten.length : Nat) + (bss[i].length : Nat) : Int) = (((bss.take (i + 1)).flatten.length : Nat) : Int) := by
        rw [hst, List.length_append] at hle ⊢
        rw [wrap_i64 (by omega) (by omega)]; omega
      have hn0 : ¬ (((bss.take (i + 1)).flatten.length : Nat) : Int) < 0 := by omega
      simp only [k36_a, WK, vop, evAll, evOpt, evParts, vbuiltin, vun, vextract, Nat.reduceLT, Nat.reduceEqDiff, ↓reduceIte, reduceCtorEq, Nat.reduceAdd, Int.reduceLT, Int.reduceNeg, valloc_std, noSB, vhot, h9, h10, h11, h3, hlt', haddr i hlt, hload _ i hlt, (hb i hlt hlb).len, hws, hn0, hwi, decide_true, decide_false]
      exact ⟨i + 1, ⟨by simp [upd_some], by omega, by simp [upd_some]⟩, by omega⟩
    · have hlt' : ¬ (i : Int) < vs.length := by omega
      have hall : bss.take i = bss := List.take_of_length_le (by omega)
      rw [hall] at h3
      obtain ⟨v1, q1, s1, g1, g2, g3, g4⟩ := grow_does (σ := σ') hlen
      simp only [k36_a, WK, vop, evAll, evOpt, evParts, vbuiltin, vun, vextract, Nat.reduceLT, Nat.reduceEqDiff, ↓reduceIte, reduceCtorEq, Nat.reduceAdd, Int.reduceLT, Int.reduceNeg, valloc_std, noSB, vhot, h9, h10, h11, h3, hlt', decide_false, nilEP]
      refine KD.ret g1 ?_
      simp only [k36_a, WK, vop, evAll, evOpt, evParts, vbuiltin, vun, vextract, Nat.reduceLT, Nat.reduceEqDiff, ↓reduceIte, reduceCtorEq, Nat.reduceAdd, Int.reduceLT, Int.reduceNeg, valloc_std, noSB, vhot, h0, hvl]
      refine Ev.loopF (fun (j : Nat) e s => ∃ q, e 27 = .int .i64 (j : Nat) ∧ j ≤ vs.length ∧ rowOf s.objs (e 6) = some (q, (bss.take j).flatten.map byteV) ∧ KS [] σ' s ∧ ∀ x ∈ q.toList, σ'.objs.length ≤ x) (fun i => vs.length - i) 0 ⟨q1, by simp [upd_some], Nat.zero_le _, by simpa [upd_some] using g2, g3, g4⟩ ?_
      rintro j e2 s ⟨q, k27, hj, k6, kk, kq⟩ hf2
      have k25 : e2 25 = .slice pm 1 vs vs.length := (hf2 25 (by decide)).trans (by simp [upd_some])
      have k26 : e2 26 = .int .i64 (vs.length : Nat) := (hf2 26 (by decide)).trans (by simp [upd_some])
      clear hf2
      by_cases hlt2 : j < vs.length
      · have hlt2' : (j : Int) < vs.length := by omega
        have hlb : j < bss.length := by omega
        have hwi : IntKind.i64.wrap ((j : Int) + 1) = ((j + 1 : Nat) : Int) := by rw [show ((j : Int) + 1) = ((j + 1 : Nat) : Int) from by omega]; exact wrap_nat (by omega)
        have hR := (hb j hlt2 hlb).ks kk (fun q hq => by cases hq)
        have hle := hsum (j + 1) (by omega)
        rw [hstep j hlb, List.length_append] at hle
        have hbn := hR.news
        rw [← List.length_map (f := byteV)] at hbn
        obtain ⟨v', q', s2, a1, a2, a3, a4, a5⟩ := rowApp k6 hbn (byteV_one _) (by rw [List.length_map, List.length_map]; omega)
        simp only [k36_a, WK, vop, evAll, evOpt, evParts, vbuiltin, vun, vextract, Nat.reduceLT, Nat.reduceEqDiff, ↓reduceIte, reduceCtorEq, Nat.reduceAdd, Int.reduceLT, Int.reduceNeg, valloc_std, noSB, vhot, k25, k26, k27, hlt2', haddr j hlt2, hload _ j hlt2, hwi, a1, decide_true]
        refine ⟨j + 1, ⟨q', by simp [upd_some], by omega, ?_, kk.trans a3 fun x hx => .inr (kq x hx), fun x hx => ?_⟩, by omega⟩
        · rw [hstep j hlb, List.map_append]; simpa [upd_some] using a2
        · rcases a4 x hx with h | h
          · exact kq x h
          · have := kk.le; omega
      · have hlt2' : ¬ (j : Int) < vs.length := by omega
        have hall2 : bss.take j = bss := List.take_of_length_le (by omega)
        rw [hall2] at k6
        simp only [k36_a, WK, vop, evAll, evOpt, evParts, vbuiltin, vun, vextract, Nat.reduceLT, Nat.reduceEqDiff, ↓reduceIte, reduceCtorEq, Nat.reduceAdd, Int.reduceLT, Int.reduceNeg, valloc_std, noSB, vhot, k25, k26, k27, hlt2', decide_false]
        exact ⟨_, q, rfl, k6, kk, kq⟩
  obtain ⟨r, σ', h1, v, q, rfl, h2⟩ := key
  exact ⟨v, q, σ', h1, h2⟩
theorem mkRows2 (a b : V) (h1 : one a = true) (h2 : one b = true) : vbuildSlice Try.prog 22 2 [(0, a), (1, b)] = some (.slice .exact 1 [a, b] 2) := by
  have hz : zeroT Try.prog 28 = some .nils := by kernel_rfl
  have e : List.range 2 = [0, 1] := by decide
  have hn : vcells V.nils = [V.nils] := rfl
  simp [vbuildSlice, TBB, SBB, hz, hn, zeroCellsV, vfill, setAll, e, vcells_one h1, vcells_one h2, h1, h2]
theorem read_sees {σ : St} {r rm : Nat} {d : Dk} {fs : List Ent} {n : List UInt8} (h : DiskAt σ r d rm fs) (hok : d.Ok) :
    ∃ p σ', Does Try.prog prims 12 [.optr r 0, .str n] σ p σ' ∧ ∃ v q, p = .ret (.tuple [v, .int .i64 ((readD n d).1 : Nat)]) ∧ rowOf σ'.objs v = some (q, (readD n d).2.map byteV) ∧ KS [] σ σ' ∧ ∀ x ∈ q.toList, σ.objs.length ≤ x := by
  apply k12_is.does (by simp)
  simp only [k12_a, WK, vop, evAll, evOpt, evParts, vbuiltin, vun, vextract, Nat.reduceLT, Nat.reduceEqDiff, ↓reduceIte, reduceCtorEq, Nat.reduceAdd, Int.reduceLT, Int.reduceNeg, valloc_std, noSB, vhot, List.getD_cons_zero, List.getD_cons_succ, nilEP]
  by_cases hz : thereD d n = 0
  · obtain ⟨a, b, p, hA, hr⟩ := there_ok h hok hz
    have hz' : ¬ thereD d n ≠ 0 := fun h => h hz
    have e : readD n d = (0, p.1.safe ++ p.1.wait) := by unfold readD; rw [if_neg hz', hA.g]; rfl
    obtain ⟨g1, g2, g3⟩ := hA.ids h
    obtain ⟨l1, l2, v1, v2, hl, hn, hnd, hrf⟩ := hA.facts h hok
    obtain ⟨v, q, σ', c1, c2, c3, c4⟩ := concat_does (σ := σ) (pm := .exact) (vs := [p.2.s, p.2.w]) (bss := [p.1.safe, p.1.wait]) rfl (fun i h h' => by
      match i, h with
      | 0, _ => exact rowOf_rb g1.s
      | 1, _ => exact rowOf_rb g1.w) (by simp; omega) (by simp)
    refine KD.ret (there_yes h hr hA) ?_
    simp only [k12_a, WK, vop, evAll, evOpt, evParts, vbuiltin, vun, vextract, Nat.reduceLT, Nat.reduceEqDiff, ↓reduceIte, reduceCtorEq, Nat.reduceAdd, Int.reduceLT, Int.reduceNeg, valloc_std, noSB, vhot, pFF0, pFF1, l1, l2, mkRows2 p.2.s p.2.w (rowOf_one g1.s) (rowOf_one g1.w), nilEP]
    refine KD.ret c1 ?_
    simp only [k12_a, WK, vop, evAll, evOpt, evParts, vbuiltin, vun, vextract, Nat.reduceLT, Nat.reduceEqDiff, ↓reduceIte, reduceCtorEq, Nat.reduceAdd, Int.reduceLT, Int.reduceNeg, valloc_std, noSB, vhot, pFF0, pFF1, l1, l2, e]
    refine ⟨v, q, rfl, ?_, c3, c4⟩
    simpa using c2
  · refine KD.ret (there_no h n hz) ?_
    have hz' : ¬ ((thereD d n : Nat) : Int) = 0 := by omega
    have e : readD n d = (thereD d n, []) := by unfold readD; rw [if_pos hz]
    simp only [k12_a, WK, vop, evAll, evOpt, evParts, vbuiltin, vun, vextract, Nat.reduceLT, Nat.reduceEqDiff, ↓reduceIte, reduceCtorEq, Nat.reduceAdd, Int.reduceLT, Int.reduceNeg, valloc_std, noSB, vhot, hz', e, nilEP]
    exact ⟨.nils, none, rfl, rfl, KS.refl _ _, fun x hx => by cases hx⟩
end Go.Proofs.Ytnbmfhnfmhgaaaa.Q

/- Names, and the small calls. -/
set_option linter.unusedVariables false
set_option linter.unusedSimpArgs false
set_option maxRecDepth 100000
namespace Go.Proofs.Ytnbmfhnfmhgaaaa.Q
open Go Go.RowKit Go.Proofs
theorem keys_does {σ : St} {rm : Nat} : ∃ t, Does Try.prog prims 34 [.omap rm] σ (.ret (.func 49 [.optr σ.objs.length 0])) ⟨σ.objs ++ [.tcells t [.omap rm]], σ.toks⟩ := by
  have key : ∃ r σ', Does Try.prog prims 34 [.omap rm] σ r σ' ∧ (r = .ret (.func 49 [.optr σ.objs.length 0]) ∧ ∃ t, σ' = ⟨σ.objs ++ [.tcells t [.omap rm]], σ.toks⟩) := by
    apply k34_is.does (by simp)
    have hn : ofVal .nilFunc = some .nilf := by kernel_rfl
    have hc : vcells (.omap rm) = [.omap rm] := rfl
    simp only [k34_a, WK, vop, evAll, evOpt, evParts, vbuiltin, vun, vextract, Nat.reduceLT, Nat.reduceEqDiff, ↓reduceIte, reduceCtorEq, Nat.reduceAdd, Int.reduceLT, Int.reduceNeg, valloc_std, noSB, vhot, List.getD_cons_zero, List.getD_cons_succ, hn, vboxT, hc]
    exact ⟨_, rfl⟩
  obtain ⟨r, σ', h, rfl, t, rfl⟩ := key
  exact ⟨t, h⟩
theorem strs_ents {fs : List Ent} : strsOf (fs.map fent) = some (fs.map fun p => p.1.name) := by
  induction fs with
  | nil => rfl
  | cons p fs ih => simp only [List.map_cons, fent, strsOf] at ih ⊢; rw [ih]; rfl
theorem leS_trans (a b c : List UInt8) : leS a b = true → leS b c = true → leS a c = true := by
  simp only [leS, decide_eq_true_eq]; exact List.le_trans
theorem leS_total (a b : List UInt8) : (leS a b || leS b a) = true := by
  simp only [leS, Bool.or_eq_true, decide_eq_true_eq]; exact List.le_total a b
theorem sort_names {d : Dk} (hok : d.Ok) {ks : List (List UInt8)} (h : ks.Perm (d.files.map Fl.name)) : ks.mergeSort leS = d.files.map Fl.name := by
  have h1 : (d.files.map Fl.name).Pairwise fun a b => a ≤ b := by
    rw [List.pairwise_map]
    exact hok.rise.imp fun {f g} hlt => List.le_of_lt hlt
  have h2 := (List.mergeSort_perm ks leS).trans h
  have h3 : (ks.mergeSort leS).Pairwise fun a b => a ≤ b := (List.pairwise_mergeSort leS_trans leS_total ks).imp fun {a b} hab => by simpa [leS] using hab
  exact h2.eq_of_pairwise (le := fun a b => a ≤ b) (fun a b _ _ hab hba => List.le_antisymm hab hba) h3 h1
theorem names_sees {σ : St} {r rm : Nat} {d : Dk} {fs : List Ent} (h : DiskAt σ r d rm fs) (hok : d.Ok) :
    ∃ p σ', Does Try.prog prims 11 [.optr r 0] σ p σ' ∧ ∃ v q, p = .ret v ∧ rowOf σ'.objs v = some (q, (namesD d).map V.str) ∧ KS [] σ σ' ∧ ∀ x ∈ q.toList, σ.objs.length ≤ x := by
  apply k11_is.does (by simp)
  have lo : vload Try.prog σ.objs 4 (.optr r 2) = some (.bool (!d.on)) := by rw [vload_obj h.hd G4]; rfl
  have lm : vload Try.prog σ.objs 55 (.optr r 0) = some (.omap rm) := by rw [vload_obj h.hd pGM]; rfl
  cases hon : d.on with
  | false =>
    rw [hon] at lo
    have e : namesD d = [] := by simp [namesD, hon]
    simp only [k11_a, WK, vop, evAll, evOpt, evParts, vbuiltin, vun, vextract, Nat.reduceLT, Nat.reduceEqDiff, ↓reduceIte, reduceCtorEq, Nat.reduceAdd, Int.reduceLT, Int.reduceNeg, valloc_std, noSB, vhot, List.getD_cons_zero, List.getD_cons_succ, nilEP, ofNilP, eql_optr pTD, pFA r 2 (by omega), lo, Bool.not_false, e]
    exact ⟨.nils, none, rfl, rfl, KS.refl _ _, fun x hx => by cases hx⟩
  | true =>
    rw [hon] at lo
    have e : namesD d = d.files.map Fl.name := by simp [namesD, hon]
    obtain ⟨t, hk⟩ := keys_does (σ := σ) (rm := rm)
    obtain ⟨s1, hs1⟩ : ∃ s1 : St, s1 = ⟨σ.objs ++ [.tcells t [.omap rm]], σ.toks⟩ := ⟨_, rfl⟩
    rw [← hs1] at hk
    have K1 : KS [] σ s1 := by rw [hs1]; exact KS.push _ _ _
    have D1 : DiskAt s1 r d rm fs := by rw [hs1]; exact h.pushed _
    have L1 : s1.objs.length = σ.objs.length + 1 := by rw [hs1]; simp
    have hb : s1.objs[σ.objs.length]? = some (.tcells t [.omap rm]) := by rw [hs1]; exact push_new _ _
    have hperm : (fs.map fun p => p.1.name).Perm (d.files.map Fl.name) := by
      have := h.pm.map Fl.name
      rw [List.map_map] at this
      exact this
    have hsort := sort_names hok hperm
    have hnd := h.names hok
    have hlen : (fs.map fun p => p.1.name).length ≤ 16 := by rw [hperm.length_eq, List.length_map]; exact hok.few
    have hsm : ((fs.map fun p => p.1.name).all fun s => decide (s.length ≤ 140737488355328)) = true := by
      rw [List.all_eq_true]
      intro s hs
      obtain ⟨f, hf, rfl⟩ := List.mem_map.1 (hperm.mem_iff.1 hs)
      have := hok.nm f hf
      simp only [namedD, decide_eq_true_eq] at this ⊢
      omega
    have hp : ∃ v s2 q, Does Try.prog prims 33 [.func 49 [.optr σ.objs.length 0]] s1 (.ret v) s2 ∧ rowOf s2.objs v = some (q, (namesD d).map V.str) ∧ KS [] s1 s2 ∧ ∀ x ∈ q.toList, s1.objs.length ≤ x := by
      by_cases h0 : (fs.map fun p => p.1.name) = []
      · refine ⟨.nils, s1, none, Does.prim (by kernel_rfl) ?_, ?_, KS.refl _ _, fun x hx => by cases hx⟩
        · simp only [prims]
          rw [if_neg (by decide +kernel), if_neg (by decide +kernel), if_pos trivial]
          simp only [sortedP, hb, D1.hm, strs_ents, ↓reduceIte]
          rw [if_pos ⟨hnd, by omega, hsm⟩, if_pos h0]
        · rw [e, ← hsort, h0, List.mergeSort_nil]; rfl
      · refine ⟨.hslice s1.objs.length 0 1 (fs.map fun p => p.1.name).length, ⟨s1.objs ++ [.cells (((fs.map fun p => p.1.name).mergeSort leS).map V.str)], s1.toks⟩, some s1.objs.length, Does.prim (by kernel_rfl) ?_, ?_, KS.push _ _ _, fun x hx => by simp at hx; omega⟩
        · simp only [prims]
          rw [if_neg (by decide +kernel), if_neg (by decide +kernel), if_pos trivial]
          simp only [sortedP, hb, D1.hm, strs_ents, ↓reduceIte]
          rw [if_pos ⟨hnd, by omega, hsm⟩, if_neg h0]
        · have hl : (fs.map fun p => p.1.name).length = (((fs.map fun p => p.1.name).mergeSort leS).map V.str).length := by simp [List.length_mergeSort]
          have hpn := push_new s1.objs (.cells (((fs.map fun p => p.1.name).mergeSort leS).map V.str))
          simp only [rowOf, hpn]
          rw [if_pos (by rw [← hl]; exact Nat.le_refl _), hl, List.take_of_length_le (Nat.le_refl _), hsort, e]
    obtain ⟨v, s2, q, h1, h2, h3, h4⟩ := hp
    simp only [k11_a, WK, vop, evAll, evOpt, evParts, vbuiltin, vun, vextract, Nat.reduceLT, Nat.reduceEqDiff, ↓reduceIte, reduceCtorEq, Nat.reduceAdd, Int.reduceLT, Int.reduceNeg, valloc_std, noSB, vhot, List.getD_cons_zero, List.getD_cons_succ, nilEP, ofNilP, eql_optr pTD, pFA r 2 (by omega), pFA r 0 (by omega), lo, lm, Bool.not_true]
    refine KD.ret hk ?_
    simp only [k11_a, WK, vop, evAll, evOpt, evParts, vbuiltin, vun, vextract, Nat.reduceLT, Nat.reduceEqDiff, ↓reduceIte, reduceCtorEq, Nat.reduceAdd, Int.reduceLT, Int.reduceNeg, valloc_std, noSB, vhot]
    refine KD.ret h1 ?_
    simp only [k11_a, WK, vop, evAll, evOpt, evParts, vbuiltin, vun, vextract, Nat.reduceLT, Nat.reduceEqDiff, ↓reduceIte, reduceCtorEq, Nat.reduceAdd, Int.reduceLT, Int.reduceNeg, valloc_std, noSB, vhot]
    exact ⟨v, q, rfl, h2, K1.trans' h3, fun x hx => by have := h4 x hx; omega⟩
/-! ### The small calls -/
def newD (n : Int) : Dk := ⟨[], n, true, 0, 0, 0⟩
theorem newdisk_does (σ : St) (n : Int) : ∃ σ' r rm, Does Try.prog prims 9 [.int .i64 n] σ (.ret (.optr r 0)) σ' ∧ DiskAt σ' r (newD n) rm [] ∧ KS [] σ σ' ∧ ∀ x ∈ foot r rm [], σ.objs.length ≤ x := by
  have key : ∃ p σ', Does Try.prog prims 9 [.int .i64 n] σ p σ' ∧ ∃ r rm, p = .ret (.optr r 0) ∧ DiskAt σ' r (newD n) rm [] ∧ KS [] σ σ' ∧ ∀ x ∈ foot r rm [], σ.objs.length ≤ x := by
    apply k9_is.does (by simp)
    have hb : ∀ m : Nat, vbuild Try.prog 57 [(0, .omap m), (1, .int .i64 n)] = some (.agg [.omap m, .int .i64 n, .bool false, .int .i64 0, .int .i64 0, .int .i64 0]) := fun m => by kernel_rfl
    simp only [k9_a, WK, vop, evAll, evOpt, evParts, vbuiltin, vun, vextract, Nat.reduceLT, Nat.reduceEqDiff, ↓reduceIte, reduceCtorEq, Nat.reduceAdd, Int.reduceLT, Int.reduceNeg, valloc_std, noSB, vhot, List.getD_cons_zero, List.getD_cons_succ, ofNilP, vmakeMap, hb, vbox, vcells]
    refine ⟨σ.objs.length + 1, σ.objs.length, by simp, ⟨?_, ?_, fun p hp => (by cases hp), by simp [foot], by simp [newD]⟩, (KS.push [] σ (.mp [])).trans' (KS.push [] ⟨σ.objs ++ [.mp []], σ.toks⟩ _), fun x hx => by simp [foot] at hx; omega⟩
    · have := push_new (σ.objs ++ [Ob.mp []]) (.cells (dcells σ.objs.length (newD n)))
      simp only [List.length_append, List.length_cons, List.length_nil, Nat.zero_add] at this
      exact this
    · simp only
      rw [List.getElem?_append_left (by simp)]
      exact push_new _ _
  obtain ⟨p, σ', h1, r, rm, rfl, h2⟩ := key
  exact ⟨σ', r, rm, h1, h2⟩
theorem newD_ok {n : Int} (h : InI64 n) : (newD n).Ok := ⟨by simp [newD], fun f hf => (by cases hf), by simp [newD], fun f hf => (by cases hf), by simp [newD], h, by unfold InI64; simp [newD]⟩
end Go.Proofs.Ytnbmfhnfmhgaaaa.Q

