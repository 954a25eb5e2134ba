/- A part of the proof: Rc, Ta, Ka, Kb, Kc, Kd, Mp. -/
import Derived.Test.YtnegdinonfjdfaaGreatDoorMa4
import Derived.Test.YtnegdinonfjdfaaGreatDoorChecked
import Derived.Test.YtnegdinonfjdfaaGreatDoorMa6
import Derived.Test.YtnegdinonfjdfaaGreatDoorMa5
set_option maxRecDepth 100000
namespace Go.Proofs.YtnegdinonfjdfaaGreatDoor.Q
open Go Go.RowKit Go.Proofs
variable {P : Program} {pr : Prim} {N : Nat} {e : Nat → V} {σ : St} {Q : VX → (Nat → V) → St → Prop} {QQ : QD} {SS : QS} {m : Pn}
def k3_r0 : List COp := [o 4 (pO false)]
def k3_r1 : List COp := [o 20 (.call { callee := .value (.func 5), args := #[], argTypes := #[] }),
o 21 (.unOp .not 4 (.tmp 20))]
def k3_r2 : List COp := [o 4 (pO false)]
def k3_r3 : List COp := [o 22 (pM 0),
o 23 (pM 1),
o 24 (pD 6 22 23 22 23)]
def k3_r4 : List COp := [o 4 (pO true)]
def k3_r5 : List COp := [o 25 (.call { callee := .value (.func 7), args := #[.const (.int .i64 2097152)], argTypes := #[3] }),
o 26 (.call { callee := .value (.func 8), args := #[.const (.int .i64 2097152)], argTypes := #[3] }),
o 5 (pA 25),
o 6 (pA 26)]
def k3_r6 : List COp := [o 27 (pM 0),
o 28 (pN 27 22),
o 29 (pW .i64 0)]
def k3_r7 : List COp := [o 30 (pB .lss 3 29 28 3)]
def k3_r8 : List COp := [o 31 (pI 22 27 29),
o 32 (pL 32 31),
o 8 (.alloc 32),
oS 32 8 32]
def k3_r9 : CC := (.wregion [
(true, oX 33 (pM 5)),
(false, oX 34 (pF 32 8 0)),
(false, oX 35 (pL 9 34)),
(false, oX 36 (pF 32 8 1)),
(false, oX 37 (pL 30 36)),
(false, oX 38 (.call { callee := .value (.func 9), args := #[.tmp 33, .tmp 35, .tmp 37], argTypes := #[26, 9, 30] })),
(true, oX 39 (pM 6)),
(false, oX 40 (pF 32 8 0)),
(true, oX 41 (pL 9 40)),
(false, o 42 (pF 32 8 1)),
(true, o 43 (pL 30 42)),
(false, o 44 (.call { callee := .value (.func 10), args := #[.tmp 39, .tmp 41, .tmp 43], argTypes := #[28, 9, 30] })),
(true, o 45 (pB .neq 33 38 44 33)),
(false, o 46 (pM 45)),
(false, ⟨some 47, .move (.tmp 5), some (46, false), false⟩),
(false, ⟨some 48, .fieldAddr 32 (.tmp 8) 0, some (46, false), false⟩),
(false, ⟨some 49, .load 9 (.tmp 48), some (46, false), false⟩),
(false, ⟨some 50, .call { callee := .value (.func 11), args := #[.tmp 47, .tmp 49], argTypes := #[26, 9] }, some (46, false), false⟩),
(true, ⟨some 51, .move (.tmp 6), some (46, false), false⟩),
(false, oF 52 (pF 32 8 0) 46),
(true, oF 53 (pL 9 52) 46),
(false, oF 54 (pD 12 51 53 28 9) 46),
(false, oF 55 (pB .neq 33 50 54 33) 46),
(false, o 56 (pV 46 55))] false [(8, oX 41 (pL 9 40), [0, 6]), (10, o 43 (pL 30 42), [0, 6]), (20, oF 53 (pL 9 52) 46, [12, 18])])
def k3_r10 : List COp := [o 4 (pO false)]
def k3_r11 : List COp := [o 57 (pK .add 3 29 .i64 1 3),
o 29 (pM 57)]
def k3_l0 : CC := (.seq (.region k3_r7) (.seq (.cond (.tmp 30) .skip (.exit 0)) (.seq (.block 1 (.seq (.region k3_r8) (.seq k3_r9 (.cond (.tmp 56) (.seq (.region k3_r10) .ret) .skip)))) (.region k3_r11))))
def k3_r12 : List COp := [o 58 (pM 1),
o 59 (pN 58 23),
o 60 (pW .i64 0)]
def k3_r13 : List COp := [o 61 (pB .lss 3 60 59 3)]
def k3_r14 : List COp := [o 62 (pI 23 58 60),
o 63 (pL 37 62),
o 10 (.alloc 37),
oS 37 10 63]
def k3_r15 : List COp := [o 11 (pZ .i64 0),
o 12 (pZ .i64 0)]
def k3_r16 : List COp := [o 13 (pZ .i64 0),
o 14 (pZ .i64 0)]
def k3_r17 : List COp := [o 64 (pF 37 10 0),
o 65 (pL 3 64)]
def k3_r18 : List COp := [o 67 (pK .eql 3 65 .i64 0 3),
o 66 (pA 67)]
def k3_r19 : CC := (.wregion [
(true, oX 68 (pM 5)),
(false, oX 69 (pF 37 10 1)),
(false, oX 70 (pL 3 69)),
(false, oX 71 (pF 37 10 3)),
(false, oX 72 (pL 30 71)),
(false, oX 73 (.call { callee := .value (.func 13), args := #[.tmp 68, .tmp 70, .tmp 72], argTypes := #[26, 3, 30] })),
(true, oX 74 (pM 6)),
(false, oX 75 (pF 37 10 1)),
(true, oX 76 (pL 3 75)),
(false, o 77 (pF 37 10 3)),
(true, o 78 (pL 30 77)),
(false, o 79 (.call { callee := .value (.func 14), args := #[.tmp 74, .tmp 76, .tmp 78], argTypes := #[28, 3, 30] })),
(false, o 13 (pA 73)),
(false, o 14 (pA 79))] false [(8, oX 76 (pL 3 75), [0, 6]), (10, o 78 (pL 30 77), [0, 6])])
def k3_r20 : List COp := [o 81 (pK .eql 3 65 .i64 1 3),
o 80 (pA 81)]
def k3_r21 : List COp := [o 15 (.assign (.const (.slice .none 0 0))),
o 16 (.assign (.const (.slice .none 0 0)))]
def k3_r22 : List COp := [o 83 (pM 5),
o 84 (pC 15 83 26),
o 82 (pM 84),
o 85 (pX 82 0),
o 86 (pX 82 1),
o 87 (pX 82 2),
o 11 (pA 85),
o 15 (pA 86),
o 13 (pA 87)]
def k3_r23 : List COp := [o 89 (pM 6),
o 90 (pC 16 89 28),
o 88 (pM 90),
o 91 (pX 88 0),
o 92 (pX 88 1),
o 93 (pX 88 2),
o 12 (pA 91),
o 16 (pA 92),
o 14 (pA 93)]
def k3_r24 : List COp := [o 94 (pM 15),
o 95 (pM 16),
o 96 (pD 17 94 95 30 30),
o 97 (.unOp .not 4 (.tmp 96))]
def k3_r25 : List COp := [o 4 (pO false)]
def k3_r26 : List COp := [o 99 (pK .eql 3 65 .i64 2 3),
o 98 (pA 99)]
def k3_r27 : List COp := [o 100 (pM 5),
o 101 (pF 37 10 1),
o 102 (pL 3 101),
o 103 (pF 37 10 2),
o 104 (pL 3 103),
o 105 (.call { callee := .value (.func 18), args := #[.tmp 100, .tmp 102, .tmp 104], argTypes := #[26, 3, 3] })]
def k3_r28 : List COp := [o 106 (pM 6),
o 107 (pF 37 10 1),
o 108 (pL 3 107),
o 109 (pF 37 10 2),
o 110 (pL 3 109),
o 111 (.call { callee := .value (.func 19), args := #[.tmp 106, .tmp 108, .tmp 110], argTypes := #[28, 3, 3] })]
def k3_r29 : List COp := [o 113 (pK .eql 3 65 .i64 3 3),
o 112 (pA 113)]
def k3_r30 : List COp := [o 114 (pM 5),
o 115 (pF 37 10 2),
o 116 (pL 3 115),
o 117 (pD 20 114 116 26 3)]
def k3_r31 : List COp := [o 118 (pM 6),
o 119 (pF 37 10 2),
o 120 (pL 3 119),
o 121 (pD 21 118 120 28 3)]
def k3_r32 : List COp := [o 123 (pK .eql 3 65 .i64 4 3),
o 122 (pA 123)]
def k3_r33 : List COp := [o 124 (pM 5),
o 125 (pC 22 124 26)]
def k3_r34 : List COp := [o 126 (pM 6),
o 127 (.nilCheck (.tmp 126)),
o 128 (pF 48 127 2),
⟨none, .store 4 (.tmp 128) (.const (.bool true)), none, true⟩]
def k3_r35 : List COp := [o 130 (pK .eql 3 65 .i64 5 3),
o 129 (pA 130)]
def k3_r36 : List COp := [o 131 (pM 5),
o 132 (pF 37 10 1),
o 133 (pL 3 132),
o 134 (pD 23 131 133 26 3)]
def k3_r37 : List COp := [o 135 (pM 6),
o 136 (pF 37 10 1),
o 137 (pL 3 136),
o 138 (.nilCheck (.tmp 135)),
o 139 (pF 48 138 1),
oS 3 139 137]
def k3_r38 : List COp := [o 140 (pM 11),
o 141 (pM 12),
o 142 (pB .neq 3 140 141 3),
o 143 (pM 142),
oF 144 (pM 13) 143,
oF 145 (pM 14) 143,
oF 146 (pB .neq 33 144 145 33) 143,
o 147 (pV 143 146),
o 148 (pM 147),
oF 149 (pM 5) 148,
oF 150 (pM 6) 148,
oF 151 (pD 24 149 150 26 28) 148,
oF 152 (.unOp .not 4 (.tmp 151)) 148,
o 153 (pV 148 152)]
def k3_r39 : List COp := [o 4 (pO false)]
def k3_r40 : List COp := [o 154 (pK .add 3 60 .i64 1 3),
o 60 (pM 154)]
def k3_l1 : CC := (.seq (.region k3_r13) (.seq (.cond (.tmp 61) .skip (.exit 2)) (.seq (.block 3 (.seq (.region k3_r14) (.seq (.region k3_r15) (.seq (.region k3_r16) (.seq (.seq (.region k3_r17) (.block 4 (.seq (.region k3_r18) (.cond (.tmp 66) k3_r19 (.seq (.region k3_r20) (.cond (.tmp 80) (.seq (.region k3_r21) (.seq (.region k3_r22) (.seq (.region k3_r23) (.seq (.region k3_r24) (.cond (.tmp 97) (.seq (.region k3_r25) .ret) .skip))))) (.seq (.region k3_r26) (.cond (.tmp 98) (.seq (.region k3_r27) (.region k3_r28)) (.seq (.region k3_r29) (.cond (.tmp 112) (.seq (.region k3_r30) (.region k3_r31)) (.seq (.region k3_r32) (.cond (.tmp 122) (.seq (.region k3_r33) (.region k3_r34)) (.seq (.region k3_r35) (.cond (.tmp 129) (.seq (.region k3_r36) (.region k3_r37)) .skip)))))))))))))) (.seq (.region k3_r38) (.cond (.tmp 153) (.seq (.region k3_r39) .ret) .skip))))))) (.region k3_r40))))
def k3_r41 : List COp := [o 156 (.call { callee := .value (.func 15), args := #[.const (.pointer .none)], argTypes := #[26] }),
o 155 (pM 156),
o 157 (pX 155 0),
o 158 (pX 155 1),
o 159 (pX 155 2),
o 17 (pA 157),
o 18 (pA 158),
o 19 (pA 159)]
def k3_r42 : List COp := [o 160 (pM 19),
o 161 (pK .eql 33 160 .i64 2 33),
o 162 (pM 161),
oT 163 (.call { callee := .value (.func 13), args := #[.const (.pointer .none), .const (.int .i64 1), .const (.slice .none 0 0)], argTypes := #[26, 3, 30] }) 162,
oT 164 (pK .eql 33 163 .i64 2 33) 162,
o 165 (pU 162 164),
o 4 (pA 165)]
def k3 : CC := (.seq (.region k3_r0) (.seq (.seq (.region k3_r1) (.cond (.tmp 21) (.seq (.region k3_r2) .ret) .skip)) (.seq (.seq (.region k3_r3) (.cond (.tmp 24) (.seq (.region k3_r4) .ret) .skip)) (.seq (.region k3_r5) (.seq (.seq (.region k3_r6) (.block 0 (.loop k3_l0))) (.seq (.seq (.region k3_r12) (.block 2 (.loop k3_l1))) (.seq (.region k3_r41) (.seq (.region k3_r42) .ret))))))))
def k3_p := PLift.up <| aI (vE k3.eq_1) <| aI (oE k3_r0.eq_1) <| aI (oE k3_r1.eq_1) <| aI (oE k3_r2.eq_1) <| aI (oE k3_r3.eq_1) <| aI (oE k3_r4.eq_1) <| aI (oE k3_r5.eq_1) <| aI (oE k3_r6.eq_1) <| aI (oE k3_r7.eq_1) <| aI (oE k3_r8.eq_1) <| aI (vE k3_r9.eq_1) <| aI (oE k3_r10.eq_1) <| aI (oE k3_r11.eq_1) <| aI (vE k3_l0.eq_1) <| aI (oE k3_r12.eq_1) <| aI (oE k3_r13.eq_1) <| aI (oE k3_r14.eq_1) <| aI (oE k3_r15.eq_1) <| aI (oE k3_r16.eq_1) <| aI (oE k3_r17.eq_1) <| aI (oE k3_r18.eq_1) <| aI (vE k3_r19.eq_1) <| aI (oE k3_r20.eq_1) <| aI (oE k3_r21.eq_1) <| aI (oE k3_r22.eq_1) <| aI (oE k3_r23.eq_1) <| aI (oE k3_r24.eq_1) <| aI (oE k3_r25.eq_1) <| aI (oE k3_r26.eq_1) <| aI (oE k3_r27.eq_1) <| aI (oE k3_r28.eq_1) <| aI (oE k3_r29.eq_1) <| aI (oE k3_r30.eq_1) <| aI (oE k3_r31.eq_1) <| aI (oE k3_r32.eq_1) <| aI (oE k3_r33.eq_1) <| aI (oE k3_r34.eq_1) <| aI (oE k3_r35.eq_1) <| aI (oE k3_r36.eq_1) <| aI (oE k3_r37.eq_1) <| aI (oE k3_r38.eq_1) <| aI (oE k3_r39.eq_1) <| aI (oE k3_r40.eq_1) <| aI (vE k3_l1.eq_1) <| aI (oE k3_r41.eq_1) (oE k3_r42.eq_1)
theorem k3_a : type_of% k3_p.down := k3_p.down
theorem k3_is : FnIs Tryz.prog prims 3 166 [ResultVar.tmp 4] k3 := FnIs.of_fn Tryz.func3 (by kernel_rfl) rfl
def k4_r0 : List COp := [o 6 (pO false)]
def k4_r1 : List COp := [o 25 (.call { callee := .value (.func 25), args := #[], argTypes := #[] }),
o 26 (.unOp .not 4 (.tmp 25))]
def k4_r2 : List COp := [o 6 (pO false)]
def k4_r3 : List COp := [o 27 (pM 0),
o 28 (pM 2),
o 29 (pD 26 27 28 50 51)]
def k4_r4 : List COp := [o 6 (pO true)]
def k4_r5 : List COp := [o 30 (.call { callee := .value (.func 7), args := #[.const (.int .i64 1048576)], argTypes := #[3] }),
o 31 (.call { callee := .value (.func 8), args := #[.const (.int .i64 1048576)], argTypes := #[3] }),
o 7 (pA 30),
o 8 (pA 31)]
def k4_r6 : List COp := [o 32 (pM 0),
o 33 (pN 32 50),
o 34 (pW .i64 0)]
def k4_r7 : List COp := [o 35 (pB .lss 3 34 33 3)]
def k4_r8 : List COp := [o 36 (pI 50 32 34),
o 37 (pL 53 36),
o 10 (.alloc 53),
oS 53 10 37]
def k4_r9 : CC := (.wregion [
(true, oX 38 (pM 7)),
(false, oX 39 (pF 53 10 0)),
(false, oX 40 (pL 9 39)),
(false, oX 41 (pF 53 10 1)),
(false, oX 42 (pL 30 41)),
(false, oX 43 (.call { callee := .value (.func 9), args := #[.tmp 38, .tmp 40, .tmp 42], argTypes := #[26, 9, 30] })),
(true, oX 44 (pM 8)),
(false, oX 45 (pF 53 10 0)),
(true, oX 46 (pL 9 45)),
(false, o 47 (pF 53 10 1)),
(true, o 48 (pL 30 47)),
(false, o 49 (.call { callee := .value (.func 10), args := #[.tmp 44, .tmp 46, .tmp 48], argTypes := #[28, 9, 30] })),
(true, o 50 (pB .neq 33 43 49 33)),
(false, o 51 (pM 50)),
(false, ⟨some 52, .move (.tmp 7), some (51, false), false⟩),
(false, ⟨some 53, .fieldAddr 53 (.tmp 10) 0, some (51, false), false⟩),
(false, ⟨some 54, .load 9 (.tmp 53), some (51, false), false⟩),
(false, ⟨some 55, .call { callee := .value (.func 11), args := #[.tmp 52, .tmp 54], argTypes := #[26, 9] }, some (51, false), false⟩),
(true, ⟨some 56, .move (.tmp 8), some (51, false), false⟩),
(false, oF 57 (pF 53 10 0) 51),
(true, oF 58 (pL 9 57) 51),
(false, oF 59 (pD 12 56 58 28 9) 51),
(false, oF 60 (pB .neq 33 55 59 33) 51),
(false, o 61 (pV 51 60))] false [(8, oX 46 (pL 9 45), [0, 6]), (10, o 48 (pL 30 47), [0, 6]), (20, oF 58 (pL 9 57) 51, [12, 18])])
def k4_r10 : List COp := [o 6 (pO false)]
def k4_r11 : List COp := [o 62 (pK .add 3 34 .i64 1 3),
o 34 (pM 62)]
def k4_l0 : CC := (.seq (.region k4_r7) (.seq (.cond (.tmp 35) .skip (.exit 0)) (.seq (.block 1 (.seq (.region k4_r8) (.seq k4_r9 (.cond (.tmp 61) (.seq (.region k4_r10) .ret) .skip)))) (.region k4_r11))))
def k4_r12 : List COp := [o 11 (.assign (.const (.pointer .none)))]
def k4_r13 : List COp := [o 12 (.assign (.const (.pointer .none)))]
def k4_r14 : List COp := [o 63 (pM 2),
o 64 (pN 63 51),
o 65 (pW .i64 0)]
def k4_r15 : List COp := [o 66 (pB .lss 3 65 64 3)]
def k4_r16 : List COp := [o 67 (pI 51 63 65),
o 68 (pL 56 67),
o 14 (.alloc 56),
oS 56 14 68]
def k4_r17 : List COp := [o 15 (pZ .i64 0),
o 16 (pZ .i64 0)]
def k4_r18 : List COp := [o 17 (pZ .i64 0),
o 18 (pZ .i64 0)]
def k4_r19 : List COp := [o 69 (pF 56 14 0),
o 70 (pL 3 69)]
def k4_r20 : List COp := [o 72 (pK .eql 3 70 .i64 0 3),
o 71 (pA 72)]
def k4_r21 : List COp := [o 73 (pM 11),
o 74 (.binOp .neq 54 (.tmp 73) (.const (.pointer .none)) 54),
o 75 (pM 74),
oT 76 (pM 12) 75,
oT 77 (.binOp .neq 55 (.tmp 76) (.const (.pointer .none)) 55) 75,
o 78 (pU 75 77)]
def k4_r22 : List COp := [o 80 (pM 11),
o 81 (pF 56 14 3),
o 82 (pL 30 81),
o 83 (pD 27 80 82 54 30),
o 79 (pM 83),
o 84 (pX 79 0),
o 85 (pX 79 1),
o 15 (pA 84),
o 17 (pA 85)]
def k4_r23 : List COp := [o 87 (pM 12),
o 88 (pF 56 14 3),
o 89 (pL 30 88),
o 90 (pD 28 87 89 55 30),
o 86 (pM 90),
o 91 (pX 86 0),
o 92 (pX 86 1),
o 16 (pA 91),
o 18 (pA 92)]
def k4_r24 : List COp := [o 94 (pK .eql 3 70 .i64 1 3),
o 93 (pA 94)]
def k4_r25 : List COp := [o 95 (pM 11),
o 96 (.binOp .neq 54 (.tmp 95) (.const (.pointer .none)) 54),
o 97 (pM 96),
oT 98 (pM 12) 97,
oT 99 (.binOp .neq 55 (.tmp 98) (.const (.pointer .none)) 55) 97,
o 100 (pU 97 99)]
def k4_r26 : List COp := [o 102 (pM 11),
o 103 (pF 56 14 1),
o 104 (pL 3 103),
o 105 (pD 29 102 104 54 3),
o 101 (pM 105),
o 106 (pX 101 0),
o 107 (pX 101 1),
o 15 (pA 106),
o 17 (pA 107)]
def k4_r27 : List COp := [o 109 (pM 12),
o 110 (pF 56 14 1),
o 111 (pL 3 110),
o 112 (pD 30 109 111 55 3),
o 108 (pM 112),
o 113 (pX 108 0),
o 114 (pX 108 1),
o 16 (pA 113),
o 18 (pA 114)]
def k4_r28 : List COp := [o 116 (pK .eql 3 70 .i64 2 3),
o 115 (pA 116)]
def k4_r29 : List COp := [o 117 (pM 7),
o 118 (pF 56 14 1),
o 119 (pL 3 118),
o 120 (pF 56 14 2),
o 121 (pL 3 120),
o 122 (.call { callee := .value (.func 18), args := #[.tmp 117, .tmp 119, .tmp 121], argTypes := #[26, 3, 3] })]
def k4_r30 : List COp := [o 123 (pM 8),
o 124 (pF 56 14 1),
o 125 (pL 3 124),
o 126 (pF 56 14 2),
o 127 (pL 3 126),
o 128 (.call { callee := .value (.func 19), args := #[.tmp 123, .tmp 125, .tmp 127], argTypes := #[28, 3, 3] })]
def k4_r31 : List COp := [o 130 (pK .eql 3 70 .i64 3 3),
o 129 (pA 130)]
def k4_r32 : List COp := [o 131 (pM 7),
o 132 (pF 56 14 2),
o 133 (pL 3 132),
o 134 (pD 20 131 133 26 3)]
def k4_r33 : List COp := [o 135 (pM 8),
o 136 (pF 56 14 2),
o 137 (pL 3 136),
o 138 (pD 21 135 137 28 3)]
def k4_r34 : List COp := [o 140 (pK .eql 3 70 .i64 4 3),
o 139 (pA 140)]
def k4_r35 : List COp := [o 141 (pK .eql 3 70 .i64 5 3),
o 139 (pA 141)]
def k4_r36 : List COp := [o 142 (pF 56 14 0),
o 143 (pL 3 142),
o 144 (pK .eql 3 143 .i64 4 3)]
def k4_r37 : List COp := [o 145 (pM 7),
o 146 (pC 22 145 26)]
def k4_r38 : List COp := [o 147 (pM 8),
o 148 (.nilCheck (.tmp 147)),
o 149 (pF 48 148 2),
⟨none, .store 4 (.tmp 149) (.const (.bool true)), none, true⟩]
def k4_r39 : List COp := [o 19 (.assign (.const (.slice .none 0 0))),
o 20 (.assign (.const (.slice .none 0 0)))]
def k4_r40 : List COp := [o 151 (pM 7),
o 152 (pM 1),
o 153 (pD 31 151 152 26 3),
o 150 (pM 153),
o 154 (pX 150 0),
o 155 (pX 150 1),
o 156 (pX 150 2),
o 157 (pX 150 3),
o 11 (pA 154),
o 19 (pA 155),
o 15 (pA 156),
o 17 (pA 157)]
def k4_r41 : List COp := [o 159 (pM 8),
o 160 (pM 1),
o 161 (pD 32 159 160 28 3),
o 158 (pM 161),
o 162 (pX 158 0),
o 163 (pX 158 1),
o 164 (pX 158 2),
o 165 (pX 158 3),
o 12 (pA 162),
o 20 (pA 163),
o 16 (pA 164),
o 18 (pA 165)]
def k4_r42 : List COp := [o 166 (pM 19),
o 167 (pM 20),
o 168 (pD 33 166 167 60 60),
o 169 (.unOp .not 4 (.tmp 168)),
o 170 (pM 169),
oF 171 (pM 11) 170,
oF 172 (.binOp .eql 54 (.tmp 171) (.const (.pointer .none)) 54) 170,
oF 173 (pM 12) 170,
oF 174 (.binOp .eql 55 (.tmp 173) (.const (.pointer .none)) 55) 170,
oF 175 (pB .neq 4 172 174 4) 170,
o 176 (pV 170 175)]
def k4_r43 : List COp := [o 6 (pO false)]
def k4_r44 : List COp := [o 178 (pK .eql 3 70 .i64 6 3),
o 177 (pA 178)]
def k4_r45 : List COp := [o 179 (pM 7),
o 180 (pF 56 14 1),
o 181 (pL 3 180),
o 182 (pD 23 179 181 26 3)]
def k4_r46 : List COp := [o 183 (pM 8),
o 184 (pF 56 14 1),
o 185 (pL 3 184),
o 186 (.nilCheck (.tmp 183)),
o 187 (pF 48 186 1),
oS 3 187 185]
def k4_r47 : CC := (.wregion [
(false, oX 188 (pM 15)),
(false, o 189 (pM 16)),
(false, o 190 (pB .neq 3 188 189 3)),
(false, o 191 (pM 190)),
(false, ⟨some 192, .move (.tmp 17), some (191, false), false⟩),
(false, oF 193 (pM 18) 191),
(false, oF 194 (pB .neq 33 192 193 33) 191),
(false, o 195 (pV 191 194)),
(false, o 196 (pM 195)),
(false, ⟨some 197, .move (.tmp 7), some (196, false), false⟩),
(false, oF 198 (pM 8) 196),
(false, oF 199 (pD 34 197 198 26 28) 196),
(true, oF 200 (.unOp .not 4 (.tmp 199)) 196),
(false, o 201 (pV 196 200)),
(false, o 202 (pM 201)),
(false, oF 203 (pM 11) 202),
(false, oF 204 (.binOp .neq 54 (.tmp 203) (.const (.pointer .none)) 54) 202),
(false, oF 205 (pM 204) 202),
(false, oT 206 (pM 12) 205),
(false, oT 207 (.binOp .neq 55 (.tmp 206) (.const (.pointer .none)) 55) 205),
(false, oF 208 (pU 205 207) 202),
(false, oF 209 (pM 208) 202),
(false, ⟨some 210, .move (.tmp 11), some (209, true), false⟩),
(false, ⟨some 211, .call { callee := .value (.func 35), args := #[.tmp 210], argTypes := #[54] }, some (209, true), false⟩),
(true, oT 212 (pM 12) 209),
(false, oT 213 (.nilCheck (.tmp 212)) 209),
(false, oT 214 (pF 68 213 3) 209),
(true, oT 215 (pL 3 214) 209),
(false, oT 216 (pB .neq 3 211 215 3) 209),
(false, oF 217 (pU 209 216) 202),
(false, o 218 (pV 202 217))] false [(27, oT 215 (pL 3 214) 209, [12, 24])])
def k4_r48 : List COp := [o 6 (pO false)]
def k4_r49 : List COp := [o 219 (pK .add 3 65 .i64 1 3),
o 65 (pM 219)]
def k4_l1 : CC := (.seq (.region k4_r15) (.seq (.cond (.tmp 66) .skip (.exit 2)) (.seq (.block 3 (.seq (.region k4_r16) (.seq (.region k4_r17) (.seq (.region k4_r18) (.seq (.seq (.region k4_r19) (.block 4 (.seq (.region k4_r20) (.cond (.tmp 71) (.seq (.region k4_r21) (.cond (.tmp 78) (.seq (.region k4_r22) (.region k4_r23)) .skip)) (.seq (.region k4_r24) (.cond (.tmp 93) (.seq (.region k4_r25) (.cond (.tmp 100) (.seq (.region k4_r26) (.region k4_r27)) .skip)) (.seq (.region k4_r28) (.cond (.tmp 115) (.seq (.region k4_r29) (.region k4_r30)) (.seq (.region k4_r31) (.cond (.tmp 129) (.seq (.region k4_r32) (.region k4_r33)) (.seq (.seq (.region k4_r34) (.cond (.tmp 139) .skip (.region k4_r35))) (.cond (.tmp 139) (.seq (.seq (.region k4_r36) (.cond (.tmp 144) (.seq (.region k4_r37) (.region k4_r38)) .skip)) (.seq (.region k4_r39) (.seq (.region k4_r40) (.seq (.region k4_r41) (.seq (.region k4_r42) (.cond (.tmp 176) (.seq (.region k4_r43) .ret) .skip)))))) (.seq (.region k4_r44) (.cond (.tmp 177) (.seq (.region k4_r45) (.region k4_r46)) .skip)))))))))))))) (.seq k4_r47 (.cond (.tmp 218) (.seq (.region k4_r48) .ret) .skip))))))) (.region k4_r49))))
def k4_r50 : List COp := [o 221 (pM 1),
o 222 (.call { callee := .value (.func 31), args := #[.const (.pointer .none), .tmp 221], argTypes := #[26, 3] }),
o 220 (pM 222),
o 223 (pX 220 0),
o 224 (pX 220 1),
o 225 (pX 220 2),
o 226 (pX 220 3),
o 21 (pA 223),
o 22 (pA 224),
o 23 (pA 225),
o 24 (pA 226)]
def k4_r51 : List COp := [o 227 (pM 24),
o 228 (pK .eql 33 227 .i64 2 33),
o 6 (pA 228)]
def k4 : CC := (.seq (.region k4_r0) (.seq (.seq (.region k4_r1) (.cond (.tmp 26) (.seq (.region k4_r2) .ret) .skip)) (.seq (.seq (.region k4_r3) (.cond (.tmp 29) (.seq (.region k4_r4) .ret) .skip)) (.seq (.region k4_r5) (.seq (.seq (.region k4_r6) (.block 0 (.loop k4_l0))) (.seq (.region k4_r12) (.seq (.region k4_r13) (.seq (.seq (.region k4_r14) (.block 2 (.loop k4_l1))) (.seq (.region k4_r50) (.seq (.region k4_r51) .ret))))))))))
def k5_r0 : List COp := [o 0 (pO false)]
def k5_r1 : List COp := [o 6 (.call { callee := .value (.func 7), args := #[.const (.int .i64 1000)], argTypes := #[3] }),
o 1 (pA 6)]
def k5_r2 : CC := (.hreg [
(false, o 7 (pM 1)),
(true, o 8 (.buildSlice 30 2 #[(0, .const (.int .u8 97)), (1, .const (.int .u8 98))])),
(true, o 9 (.convert 30 30 (.tmp 8))),
(false, o 10 (.call { callee := .value (.func 13), args := #[.tmp 7, .const (.int .i64 7), .tmp 9], argTypes := #[26, 3, 30] })),
(false, o 11 (pK .neq 33 10 .i64 0 33))])
def k5_r3 : List COp := [o 0 (pO false)]
def k5_r4 : List COp := [o 13 (pM 1),
o 14 (pC 15 13 26),
o 12 (pM 14),
o 15 (pX 12 0),
o 16 (pX 12 1),
o 17 (pX 12 2),
o 2 (pA 15),
o 3 (pA 16),
o 4 (pA 17)]
def k5_r5 : List COp := [o 18 (pM 1),
o 19 (pC 36 18 26),
o 5 (pA 19)]
def k5_r6 : List COp := [o 20 (pM 2),
o 21 (pK .eql 3 20 .i64 7 3),
o 22 (pM 21),
oT 23 (pM 3) 22,
oT 24 (.convert 30 9 (.tmp 23)) 22,
oT 25 (.binOp .eql 9 (.tmp 24) (.const (.string { data := #[97, 98] })) 9) 22,
o 26 (pU 22 25),
o 27 (pM 26),
oT 28 (pM 4) 27,
oT 29 (pK .eql 33 28 .i64 0 33) 27,
o 30 (pU 27 29),
o 31 (pM 30),
oT 32 (pM 5) 31,
oT 33 (pN 32 70) 31,
oT 34 (pK .eql 3 33 .i64 1 3) 31,
o 35 (pU 31 34),
o 36 (pM 35),
oT 37 (pM 5) 36,
oT 38 (.indexAddr 70 (.tmp 37) (.const (.int .i64 0))) 36,
oT 39 (pL 9 38) 36,
oT 40 (.binOp .eql 9 (.tmp 39) (.const (.string { data := #[115, 48, 48, 48, 48, 48, 48, 48, 48, 55] })) 9) 36,
o 41 (pU 36 40),
o 0 (pA 41)]
def k5 : CC := (.seq (.region k5_r0) (.seq (.region k5_r1) (.seq (.seq k5_r2 (.cond (.tmp 11) (.seq (.region k5_r3) .ret) .skip)) (.seq (.region k5_r4) (.seq (.region k5_r5) (.seq (.region k5_r6) .ret))))))
def k6_r0 : List COp := [o 4 (pO false)]
def k6_r1 : List COp := [o 5 (pZ .i64 0)]
def k6_r2 : List COp := [o 10 (pM 0),
o 11 (pN 10 22),
o 12 (pW .i64 0)]
def k6_r3 : List COp := [o 13 (pB .lss 3 12 11 3)]
def k6_r4 : List COp := [o 14 (pI 22 10 12),
o 15 (pL 32 14),
o 7 (.alloc 32),
oS 32 7 15]
def k6_r5 : List COp := [o 16 (pM 5),
o 17 (pF 32 7 1),
o 18 (pL 30 17),
o 19 (pN 18 30),
o 20 (pB .add 3 16 19 3),
o 5 (pA 20)]
def k6_r6 : List COp := [o 21 (pM 5),
o 22 (pK .gtr 3 21 .i64 65536 3)]
def k6_r7 : List COp := [o 4 (pO true)]
def k6_r8 : List COp := [o 23 (pK .add 3 12 .i64 1 3),
o 12 (pM 23)]
def k6_l0 : CC := (.seq (.region k6_r3) (.seq (.cond (.tmp 13) .skip (.exit 0)) (.seq (.block 1 (.seq (.region k6_r4) (.seq (.region k6_r5) (.seq (.region k6_r6) (.cond (.tmp 22) (.seq (.region k6_r7) .ret) .skip))))) (.region k6_r8))))
def k6_r9 : CC := (.hreg [
(false, o 24 (pM 1)),
(true, o 25 (pN 24 23)),
(false, o 26 (pW .i64 0))])
def k6_r10 : List COp := [o 27 (pB .lss 3 26 25 3)]
def k6_r11 : List COp := [o 28 (pI 23 24 26),
o 29 (pL 37 28),
o 9 (.alloc 37),
oS 37 9 29]
def k6_r12 : List COp := [o 30 (pM 5),
o 31 (pF 37 9 3),
o 32 (pL 30 31),
o 33 (pN 32 30),
o 34 (pB .add 3 30 33 3),
o 5 (pA 34)]
def k6_r13 : List COp := [o 35 (pM 5),
o 36 (pK .gtr 3 35 .i64 4194304 3)]
def k6_r14 : List COp := [o 4 (pO true)]
def k6_r15 : List COp := [o 37 (pK .add 3 26 .i64 1 3),
o 26 (pM 37)]
def k6_l1 : CC := (.seq (.region k6_r10) (.seq (.cond (.tmp 27) .skip (.exit 2)) (.seq (.block 3 (.seq (.region k6_r11) (.seq (.region k6_r12) (.seq (.region k6_r13) (.cond (.tmp 36) (.seq (.region k6_r14) .ret) .skip))))) (.region k6_r15))))
def k6_r16 : List COp := [o 38 (pM 1),
o 39 (pN 38 23),
o 40 (pK .gtr 3 39 .i64 256 3),
o 41 (pM 40),
oF 42 (pM 0) 41,
oF 43 (pN 42 22) 41,
oF 44 (pK .gtr 3 43 .i64 16 3) 41,
o 45 (pV 41 44),
o 4 (pA 45)]
def k6 : CC := (.seq (.region k6_r0) (.seq (.region k6_r1) (.seq (.seq (.region k6_r2) (.block 0 (.loop k6_l0))) (.seq (.seq k6_r9 (.block 2 (.loop k6_l1))) (.seq (.region k6_r16) .ret)))))
def k6_p := PLift.up <| aI (vE k6.eq_1) <| aI (oE k6_r0.eq_1) <| aI (oE k6_r1.eq_1) <| aI (oE k6_r2.eq_1) <| aI (oE k6_r3.eq_1) <| aI (oE k6_r4.eq_1) <| aI (oE k6_r5.eq_1) <| aI (oE k6_r6.eq_1) <| aI (oE k6_r7.eq_1) <| aI (oE k6_r8.eq_1) <| aI (vE k6_l0.eq_1) <| aI (vE k6_r9.eq_1) <| aI (oE k6_r10.eq_1) <| aI (oE k6_r11.eq_1) <| aI (oE k6_r12.eq_1) <| aI (oE k6_r13.eq_1) <| aI (oE k6_r14.eq_1) <| aI (oE k6_r15.eq_1) <| aI (vE k6_l1.eq_1) (oE k6_r16.eq_1)
theorem k6_a : type_of% k6_p.down := k6_p.down
theorem k6_is : FnIs Tryz.prog prims 6 46 [ResultVar.tmp 4] k6 := FnIs.of_fn Tryz.func6 (by kernel_rfl) rfl
def k7_r0 : List COp := [o 2 (.assign (.const (.pointer .none)))]
def k7_r1 : List COp := [o 3 (.makeMap 72 .none),
o 4 (pM 0),
o 5 (.build 74 #[(0, .tmp 3), (1, .tmp 4)]),
o 6 (.box 74 (.tmp 5)),
o 2 (pA 6)]
def k7 : CC := (.seq (.region k7_r0) (.seq (.region k7_r1) .ret))
def k7_p := PLift.up <| aI (vE k7.eq_1) <| aI (oE k7_r0.eq_1) (oE k7_r1.eq_1)
theorem k7_a : type_of% k7_p.down := k7_p.down
theorem k7_is : FnIs Tryz.prog prims 7 7 [ResultVar.tmp 2] k7 := FnIs.of_fn Tryz.func7 (by kernel_rfl) rfl
def k8_r0 : List COp := [o 2 (.assign (.const (.pointer .none)))]
def k8_r1 : List COp := [o 3 (pM 0),
o 4 (.build 48 #[(1, .tmp 3), (2, .const (.bool true))]),
o 5 (.box 48 (.tmp 4)),
o 2 (pA 5)]
def k8 : CC := (.seq (.region k8_r0) (.seq (.region k8_r1) .ret))
def k8_p := PLift.up <| aI (vE k8.eq_1) <| aI (oE k8_r0.eq_1) (oE k8_r1.eq_1)
theorem k8_a : type_of% k8_p.down := k8_p.down
theorem k8_is : FnIs Tryz.prog prims 8 6 [ResultVar.tmp 2] k8 := FnIs.of_fn Tryz.func8 (by kernel_rfl) rfl
def k9_r0 : List COp := [o 6 (pZ .i64 0)]
def k9_r1 : List COp := [o 9 (pM 0),
o 10 (pM 1),
o 11 (pD 37 9 10 26 9),
o 7 (pA 11)]
def k9_r2 : List COp := [o 12 (pM 7),
o 13 (pK .neq 33 12 .i64 0 33)]
def k9_r3 : List COp := [o 14 (pM 7),
o 6 (pA 14)]
def k9_r4 : List COp := [o 15 (pM 0),
o 16 (.nilCheck (.tmp 15)),
o 17 (pF 74 16 0),
o 18 (pL 72 17),
o 19 (pM 1),
o 20 (.lookup 72 (.tmp 18) (.tmp 19) false),
o 8 (pA 20)]
def k9_r5 : List COp := [o 22 (pM 8),
o 23 (.binOp .neq 75 (.tmp 22) (.const (.pointer .none)) 75),
o 24 (pM 23),
⟨some 25, .move (.tmp 2), some (24, true), false⟩,
⟨some 26, .call { callee := .builtin .len, args := #[.tmp 25], argTypes := #[30] }, some (24, true), false⟩,
⟨some 27, .move (.tmp 8), some (24, true), false⟩,
⟨some 28, .nilCheck (.tmp 27), some (24, true), false⟩,
⟨some 29, .fieldAddr 77 (.tmp 28) 0, some (24, true), false⟩,
⟨some 30, .load 30 (.tmp 29), some (24, true), false⟩,
⟨some 31, .call { callee := .builtin .len, args := #[.tmp 30], argTypes := #[30] }, some (24, true), false⟩,
⟨some 32, .binOp .sub 3 (.const (.int .i64 1048576)) (.tmp 31) 3, some (24, true), false⟩,
oT 33 (pM 8) 24,
oT 34 (.nilCheck (.tmp 33)) 24,
oT 35 (pF 77 34 1) 24,
oT 36 (pL 30 35) 24,
oT 37 (pN 36 30) 24,
oT 38 (pB .sub 3 32 37 3) 24,
oT 39 (pB .gtr 3 26 38 3) 24,
o 40 (pU 24 39),
o 21 (pA 40)]
def k9_r6 : List COp := [o 41 (pM 2),
o 42 (pN 41 30),
o 43 (pK .gtr 3 42 .i64 1048576 3),
o 21 (pA 43)]
def k9_r7 : List COp := [o 6 (pZ .i64 3)]
def k9_r8 : CC := (.hreg [
(false, o 45 (pM 8)),
(false, o 46 (.binOp .eql 75 (.tmp 45) (.const (.pointer .none)) 75)),
(false, o 47 (pM 46)),
(false, oT 48 (pM 0) 47),
(false, oT 49 (.nilCheck (.tmp 48)) 47),
(false, oT 50 (pF 74 49 0) 47),
(false, oT 51 (pL 72 50) 47),
(true, oT 52 (pN 51 72) 47),
(false, oT 53 (pK .geq 3 52 .i64 16 3) 47),
(false, o 54 (pU 47 53)),
(false, o 44 (pA 54))])
def k9_r9 : CC := (.wregion [
(true, oX 55 (pM 0)),
(false, oX 56 (pC 38 55 26)),
(true, oX 57 (pM 2)),
(false, oX 58 (pN 57 30)),
(false, oX 59 (pB .add 3 56 58 3)),
(false, o 60 (pM 0)),
(false, o 61 (.nilCheck (.tmp 60))),
(false, o 62 (pF 74 61 1)),
(true, o 63 (pL 3 62)),
(false, o 64 (pB .gtr 3 59 63 3)),
(false, o 44 (pA 64))] false [(8, o 63 (pL 3 62), [0, 2])])
def k9_r10 : List COp := [o 6 (pZ .i64 22)]
def k9_r11 : List COp := [o 65 (pM 8),
o 66 (.binOp .eql 75 (.tmp 65) (.const (.pointer .none)) 75)]
def k9_r12 : List COp := [o 67 (.build 77 #[]),
o 68 (.box 77 (.tmp 67)),
o 8 (pA 68)]
def k9_r13 : List COp := [o 69 (pM 0),
o 70 (.nilCheck (.tmp 69)),
o 71 (pF 74 70 0),
o 72 (pL 72 71),
o 73 (pM 1),
o 74 (pM 8),
⟨none, .mapUpdate 72 (.tmp 72) (.tmp 73) (.tmp 74), none, true⟩]
def k9_r14 : CC := (.hreg [
(false, o 75 (pM 8)),
(false, o 76 (pM 8)),
(false, o 77 (.nilCheck (.tmp 76))),
(false, o 78 (pF 77 77 1)),
(false, o 79 (pL 30 78)),
(false, o 80 (pM 2)),
(true, o 81 (pQ 79 80 30 30)),
(false, o 82 (.nilCheck (.tmp 75))),
(false, o 83 (pF 77 82 1)),
(false, oS 30 83 81)])
def k9_r15 : List COp := [o 84 (pM 0),
o 85 (pC 39 84 26)]
def k9_r16 : List COp := [o 86 (pM 0),
o 87 (pC 40 86 26),
o 6 (pA 87)]
def k9_r17 : List COp := [o 6 (pZ .i64 0)]
def k9 : CC := (.seq (.region k9_r0) (.seq (.seq (.region k9_r1) (.seq (.region k9_r2) (.cond (.tmp 13) (.seq (.region k9_r3) .ret) .skip))) (.seq (.region k9_r4) (.seq (.block 0 (.seq (.seq (.region k9_r5) (.cond (.tmp 21) .skip (.region k9_r6))) (.cond (.tmp 21) (.seq (.region k9_r7) .ret) (.seq (.seq k9_r8 (.cond (.tmp 44) .skip k9_r9)) (.cond (.tmp 44) (.seq (.region k9_r10) .ret) .skip))))) (.seq (.seq (.region k9_r11) (.cond (.tmp 66) (.seq (.region k9_r12) (.region k9_r13)) .skip)) (.seq k9_r14 (.seq (.seq (.region k9_r15) (.cond (.tmp 85) (.seq (.region k9_r16) .ret) .skip)) (.seq (.region k9_r17) .ret))))))))
def k9_p := PLift.up <| aI (vE k9.eq_1) <| aI (oE k9_r0.eq_1) <| aI (oE k9_r1.eq_1) <| aI (oE k9_r2.eq_1) <| aI (oE k9_r3.eq_1) <| aI (oE k9_r4.eq_1) <| aI (oE k9_r5.eq_1) <| aI (oE k9_r6.eq_1) <| aI (oE k9_r7.eq_1) <| aI (vE k9_r8.eq_1) <| aI (vE k9_r9.eq_1) <| aI (oE k9_r10.eq_1) <| aI (oE k9_r11.eq_1) <| aI (oE k9_r12.eq_1) <| aI (oE k9_r13.eq_1) <| aI (vE k9_r14.eq_1) <| aI (oE k9_r15.eq_1) <| aI (oE k9_r16.eq_1) (oE k9_r17.eq_1)
theorem k9_a : type_of% k9_p.down := k9_p.down
theorem k9_is : FnIs Tryz.prog prims 9 88 [ResultVar.tmp 6] k9 := FnIs.of_fn Tryz.func9 (by kernel_rfl) rfl
def k10_r0 : List COp := [o 6 (pZ .i64 0)]
def k10_r1 : List COp := [o 10 (pM 0),
o 11 (pM 1),
o 12 (pD 41 10 11 28 9),
o 7 (pA 12)]
def k10_r2 : List COp := [o 13 (pM 7),
o 14 (pK .neq 33 13 .i64 0 33)]
def k10_r3 : List COp := [o 15 (pM 7),
o 6 (pA 15)]
def k10_r4 : List COp := [o 16 (pM 0),
o 17 (pM 1),
o 18 (pD 42 16 17 28 9),
o 8 (pA 18)]
def k10_r5 : List COp := [o 19 (pM 1),
o 20 (.build 81 #[(0, .tmp 19)]),
o 9 (.alloc 81),
oS 81 9 20]
def k10_r6 : List COp := [o 21 (pM 8),
o 22 (pK .geq 3 21 .i64 0 3)]
def k10_r7 : List COp := [o 23 (pM 0),
o 24 (.nilCheck (.tmp 23)),
o 25 (pF 48 24 0),
o 26 (pL 46 25),
o 27 (pM 8),
o 28 (pI 46 26 27),
o 29 (pL 81 28),
oS 81 9 29]
def k10_r8 : List COp := [o 30 (pF 81 9 1),
o 31 (pL 30 30),
o 32 (pN 31 30),
o 33 (pF 81 9 2),
o 34 (pL 30 33),
o 35 (pN 34 30),
o 36 (pB .add 3 32 35 3),
o 37 (pM 2),
o 38 (pN 37 30),
o 39 (pB .add 3 36 38 3),
o 40 (pK .gtr 3 39 .i64 1048576 3)]
def k10_r9 : List COp := [o 6 (pZ .i64 3)]
def k10_r10 : CC := (.wregion [
(true, o 41 (pM 8)),
(false, o 42 (pK .lss 3 41 .i64 0 3)),
(false, o 43 (pM 42)),
(false, oT 44 (pM 0) 43),
(false, oT 45 (.nilCheck (.tmp 44)) 43),
(false, oT 46 (pF 48 45 0) 43),
(false, oT 47 (pL 46 46) 43),
(false, oT 48 (pN 47 46) 43),
(false, oT 49 (pK .geq 3 48 .i64 16 3) 43),
(false, o 50 (pU 43 49)),
(false, o 51 (pM 50)),
(false, ⟨some 52, .move (.tmp 0), some (51, false), false⟩),
(false, ⟨some 53, .call { callee := .value (.func 43), args := #[.tmp 52], argTypes := #[28] }, some (51, false), false⟩),
(true, ⟨some 54, .move (.tmp 2), some (51, false), false⟩),
(false, ⟨some 55, .call { callee := .builtin .len, args := #[.tmp 54], argTypes := #[30] }, some (51, false), false⟩),
(false, ⟨some 56, .binOp .add 3 (.tmp 53) (.tmp 55) 3, some (51, false), false⟩),
(false, oF 57 (pM 0) 51),
(false, oF 58 (.nilCheck (.tmp 57)) 51),
(false, oF 59 (pF 48 58 1) 51),
(true, oF 60 (pL 3 59) 51),
(false, oF 61 (pB .gtr 3 56 60 3) 51),
(false, o 62 (pV 51 61))] false [(19, oF 60 (pL 3 59) 51, [0, 13])])
def k10_r11 : List COp := [o 6 (pZ .i64 22)]
def k10_r12 : List COp := [o 63 (.buildSlice 30 0 #[]),
o 64 (pF 81 9 2),
o 65 (pL 30 64),
o 66 (pQ 63 65 30 30),
o 67 (pM 2),
o 68 (pQ 66 67 30 30),
o 69 (pF 81 9 2),
oS 30 69 68]
def k10_r13 : List COp := [o 70 (pM 0),
o 71 (pL 81 9),
o 72 (pD 44 70 71 28 81)]
def k10_r14 : List COp := [o 73 (pM 0),
o 74 (pC 45 73 28)]
def k10_r15 : List COp := [o 75 (pM 0),
o 76 (pM 0),
o 77 (.nilCheck (.tmp 76)),
o 78 (pF 48 77 5),
o 79 (pL 3 78),
o 80 (pD 21 75 79 28 3)]
def k10_r16 : List COp := [o 6 (pZ .i64 20)]
def k10_r17 : List COp := [o 6 (pZ .i64 0)]
def k10 : CC := (.seq (.region k10_r0) (.seq (.region k10_r1) (.seq (.seq (.region k10_r2) (.cond (.tmp 14) (.seq (.region k10_r3) .ret) .skip)) (.seq (.region k10_r4) (.seq (.region k10_r5) (.seq (.seq (.region k10_r6) (.cond (.tmp 22) (.region k10_r7) .skip)) (.seq (.seq (.region k10_r8) (.cond (.tmp 40) (.seq (.region k10_r9) .ret) .skip)) (.seq (.seq k10_r10 (.cond (.tmp 62) (.seq (.region k10_r11) .ret) .skip)) (.seq (.region k10_r12) (.seq (.region k10_r13) (.seq (.seq (.region k10_r14) (.cond (.tmp 74) (.seq (.region k10_r15) (.seq (.region k10_r16) .ret)) .skip)) (.seq (.region k10_r17) .ret))))))))))))
def k10_p := PLift.up <| aI (vE k10.eq_1) <| aI (oE k10_r0.eq_1) <| aI (oE k10_r1.eq_1) <| aI (oE k10_r2.eq_1) <| aI (oE k10_r3.eq_1) <| aI (oE k10_r4.eq_1) <| aI (oE k10_r5.eq_1) <| aI (oE k10_r6.eq_1) <| aI (oE k10_r7.eq_1) <| aI (oE k10_r8.eq_1) <| aI (oE k10_r9.eq_1) <| aI (vE k10_r10.eq_1) <| aI (oE k10_r11.eq_1) <| aI (oE k10_r12.eq_1) <| aI (oE k10_r13.eq_1) <| aI (oE k10_r14.eq_1) <| aI (oE k10_r15.eq_1) <| aI (oE k10_r16.eq_1) (oE k10_r17.eq_1)
theorem k10_a : type_of% k10_p.down := k10_p.down
theorem k10_is : FnIs Tryz.prog prims 10 81 [ResultVar.tmp 6] k10 := FnIs.of_fn Tryz.func10 (by kernel_rfl) rfl
def k11_r0 : List COp := [o 4 (pZ .i64 0)]
def k11_r1 : List COp := [o 8 (pM 0),
o 9 (pM 1),
o 10 (pD 46 8 9 26 9),
o 7 (pM 10),
o 11 (pX 7 0),
o 12 (pX 7 1),
o 5 (pA 11),
o 6 (pA 12)]
def k11_r2 : List COp := [o 13 (pM 6),
o 14 (pK .neq 33 13 .i64 0 33)]
def k11_r3 : List COp := [o 15 (pM 6),
o 4 (pA 15)]
def k11_r4 : List COp := [o 16 (pM 0),
o 17 (pC 39 16 26)]
def k11_r5 : List COp := [o 18 (pM 0),
o 19 (pC 40 18 26),
o 4 (pA 19)]
def k11_r6 : List COp := [oX 20 (pM 5),
oX 21 (pM 5),
oX 22 (pM 5),
oX 23 (.nilCheck (.tmp 22)),
oX 24 (pF 77 23 0),
oX 25 (pL 30 24),
o 26 (pM 5),
o 27 (.nilCheck (.tmp 26)),
o 28 (pF 77 27 1),
o 29 (pL 30 28),
o 30 (.call { callee := .builtin .append, args := #[.tmp 25, .tmp 29], argTypes := #[30, 30, 0] }),
o 31 (.nilCheck (.tmp 20)),
o 32 (pF 77 31 0),
oS 30 32 30,
o 33 (.nilCheck (.tmp 21)),
o 34 (pF 77 33 1),
⟨none, .store 30 (.tmp 34) (.const (.slice .none 0 0)), none, true⟩]
def k11_r7 : List COp := [o 4 (pZ .i64 0)]
def k11 : CC := (.seq (.region k11_r0) (.seq (.region k11_r1) (.seq (.seq (.region k11_r2) (.cond (.tmp 14) (.seq (.region k11_r3) .ret) .skip)) (.seq (.seq (.region k11_r4) (.cond (.tmp 17) (.seq (.region k11_r5) .ret) .skip)) (.seq (.region k11_r6) (.seq (.region k11_r7) .ret))))))
def k11_p := PLift.up <| aI (vE k11.eq_1) <| aI (oE k11_r0.eq_1) <| aI (oE k11_r1.eq_1) <| aI (oE k11_r2.eq_1) <| aI (oE k11_r3.eq_1) <| aI (oE k11_r4.eq_1) <| aI (oE k11_r5.eq_1) <| aI (oE k11_r6.eq_1) (oE k11_r7.eq_1)
theorem k11_a : type_of% k11_p.down := k11_p.down
theorem k11_is : FnIs Tryz.prog prims 11 35 [ResultVar.tmp 4] k11 := FnIs.of_fn Tryz.func11 (by kernel_rfl) rfl
def k12_r0 : List COp := [o 4 (pZ .i64 0)]
def k12_r1 : List COp := [o 8 (pM 0),
o 9 (pM 1),
o 10 (pD 41 8 9 28 9),
o 5 (pA 10)]
def k12_r2 : List COp := [o 11 (pM 5),
o 12 (pK .neq 33 11 .i64 0 33)]
def k12_r3 : List COp := [o 13 (pM 5),
o 4 (pA 13)]
def k12_r4 : List COp := [o 14 (pM 0),
o 15 (pM 1),
o 16 (pD 42 14 15 28 9),
o 6 (pA 16)]
def k12_r5 : List COp := [o 17 (pM 6),
o 18 (pK .lss 3 17 .i64 0 3)]
def k12_r6 : List COp := [o 4 (pZ .i64 21)]
def k12_r7 : List COp := [o 19 (pM 0),
o 20 (pC 45 19 28)]
def k12_r8 : List COp := [o 21 (pM 0),
o 22 (pM 0),
o 23 (.nilCheck (.tmp 22)),
o 24 (pF 48 23 5),
o 25 (pL 3 24),
o 26 (pD 21 21 25 28 3)]
def k12_r9 : List COp := [o 4 (pZ .i64 20)]
def k12_r10 : List COp := [o 27 (pM 0),
o 28 (.nilCheck (.tmp 27)),
o 29 (pF 48 28 0),
o 30 (pL 46 29),
o 31 (pM 6),
o 32 (pI 46 30 31),
o 33 (pL 81 32),
o 7 (.alloc 81),
oS 81 7 33]
def k12_r11 : CC := (.wregion [
(true, oX 34 (pM 0)),
(false, oX 35 (.nilCheck (.tmp 34))),
(false, oX 36 (pF 48 35 0)),
(true, oX 37 (pL 46 36)),
(false, oX 38 (pM 6)),
(false, oX 39 (pM 1)),
(false, oX 40 (.buildSlice 30 0 #[])),
(false, oX 41 (pF 81 7 1)),
(false, oX 42 (pL 30 41)),
(false, oX 43 (pQ 40 42 30 30)),
(true, o 44 (pF 81 7 2)),
(true, o 45 (pL 30 44)),
(false, o 46 (pQ 43 45 30 30)),
(true, o 47 (.build 81 #[(0, .tmp 39), (1, .tmp 46)])),
(false, o 48 (pI 46 37 38)),
(false, oS 81 48 47)] false [(3, oX 37 (pL 46 36), [0, 10, 13]), (11, o 45 (pL 30 44), [0, 10])])
def k12_r12 : List COp := [o 4 (pZ .i64 0)]
def k12 : CC := (.seq (.region k12_r0) (.seq (.region k12_r1) (.seq (.seq (.region k12_r2) (.cond (.tmp 12) (.seq (.region k12_r3) .ret) .skip)) (.seq (.region k12_r4) (.seq (.seq (.region k12_r5) (.cond (.tmp 18) (.seq (.region k12_r6) .ret) .skip)) (.seq (.seq (.region k12_r7) (.cond (.tmp 20) (.seq (.region k12_r8) (.seq (.region k12_r9) .ret)) .skip)) (.seq (.region k12_r10) (.seq k12_r11 (.seq (.region k12_r12) .ret)))))))))
def k12_p := PLift.up <| aI (vE k12.eq_1) <| aI (oE k12_r0.eq_1) <| aI (oE k12_r1.eq_1) <| aI (oE k12_r2.eq_1) <| aI (oE k12_r3.eq_1) <| aI (oE k12_r4.eq_1) <| aI (oE k12_r5.eq_1) <| aI (oE k12_r6.eq_1) <| aI (oE k12_r7.eq_1) <| aI (oE k12_r8.eq_1) <| aI (oE k12_r9.eq_1) <| aI (oE k12_r10.eq_1) <| aI (vE k12_r11.eq_1) (oE k12_r12.eq_1)
theorem k12_a : type_of% k12_p.down := k12_p.down
theorem k12_is : FnIs Tryz.prog prims 12 49 [ResultVar.tmp 4] k12 := FnIs.of_fn Tryz.func12 (by kernel_rfl) rfl
def k13_r0 : List COp := [o 6 (pZ .i64 0)]
def k13_r1 : List COp := [o 18 (pM 0),
o 19 (.binOp .eql 26 (.tmp 18) (.const (.pointer .none)) 26),
o 17 (pA 19)]
def k13_r2 : List COp := [o 6 (pZ .i64 2)]
def k13_r3 : List COp := [o 21 (pM 1),
o 22 (pC 47 21 3),
o 23 (.binOp .eql 9 (.tmp 22) (.const (.string { data := #[] })) 9),
o 20 (pA 23)]
def k13_r4 : List COp := [o 6 (pZ .i64 1)]
def k13_r5 : List COp := [o 25 (pM 2),
o 26 (pN 25 30),
o 27 (pK .gtr 3 26 .i64 1048564 3),
o 24 (pA 27)]
def k13_r6 : List COp := [o 6 (pZ .i64 3)]
def k13_r7 : List COp := [o 29 (pM 0),
o 30 (pC 48 29 26),
o 28 (pA 30)]
def k13_r8 : List COp := [o 6 (pZ .i64 20)]
def k13_r9 : List COp := [o 32 (pM 0),
o 33 (.call { callee := .value (.func 49), args := #[.tmp 32, .const (.string { data := #[100, 114, 97, 102, 116] })], argTypes := #[26, 9] }),
o 31 (pM 33),
o 34 (pX 31 0),
o 35 (pX 31 1),
o 7 (pA 34),
o 8 (pA 35)]
def k13_r10 : List COp := [o 36 (pM 8),
o 37 (pK .eql 33 36 .i64 0 33)]
def k13_r11 : List COp := [o 38 (pM 0),
o 39 (.call { callee := .value (.func 50), args := #[.tmp 38, .const (.string { data := #[100, 114, 97, 102, 116] })], argTypes := #[26, 9] }),
o 9 (pA 39)]
def k13_r12 : List COp := [o 40 (pM 9),
o 41 (pK .neq 33 40 .i64 0 33)]
def k13_r13 : List COp := [o 42 (pM 9),
o 6 (pA 42)]
def k13_r14 : List COp := [o 43 (pM 0),
o 44 (pM 1),
o 45 (pM 2),
o 46 (pD 51 44 45 3 30),
o 47 (.call { callee := .value (.func 9), args := #[.tmp 43, .const (.string { data := #[100, 114, 97, 102, 116] }), .tmp 46], argTypes := #[26, 9, 30] }),
o 10 (pA 47)]
def k13_r15 : List COp := [o 48 (pM 10),
o 49 (pK .neq 33 48 .i64 0 33)]
def k13_r16 : List COp := [o 50 (pM 10),
o 6 (pA 50)]
def k13_r17 : List COp := [o 51 (pM 0),
o 52 (.call { callee := .value (.func 11), args := #[.tmp 51, .const (.string { data := #[100, 114, 97, 102, 116] })], argTypes := #[26, 9] }),
o 11 (pA 52)]
def k13_r18 : List COp := [o 53 (pM 11),
o 54 (pK .neq 33 53 .i64 0 33)]
def k13_r19 : List COp := [o 55 (pM 11),
o 6 (pA 55)]
def k13_r20 : List COp := [o 56 (pM 0),
o 57 (pM 1),
o 58 (pC 47 57 3),
o 59 (.call { callee := .value (.func 52), args := #[.tmp 56, .const (.string { data := #[100, 114, 97, 102, 116] }), .tmp 58], argTypes := #[26, 9, 9] }),
o 12 (pA 59)]
def k13_r21 : List COp := [o 60 (pM 12),
o 61 (pK .neq 33 60 .i64 0 33)]
def k13_r22 : List COp := [o 62 (pM 12),
o 6 (pA 62)]
def k13_r23 : List COp := [o 63 (pM 0),
o 64 (pC 36 63 26),
o 65 (pN 64 70),
o 66 (pW .i64 0)]
def k13_r24 : List COp := [o 67 (pB .lss 3 66 65 3)]
def k13_r25 : List COp := [o 68 (pI 70 64 66),
o 69 (pL 9 68),
o 14 (pA 69)]
def k13_r26 : List COp := [o 70 (pM 14),
o 71 (pC 53 70 9),
o 15 (pA 71)]
def k13_r27 : List COp := [o 72 (pM 15),
o 73 (pK .lss 3 72 .i64 0 3),
o 74 (pM 73),
oF 75 (pM 15) 74,
oF 76 (pM 1) 74,
oF 77 (pB .eql 3 75 76 3) 74,
o 78 (pV 74 77)]
def k13_r28 : List COp := [o 79 (pM 0),
o 80 (pM 14),
o 81 (pD 50 79 80 26 9),
o 16 (pA 81)]
def k13_r29 : List COp := [o 82 (pM 16),
o 83 (pK .neq 33 82 .i64 0 33)]
def k13_r30 : List COp := [o 84 (pM 16),
o 6 (pA 84)]
def k13_r31 : List COp := [o 85 (pK .add 3 66 .i64 1 3),
o 66 (pM 85)]
def k13_l0 : CC := (.seq (.region k13_r24) (.seq (.cond (.tmp 67) .skip (.exit 1)) (.seq (.block 2 (.seq (.region k13_r25) (.seq (.seq (.region k13_r26) (.seq (.region k13_r27) (.cond (.tmp 78) (.exit 2) .skip))) (.seq (.region k13_r28) (.seq (.region k13_r29) (.cond (.tmp 83) (.seq (.region k13_r30) .ret) .skip)))))) (.region k13_r31))))
def k13_r32 : List COp := [o 6 (pZ .i64 0)]
def k13 : CC := (.seq (.region k13_r0) (.seq (.block 0 (.seq (.region k13_r1) (.cond (.tmp 17) (.seq (.region k13_r2) .ret) (.seq (.region k13_r3) (.cond (.tmp 20) (.seq (.region k13_r4) .ret) (.seq (.region k13_r5) (.cond (.tmp 24) (.seq (.region k13_r6) .ret) (.seq (.region k13_r7) (.cond (.tmp 28) (.seq (.region k13_r8) .ret) .skip))))))))) (.seq (.seq (.region k13_r9) (.seq (.region k13_r10) (.cond (.tmp 37) (.seq (.region k13_r11) (.seq (.region k13_r12) (.cond (.tmp 41) (.seq (.region k13_r13) .ret) .skip))) .skip))) (.seq (.seq (.region k13_r14) (.seq (.region k13_r15) (.cond (.tmp 49) (.seq (.region k13_r16) .ret) .skip))) (.seq (.seq (.region k13_r17) (.seq (.region k13_r18) (.cond (.tmp 54) (.seq (.region k13_r19) .ret) .skip))) (.seq (.seq (.region k13_r20) (.seq (.region k13_r21) (.cond (.tmp 61) (.seq (.region k13_r22) .ret) .skip))) (.seq (.seq (.region k13_r23) (.block 1 (.loop k13_l0))) (.seq (.region k13_r32) .ret))))))))
def k13_p := PLift.up <| aI (vE k13.eq_1) <| aI (oE k13_r0.eq_1) <| aI (oE k13_r1.eq_1) <| aI (oE k13_r2.eq_1) <| aI (oE k13_r3.eq_1) <| aI (oE k13_r4.eq_1) <| aI (oE k13_r5.eq_1) <| aI (oE k13_r6.eq_1) <| aI (oE k13_r7.eq_1) <| aI (oE k13_r8.eq_1) <| aI (oE k13_r9.eq_1) <| aI (oE k13_r10.eq_1) <| aI (oE k13_r11.eq_1) <| aI (oE k13_r12.eq_1) <| aI (oE k13_r13.eq_1) <| aI (oE k13_r14.eq_1) <| aI (oE k13_r15.eq_1) <| aI (oE k13_r16.eq_1) <| aI (oE k13_r17.eq_1) <| aI (oE k13_r18.eq_1) <| aI (oE k13_r19.eq_1) <| aI (oE k13_r20.eq_1) <| aI (oE k13_r21.eq_1) <| aI (oE k13_r22.eq_1) <| aI (oE k13_r23.eq_1) <| aI (oE k13_r24.eq_1) <| aI (oE k13_r25.eq_1) <| aI (oE k13_r26.eq_1) <| aI (oE k13_r27.eq_1) <| aI (oE k13_r28.eq_1) <| aI (oE k13_r29.eq_1) <| aI (oE k13_r30.eq_1) <| aI (oE k13_r31.eq_1) <| aI (vE k13_l0.eq_1) (oE k13_r32.eq_1)
theorem k13_a : type_of% k13_p.down := k13_p.down
theorem k13_is : FnIs Tryz.prog prims 13 86 [ResultVar.tmp 6] k13 := FnIs.of_fn Tryz.func13 (by kernel_rfl) rfl
def k14_r0 : List COp := [o 6 (pZ .i64 0)]
def k14_r1 : List COp := [o 12 (pM 1),
o 13 (pC 54 12 3),
o 14 (.binOp .eql 9 (.tmp 13) (.const (.string { data := #[] })) 9)]
def k14_r2 : List COp := [o 6 (pZ .i64 1)]
def k14_r3 : List COp := [o 15 (pM 2),
o 16 (pN 15 30),
o 17 (pK .add 3 16 .i64 12 3),
o 18 (pK .gtr 3 17 .i64 1048576 3)]
def k14_r4 : List COp := [o 6 (pZ .i64 3)]
def k14_r5 : List COp := [o 19 (pM 0),
o 20 (.nilCheck (.tmp 19)),
o 21 (pF 48 20 2),
o 22 (pL 4 21),
o 23 (.unOp .not 4 (.tmp 22))]
def k14_r6 : List COp := [o 6 (pZ .i64 20)]
def k14_r7 : List COp := [o 25 (pM 0),
o 26 (.call { callee := .value (.func 55), args := #[.tmp 25, .const (.string { data := #[100, 114, 97, 102, 116] })], argTypes := #[28, 9] }),
o 24 (pM 26),
o 27 (pX 24 0),
o 28 (pX 24 1),
o 7 (pA 27),
o 8 (pA 28)]
def k14_r8 : List COp := [o 29 (pM 8),
o 30 (pK .eql 33 29 .i64 0 33)]
def k14_r9 : List COp := [o 31 (pM 0),
o 32 (.call { callee := .value (.func 56), args := #[.tmp 31, .const (.string { data := #[100, 114, 97, 102, 116] })], argTypes := #[28, 9] }),
o 8 (pA 32)]
def k14_r10 : List COp := [o 33 (pM 8),
o 34 (pK .neq 33 33 .i64 0 33)]
def k14_r11 : List COp := [o 35 (pM 8),
o 6 (pA 35)]
def k14_r12 : List COp := [o 36 (pM 0),
o 37 (pM 1),
o 38 (pM 2),
o 39 (pD 57 37 38 3 30),
o 40 (.call { callee := .value (.func 10), args := #[.tmp 36, .const (.string { data := #[100, 114, 97, 102, 116] }), .tmp 39], argTypes := #[28, 9, 30] }),
o 8 (pA 40)]
def k14_r13 : List COp := [o 41 (pM 8),
o 42 (pK .eql 33 41 .i64 0 33)]
def k14_r14 : List COp := [o 43 (pM 0),
o 44 (.call { callee := .value (.func 12), args := #[.tmp 43, .const (.string { data := #[100, 114, 97, 102, 116] })], argTypes := #[28, 9] }),
o 8 (pA 44)]
def k14_r15 : List COp := [o 45 (pM 8),
o 46 (pK .eql 33 45 .i64 0 33)]
def k14_r16 : List COp := [o 47 (pM 0),
o 48 (pM 1),
o 49 (pC 54 48 3),
o 50 (.call { callee := .value (.func 58), args := #[.tmp 47, .const (.string { data := #[100, 114, 97, 102, 116] }), .tmp 49], argTypes := #[28, 9, 9] }),
o 8 (pA 50)]
def k14_r17 : List COp := [o 51 (pM 8),
o 52 (pK .neq 33 51 .i64 0 33)]
def k14_r18 : List COp := [o 53 (pM 8),
o 6 (pA 53)]
def k14_r19 : List COp := [o 54 (pM 0),
o 55 (pC 59 54 28),
o 56 (pN 55 70),
o 57 (pW .i64 0)]
def k14_r20 : List COp := [o 58 (pB .lss 3 57 56 3)]
def k14_r21 : List COp := [o 59 (pI 70 55 57),
o 60 (pL 9 59),
o 10 (pA 60)]
def k14_r22 : List COp := [o 61 (pM 10),
o 62 (pC 60 61 9),
o 11 (pA 62)]
def k14_r23 : List COp := [o 63 (pM 11),
o 64 (pK .geq 3 63 .i64 0 3),
o 65 (pM 64),
oT 66 (pM 11) 65,
oT 67 (pM 1) 65,
oT 68 (pB .neq 3 66 67 3) 65,
o 69 (pU 65 68)]
def k14_r24 : List COp := [o 70 (pM 0),
o 71 (pM 10),
o 72 (pD 56 70 71 28 9),
o 8 (pA 72)]
def k14_r25 : List COp := [o 73 (pM 8),
o 74 (pK .neq 33 73 .i64 0 33)]
def k14_r26 : List COp := [o 75 (pM 8),
o 6 (pA 75)]
def k14_r27 : List COp := [o 76 (pK .add 3 57 .i64 1 3),
o 57 (pM 76)]
def k14_l0 : CC := (.seq (.region k14_r20) (.seq (.cond (.tmp 58) .skip (.exit 0)) (.seq (.block 1 (.seq (.region k14_r21) (.seq (.region k14_r22) (.seq (.region k14_r23) (.cond (.tmp 69) (.seq (.region k14_r24) (.seq (.region k14_r25) (.cond (.tmp 74) (.seq (.region k14_r26) .ret) .skip))) .skip))))) (.region k14_r27))))
def k14_r28 : List COp := [o 6 (pZ .i64 0)]
def k14 : CC := (.seq (.region k14_r0) (.seq (.seq (.region k14_r1) (.cond (.tmp 14) (.seq (.region k14_r2) .ret) .skip)) (.seq (.seq (.region k14_r3) (.cond (.tmp 18) (.seq (.region k14_r4) .ret) .skip)) (.seq (.seq (.region k14_r5) (.cond (.tmp 23) (.seq (.region k14_r6) .ret) .skip)) (.seq (.region k14_r7) (.seq (.seq (.region k14_r8) (.cond (.tmp 30) (.seq (.region k14_r9) (.seq (.region k14_r10) (.cond (.tmp 34) (.seq (.region k14_r11) .ret) .skip))) .skip)) (.seq (.region k14_r12) (.seq (.seq (.region k14_r13) (.cond (.tmp 42) (.region k14_r14) .skip)) (.seq (.seq (.region k14_r15) (.cond (.tmp 46) (.region k14_r16) .skip)) (.seq (.seq (.region k14_r17) (.cond (.tmp 52) (.seq (.region k14_r18) .ret) .skip)) (.seq (.seq (.region k14_r19) (.block 0 (.loop k14_l0))) (.seq (.region k14_r28) .ret))))))))))))
def k14_p := PLift.up <| aI (vE k14.eq_1) <| aI (oE k14_r0.eq_1) <| aI (oE k14_r1.eq_1) <| aI (oE k14_r2.eq_1) <| aI (oE k14_r3.eq_1) <| aI (oE k14_r4.eq_1) <| aI (oE k14_r5.eq_1) <| aI (oE k14_r6.eq_1) <| aI (oE k14_r7.eq_1) <| aI (oE k14_r8.eq_1) <| aI (oE k14_r9.eq_1) <| aI (oE k14_r10.eq_1) <| aI (oE k14_r11.eq_1) <| aI (oE k14_r12.eq_1) <| aI (oE k14_r13.eq_1) <| aI (oE k14_r14.eq_1) <| aI (oE k14_r15.eq_1) <| aI (oE k14_r16.eq_1) <| aI (oE k14_r17.eq_1) <| aI (oE k14_r18.eq_1) <| aI (oE k14_r19.eq_1) <| aI (oE k14_r20.eq_1) <| aI (oE k14_r21.eq_1) <| aI (oE k14_r22.eq_1) <| aI (oE k14_r23.eq_1) <| aI (oE k14_r24.eq_1) <| aI (oE k14_r25.eq_1) <| aI (oE k14_r26.eq_1) <| aI (oE k14_r27.eq_1) <| aI (vE k14_l0.eq_1) (oE k14_r28.eq_1)
theorem k14_a : type_of% k14_p.down := k14_p.down
theorem k14_is : FnIs Tryz.prog prims 14 77 [ResultVar.tmp 6] k14 := FnIs.of_fn Tryz.func14 (by kernel_rfl) rfl
def k15_r0 : List COp := [o 2 (pZ .i64 0),
o 3 (.assign (.const (.slice .none 0 0))),
o 4 (pZ .i64 0)]
def k15_r1 : List COp := [o 15 (pM 0),
o 16 (.binOp .eql 26 (.tmp 15) (.const (.pointer .none)) 26),
o 14 (pA 16)]
def k15_r2 : List COp := [o 2 (pZ .i64 0),
o 3 (.assign (.const (.slice .none 0 0))),
o 4 (pZ .i64 2)]
def k15_r3 : List COp := [o 18 (pM 0),
o 19 (pC 48 18 26),
o 17 (pA 19)]
def k15_r4 : List COp := [o 2 (pZ .i64 0),
o 3 (.assign (.const (.slice .none 0 0))),
o 4 (pZ .i64 20)]
def k15_r5 : List COp := [o 5 (pZ .i64 (-1)),
o 6 (.assign (.const (.slice .none 0 0)))]
def k15_r6 : List COp := [o 20 (pM 0),
o 21 (pC 36 20 26),
o 22 (pN 21 70),
o 23 (pW .i64 0)]
def k15_r7 : List COp := [o 24 (pB .lss 3 23 22 3)]
def k15_r8 : List COp := [o 25 (pI 70 21 23),
o 26 (pL 9 25),
o 8 (pA 26)]
def k15_r9 : List COp := [o 27 (pM 8),
o 28 (pC 53 27 9),
o 9 (pA 28)]
def k15_r10 : List COp := [o 29 (pM 9),
o 30 (pK .lss 3 29 .i64 0 3)]
def k15_r11 : CC := (.hreg [
(false, o 32 (pM 0)),
(false, o 33 (pM 8)),
(false, o 34 (pD 49 32 33 26 9)),
(false, o 31 (pM 34)),
(false, o 35 (pX 31 0)),
(false, o 36 (pX 31 1)),
(true, o 10 (pA 35)),
(true, o 11 (pA 36))])
def k15_r12 : List COp := [o 38 (pM 9),
o 39 (pM 10),
o 40 (pD 61 38 39 3 30),
o 37 (pM 40),
o 41 (pX 37 0),
o 42 (pX 37 1),
o 12 (pA 41),
o 13 (pA 42)]
def k15_r13 : List COp := [o 43 (pM 13),
o 44 (pK .eql 33 43 .i64 0 33)]
def k15_r14 : List COp := [o 45 (pM 9),
o 46 (pM 12),
o 5 (pA 45),
o 6 (pA 46)]
def k15_r15 : List COp := [o 47 (pK .add 3 23 .i64 1 3),
o 23 (pM 47)]
def k15_l0 : CC := (.seq (.region k15_r7) (.seq (.cond (.tmp 24) .skip (.exit 1)) (.seq (.block 2 (.seq (.region k15_r8) (.seq (.region k15_r9) (.seq (.seq (.region k15_r10) (.cond (.tmp 30) (.exit 2) .skip)) (.seq k15_r11 (.seq (.region k15_r12) (.seq (.region k15_r13) (.cond (.tmp 44) (.region k15_r14) .skip)))))))) (.region k15_r15))))
def k15_r16 : List COp := [o 48 (pM 5),
o 49 (pM 6),
o 2 (pA 48),
o 3 (pA 49),
o 4 (pZ .i64 0)]
def k15 : CC := (.seq (.region k15_r0) (.seq (.block 0 (.seq (.region k15_r1) (.cond (.tmp 14) (.seq (.region k15_r2) .ret) (.seq (.region k15_r3) (.cond (.tmp 17) (.seq (.region k15_r4) .ret) .skip))))) (.seq (.region k15_r5) (.seq (.seq (.region k15_r6) (.block 1 (.loop k15_l0))) (.seq (.region k15_r16) .ret)))))
def k15_p := PLift.up <| aI (vE k15.eq_1) <| aI (oE k15_r0.eq_1) <| aI (oE k15_r1.eq_1) <| aI (oE k15_r2.eq_1) <| aI (oE k15_r3.eq_1) <| aI (oE k15_r4.eq_1) <| aI (oE k15_r5.eq_1) <| aI (oE k15_r6.eq_1) <| aI (oE k15_r7.eq_1) <| aI (oE k15_r8.eq_1) <| aI (oE k15_r9.eq_1) <| aI (oE k15_r10.eq_1) <| aI (vE k15_r11.eq_1) <| aI (oE k15_r12.eq_1) <| aI (oE k15_r13.eq_1) <| aI (oE k15_r14.eq_1) <| aI (oE k15_r15.eq_1) <| aI (vE k15_l0.eq_1) (oE k15_r16.eq_1)
theorem k15_a : type_of% k15_p.down := k15_p.down
theorem k15_is : FnIs Tryz.prog prims 15 50 [ResultVar.tmp 2, ResultVar.tmp 3, ResultVar.tmp 4] k15 := FnIs.of_fn Tryz.func15 (by kernel_rfl) rfl
def k16_r0 : List COp := [o 2 (pZ .i64 0),
o 3 (.assign (.const (.slice .none 0 0))),
o 4 (pZ .i64 0)]
def k16_r1 : List COp := [o 14 (pM 0),
o 15 (.nilCheck (.tmp 14)),
o 16 (pF 48 15 2),
o 17 (pL 4 16),
o 18 (.unOp .not 4 (.tmp 17))]
def k16_r2 : List COp := [o 2 (pZ .i64 0),
o 3 (.assign (.const (.slice .none 0 0))),
o 4 (pZ .i64 20)]
def k16_r3 : List COp := [o 5 (pZ .i64 (-1))]
def k16_r4 : List COp := [o 6 (.assign (.const (.slice .none 0 0)))]
def k16_r5 : List COp := [o 19 (pM 0),
o 20 (pC 59 19 28),
o 21 (pN 20 70),
o 22 (pW .i64 0)]
def k16_r6 : List COp := [o 23 (pB .lss 3 22 21 3)]
def k16_r7 : List COp := [o 24 (pI 70 20 22),
o 25 (pL 9 24),
o 8 (pA 25)]
def k16_r8 : List COp := [o 26 (pM 8),
o 27 (pC 60 26 9),
o 9 (pA 27)]
def k16_r9 : List COp := [o 28 (pM 9),
o 29 (pK .lss 3 28 .i64 0 3)]
def k16_r10 : List COp := [o 31 (pM 0),
o 32 (pM 8),
o 33 (pD 55 31 32 28 9),
o 30 (pM 33),
o 34 (pX 30 0),
o 35 (pX 30 1),
o 10 (pA 34),
o 11 (pA 35)]
def k16_r11 : List COp := [o 37 (pM 9),
o 38 (pM 10),
o 39 (pD 62 37 38 3 30),
o 36 (pM 39),
o 40 (pX 36 0),
o 41 (pX 36 1),
o 12 (pA 40),
o 13 (pA 41)]
def k16_r12 : List COp := [o 42 (pM 13),
o 43 (pK .eql 33 42 .i64 0 33)]
def k16_r13 : List COp := [o 44 (pM 9),
o 5 (pA 44)]
def k16_r14 : List COp := [o 45 (pM 12),
o 6 (pA 45)]
def k16_r15 : List COp := [o 46 (pK .add 3 22 .i64 1 3),
o 22 (pM 46)]
def k16_l0 : CC := (.seq (.region k16_r6) (.seq (.cond (.tmp 23) .skip (.exit 0)) (.seq (.block 1 (.seq (.region k16_r7) (.seq (.region k16_r8) (.seq (.seq (.region k16_r9) (.cond (.tmp 29) (.exit 1) .skip)) (.seq (.region k16_r10) (.seq (.region k16_r11) (.seq (.region k16_r12) (.cond (.tmp 43) (.seq (.region k16_r13) (.region k16_r14)) .skip)))))))) (.region k16_r15))))
def k16_r16 : List COp := [o 47 (pM 5),
o 48 (pM 6),
o 2 (pA 47),
o 3 (pA 48),
o 4 (pZ .i64 0)]
def k16 : CC := (.seq (.region k16_r0) (.seq (.seq (.region k16_r1) (.cond (.tmp 18) (.seq (.region k16_r2) .ret) .skip)) (.seq (.region k16_r3) (.seq (.region k16_r4) (.seq (.seq (.region k16_r5) (.block 0 (.loop k16_l0))) (.seq (.region k16_r16) .ret))))))
def k16_p := PLift.up <| aI (vE k16.eq_1) <| aI (oE k16_r0.eq_1) <| aI (oE k16_r1.eq_1) <| aI (oE k16_r2.eq_1) <| aI (oE k16_r3.eq_1) <| aI (oE k16_r4.eq_1) <| aI (oE k16_r5.eq_1) <| aI (oE k16_r6.eq_1) <| aI (oE k16_r7.eq_1) <| aI (oE k16_r8.eq_1) <| aI (oE k16_r9.eq_1) <| aI (oE k16_r10.eq_1) <| aI (oE k16_r11.eq_1) <| aI (oE k16_r12.eq_1) <| aI (oE k16_r13.eq_1) <| aI (oE k16_r14.eq_1) <| aI (oE k16_r15.eq_1) <| aI (vE k16_l0.eq_1) (oE k16_r16.eq_1)
theorem k16_a : type_of% k16_p.down := k16_p.down
theorem k16_is : FnIs Tryz.prog prims 16 49 [ResultVar.tmp 2, ResultVar.tmp 3, ResultVar.tmp 4] k16 := FnIs.of_fn Tryz.func16 (by kernel_rfl) rfl
def k17_r0 : List COp := [o 4 (pO false)]
def k17_r1 : List COp := [o 6 (pM 0),
o 7 (pN 6 30),
o 8 (pM 1),
o 9 (pN 8 30),
o 10 (pB .neq 3 7 9 3)]
def k17_r2 : List COp := [o 4 (pO false)]
def k17_r3 : List COp := [o 11 (pM 0),
o 12 (pN 11 30),
o 13 (pW .i64 0)]
def k17_r4 : List COp := [o 14 (pB .lss 3 13 12 3)]
def k17_r5 : List COp := [o 15 (pM 13),
o 5 (pA 15)]
def k17_r6 : List COp := [oX 16 (pM 0),
oX 17 (pM 5),
oX 18 (pI 30 16 17),
oX 19 (pL 5 18),
oX 20 (pM 1),
o 21 (pM 5),
o 22 (pI 30 20 21),
o 23 (pL 5 22),
o 24 (pB .neq 5 19 23 5)]
def k17_r7 : List COp := [o 4 (pO false)]
def k17_r8 : List COp := [o 25 (pK .add 3 13 .i64 1 3),
o 13 (pM 25)]
def k17_l0 : CC := (.seq (.region k17_r4) (.seq (.cond (.tmp 14) .skip (.exit 0)) (.seq (.block 1 (.seq (.region k17_r5) (.seq (.region k17_r6) (.cond (.tmp 24) (.seq (.region k17_r7) .ret) .skip)))) (.region k17_r8))))
def k17_r9 : List COp := [o 4 (pO true)]
def k17 : CC := (.seq (.region k17_r0) (.seq (.seq (.region k17_r1) (.cond (.tmp 10) (.seq (.region k17_r2) .ret) .skip)) (.seq (.seq (.region k17_r3) (.block 0 (.loop k17_l0))) (.seq (.region k17_r9) .ret))))
def k17_p := PLift.up <| aI (vE k17.eq_1) <| aI (oE k17_r0.eq_1) <| aI (oE k17_r1.eq_1) <| aI (oE k17_r2.eq_1) <| aI (oE k17_r3.eq_1) <| aI (oE k17_r4.eq_1) <| aI (oE k17_r5.eq_1) <| aI (oE k17_r6.eq_1) <| aI (oE k17_r7.eq_1) <| aI (oE k17_r8.eq_1) <| aI (vE k17_l0.eq_1) (oE k17_r9.eq_1)
theorem k17_a : type_of% k17_p.down := k17_p.down
theorem k17_is : FnIs Tryz.prog prims 17 26 [ResultVar.tmp 4] k17 := FnIs.of_fn Tryz.func17 (by kernel_rfl) rfl
def k18_r0 : List COp := [o 6 (pM 0),
o 7 (.binOp .neq 26 (.tmp 6) (.const (.pointer .none)) 26)]
def k18_r1 : List COp := [o 8 (pM 0),
o 9 (pM 0),
o 10 (pM 1),
o 11 (.call { callee := .builtin .max, args := #[.tmp 10, .const (.int .i64 0)], argTypes := #[3, 3] }),
o 12 (pM 2),
o 13 (.nilCheck (.tmp 8)),
o 14 (pF 74 13 4),
oS 3 14 11,
o 15 (.nilCheck (.tmp 9)),
o 16 (pF 74 15 5),
oS 3 16 12]
def k18 : CC := (.seq (.region k18_r0) (.cond (.tmp 7) (.region k18_r1) .skip))
def k18_p := PLift.up <| aI (vE k18.eq_1) <| aI (oE k18_r0.eq_1) (oE k18_r1.eq_1)
theorem k18_a : type_of% k18_p.down := k18_p.down
theorem k18_is : FnIs Tryz.prog prims 18 17 [] k18 := FnIs.of_fn Tryz.func18 (by kernel_rfl) rfl
def k19_r0 : List COp := [o 6 (pM 0),
o 7 (pM 1),
o 8 (.nilCheck (.tmp 6)),
o 9 (pF 48 8 4),
oS 3 9 7]
def k19_r1 : List COp := [o 10 (pM 1),
o 11 (pK .lss 3 10 .i64 0 3)]
def k19_r2 : List COp := [o 12 (pM 0),
o 13 (.nilCheck (.tmp 12)),
o 14 (pF 48 13 4),
⟨none, .store 3 (.tmp 14) (.const (.int .i64 0)), none, true⟩]
def k19_r3 : List COp := [o 15 (pM 0),
o 16 (pM 2),
o 17 (.nilCheck (.tmp 15)),
o 18 (pF 48 17 5),
oS 3 18 16]
def k19 : CC := (.seq (.region k19_r0) (.seq (.seq (.region k19_r1) (.cond (.tmp 11) (.region k19_r2) .skip)) (.region k19_r3)))
def k19_p := PLift.up <| aI (vE k19.eq_1) <| aI (oE k19_r0.eq_1) <| aI (oE k19_r1.eq_1) <| aI (oE k19_r2.eq_1) (oE k19_r3.eq_1)
theorem k19_a : type_of% k19_p.down := k19_p.down
theorem k19_is : FnIs Tryz.prog prims 19 19 [] k19 := FnIs.of_fn Tryz.func19 (by kernel_rfl) rfl
def k21_r0 : List COp := [o 7 (pM 0),
o 8 (.nilCheck (.tmp 7)),
o 9 (pF 48 8 2),
o 10 (pL 4 9),
o 11 (.unOp .not 4 (.tmp 10))]
def k21_r1 : List COp := [o 12 (pM 0),
o 13 (.nilCheck (.tmp 12)),
o 14 (pF 48 13 0),
o 15 (pL 46 14),
o 16 (pN 15 46),
o 17 (pW .i64 0)]
def k21_r2 : List COp := [o 18 (pB .lss 3 17 16 3)]
def k21_r3 : List COp := [o 19 (pM 17),
o 4 (pA 19)]
def k21_r4 : List COp := [o 20 (pM 0),
o 21 (.nilCheck (.tmp 20)),
o 22 (pF 48 21 0),
o 23 (pL 46 22),
o 24 (pM 4),
o 25 (pI 46 23 24),
o 26 (pL 81 25),
o 5 (.alloc 81),
oS 81 5 26]
def k21_r5 : List COp := [o 6 (pZ .i64 0)]
def k21_r6 : List COp := [o 27 (pM 6),
o 28 (pF 81 5 2),
o 29 (pL 30 28),
o 30 (pN 29 30),
o 31 (pB .lss 3 27 30 3),
o 32 (pM 31),
oT 33 (pM 6) 32,
oT 34 (pM 1) 32,
oT 35 (pB .lss 3 33 34 3) 32,
o 36 (pU 32 35)]
def k21_r8 : CC := (.wregion [
(true, oX 39 (.buildSlice 30 0 #[])),
(false, oX 40 (pF 81 5 1)),
(false, oX 41 (pL 30 40)),
(false, oX 42 (pQ 39 41 30 30)),
(true, oX 43 (pF 81 5 2)),
(true, oX 44 (pL 30 43)),
(false, o 45 (pM 6)),
(false, o 46 (pI 30 44 45)),
(true, o 47 (pL 5 46)),
(false, o 48 (.buildSlice 30 1 #[(0, .tmp 47)])),
(false, o 49 (pQ 42 48 30 30)),
(false, o 50 (pF 81 5 1)),
(false, oS 30 50 49)] false [(5, oX 44 (pL 30 43), [0, 4]), (8, o 47 (pL 5 46), [0, 4])])
def k21_r7 : List COp := [o 37 (pM 6),
o 38 (pK .add 3 37 .i64 1 3),
o 6 (pA 38)]
def k21_l1 : CC := (.seq (.seq (.region k21_r6) (.cond (.tmp 36) .skip (.exit 2))) (.seq (.block 3 k21_r8) (.region k21_r7)))
def k21_r9 : List COp := [oX 51 (pM 0),
oX 52 (.nilCheck (.tmp 51)),
oX 53 (pF 48 52 0),
oX 54 (pL 46 53),
oX 55 (pM 4),
oX 56 (pF 81 5 0),
oX 57 (pL 9 56),
o 58 (pF 81 5 1),
o 59 (pL 30 58),
o 60 (.build 81 #[(0, .tmp 57), (1, .tmp 59)]),
o 61 (pI 46 54 55),
oS 81 61 60]
def k21_r10 : List COp := [o 62 (pK .add 3 17 .i64 1 3),
o 17 (pM 62)]
def k21_l0 : CC := (.seq (.region k21_r2) (.seq (.cond (.tmp 18) .skip (.exit 0)) (.seq (.block 1 (.seq (.region k21_r3) (.seq (.region k21_r4) (.seq (.seq (.region k21_r5) (.block 2 (.loop k21_l1))) (.region k21_r9))))) (.region k21_r10))))
def k21_r11 : List COp := [o 63 (pM 0),
o 64 (.nilCheck (.tmp 63)),
o 65 (pF 48 64 2),
⟨none, .store 4 (.tmp 65) (.const (.bool false)), none, true⟩]
def k21_r12 : List COp := [o 66 (pM 0),
o 67 (.nilCheck (.tmp 66)),
o 68 (pF 48 67 4),
⟨none, .store 3 (.tmp 68) (.const (.int .i64 0)), none, true⟩]
def k21 : CC := (.seq (.seq (.region k21_r0) (.cond (.tmp 11) .ret .skip)) (.seq (.seq (.region k21_r1) (.block 0 (.loop k21_l0))) (.seq (.region k21_r11) (.region k21_r12))))
def k21_p := PLift.up <| aI (vE k21.eq_1) <| aI (oE k21_r0.eq_1) <| aI (oE k21_r1.eq_1) <| aI (oE k21_r2.eq_1) <| aI (oE k21_r3.eq_1) <| aI (oE k21_r4.eq_1) <| aI (oE k21_r5.eq_1) <| aI (oE k21_r6.eq_1) <| aI (vE k21_r8.eq_1) <| aI (oE k21_r7.eq_1) <| aI (vE k21_l1.eq_1) <| aI (oE k21_r9.eq_1) <| aI (oE k21_r10.eq_1) <| aI (vE k21_l0.eq_1) <| aI (oE k21_r11.eq_1) (oE k21_r12.eq_1)
theorem k21_a : type_of% k21_p.down := k21_p.down
theorem k21_is : FnIs Tryz.prog prims 21 69 [] k21 := FnIs.of_fn Tryz.func21 (by kernel_rfl) rfl
def k22_r0 : List COp := [o 2 (pM 0),
o 3 (.binOp .neq 26 (.tmp 2) (.const (.pointer .none)) 26)]
def k22_r1 : List COp := [o 4 (pM 0),
o 5 (.nilCheck (.tmp 4)),
o 6 (pF 74 5 2),
⟨none, .store 4 (.tmp 6) (.const (.bool false)), none, true⟩]
def k22 : CC := (.seq (.region k22_r0) (.cond (.tmp 3) (.region k22_r1) .skip))
def k22_p := PLift.up <| aI (vE k22.eq_1) <| aI (oE k22_r0.eq_1) (oE k22_r1.eq_1)
theorem k22_a : type_of% k22_p.down := k22_p.down
theorem k22_is : FnIs Tryz.prog prims 22 7 [] k22 := FnIs.of_fn Tryz.func22 (by kernel_rfl) rfl
def k23_r0 : List COp := [o 4 (pM 0),
o 5 (.binOp .neq 26 (.tmp 4) (.const (.pointer .none)) 26)]
def k23_r1 : List COp := [o 6 (pM 0),
o 7 (pM 1),
o 8 (.nilCheck (.tmp 6)),
o 9 (pF 74 8 1),
oS 3 9 7]
def k23 : CC := (.seq (.region k23_r0) (.cond (.tmp 5) (.region k23_r1) .skip))
def k23_p := PLift.up <| aI (vE k23.eq_1) <| aI (oE k23_r0.eq_1) (oE k23_r1.eq_1)
theorem k23_a : type_of% k23_p.down := k23_p.down
theorem k23_is : FnIs Tryz.prog prims 23 10 [] k23 := FnIs.of_fn Tryz.func23 (by kernel_rfl) rfl
def k24_r0 : List COp := [o 4 (pO false)]
def k24_r1 : List COp := [o 12 (pM 0),
o 13 (pC 36 12 26),
o 14 (pM 1),
o 15 (pC 59 14 28),
o 5 (pA 13),
o 6 (pA 15)]
def k24_r2 : CC := (.wregion [
(true, oX 16 (pM 5)),
(false, oX 17 (pN 16 70)),
(false, o 18 (pM 6)),
(false, o 19 (pN 18 70)),
(false, o 20 (pB .neq 3 17 19 3)),
(false, o 21 (pM 20)),
(false, ⟨some 22, .move (.tmp 0), some (21, false), false⟩),
(false, ⟨some 23, .call { callee := .value (.func 48), args := #[.tmp 22], argTypes := #[26] }, some (21, false), false⟩),
(true, oF 24 (pM 1) 21),
(false, oF 25 (.nilCheck (.tmp 24)) 21),
(false, oF 26 (pF 48 25 2) 21),
(true, oF 27 (pL 4 26) 21),
(false, oF 28 (pB .eql 4 23 27 4) 21),
(false, o 29 (pV 21 28)),
(false, o 30 (pM 29)),
(false, ⟨some 31, .move (.tmp 0), some (30, false), false⟩),
(false, ⟨some 32, .call { callee := .value (.func 63), args := #[.tmp 31], argTypes := #[26] }, some (30, false), false⟩),
(true, oF 33 (pM 1) 30),
(false, oF 34 (.nilCheck (.tmp 33)) 30),
(false, oF 35 (pF 48 34 3) 30),
(true, oF 36 (pL 3 35) 30),
(false, oF 37 (pB .neq 3 32 36 3) 30),
(false, o 38 (pV 30 37))] false [(11, oF 27 (pL 4 26) 21, [0, 8]), (20, oF 36 (pL 3 35) 30, [8, 17])])
def k24_r3 : List COp := [o 4 (pO false)]
def k24_r4 : List COp := [o 39 (pM 5),
o 40 (pN 39 70),
o 41 (pW .i64 0)]
def k24_r5 : List COp := [o 42 (pB .lss 3 41 40 3)]
def k24_r6 : List COp := [o 43 (pM 41),
o 7 (pA 43)]
def k24_r7 : List COp := [o 45 (pM 0),
o 46 (pM 5),
o 47 (pM 7),
o 48 (pI 70 46 47),
o 49 (pL 9 48),
o 50 (pD 49 45 49 26 9),
o 44 (pM 50),
o 51 (pX 44 0),
o 52 (pX 44 1),
o 8 (pA 51),
o 9 (pA 52)]
def k24_r8 : List COp := [o 54 (pM 1),
o 55 (pM 6),
o 56 (pM 7),
o 57 (pI 70 55 56),
o 58 (pL 9 57),
o 59 (pD 55 54 58 28 9),
o 53 (pM 59),
o 60 (pX 53 0),
o 61 (pX 53 1),
o 10 (pA 60),
o 11 (pA 61)]
def k24_r9 : List COp := [oX 62 (pM 5),
oX 63 (pM 7),
oX 64 (pI 70 62 63),
oX 65 (pL 9 64),
oX 66 (pM 6),
o 67 (pM 7),
o 68 (pI 70 66 67),
o 69 (pL 9 68),
o 70 (pB .neq 9 65 69 9),
o 71 (pM 70),
⟨some 72, .move (.tmp 9), some (71, false), false⟩,
oF 73 (pM 11) 71,
oF 74 (pB .neq 33 72 73 33) 71,
o 75 (pV 71 74),
o 76 (pM 75),
⟨some 77, .move (.tmp 8), some (76, false), false⟩,
oF 78 (pM 10) 76,
oF 79 (pD 17 77 78 30 30) 76,
oF 80 (.unOp .not 4 (.tmp 79)) 76,
o 81 (pV 76 80)]
def k24_r10 : List COp := [o 4 (pO false)]
def k24_r11 : List COp := [o 82 (pK .add 3 41 .i64 1 3),
o 41 (pM 82)]
def k24_l0 : CC := (.seq (.region k24_r5) (.seq (.cond (.tmp 42) .skip (.exit 0)) (.seq (.block 1 (.seq (.region k24_r6) (.seq (.region k24_r7) (.seq (.region k24_r8) (.seq (.region k24_r9) (.cond (.tmp 81) (.seq (.region k24_r10) .ret) .skip)))))) (.region k24_r11))))
def k24_r12 : List COp := [o 4 (pO true)]
def k24 : CC := (.seq (.region k24_r0) (.seq (.region k24_r1) (.seq (.seq k24_r2 (.cond (.tmp 38) (.seq (.region k24_r3) .ret) .skip)) (.seq (.seq (.region k24_r4) (.block 0 (.loop k24_l0))) (.seq (.region k24_r12) .ret)))))
def k24_p := PLift.up <| aI (vE k24.eq_1) <| aI (oE k24_r0.eq_1) <| aI (oE k24_r1.eq_1) <| aI (vE k24_r2.eq_1) <| aI (oE k24_r3.eq_1) <| aI (oE k24_r4.eq_1) <| aI (oE k24_r5.eq_1) <| aI (oE k24_r6.eq_1) <| aI (oE k24_r7.eq_1) <| aI (oE k24_r8.eq_1) <| aI (oE k24_r9.eq_1) <| aI (oE k24_r10.eq_1) <| aI (oE k24_r11.eq_1) <| aI (vE k24_l0.eq_1) (oE k24_r12.eq_1)
theorem k24_a : type_of% k24_p.down := k24_p.down
theorem k24_is : FnIs Tryz.prog prims 24 83 [ResultVar.tmp 4] k24 := FnIs.of_fn Tryz.func24 (by kernel_rfl) rfl
def k25_r0 : List COp := [o 0 (pO false)]
def k25_r1 : List COp := [o 7 (.call { callee := .value (.func 7), args := #[.const (.int .i64 1000)], argTypes := #[3] }),
o 1 (pA 7)]
def k25_r2 : List COp := [o 9 (pM 1),
o 10 (.call { callee := .value (.func 31), args := #[.tmp 9, .const (.int .i64 2)], argTypes := #[26, 3] }),
o 8 (pM 10),
o 11 (pX 8 0),
o 12 (pX 8 1),
o 13 (pX 8 2),
o 14 (pX 8 3),
o 2 (pA 11),
o 3 (pA 12),
o 4 (pA 13),
o 5 (pA 14)]
def k25_r3 : List COp := [o 15 (pM 5),
o 16 (pK .neq 33 15 .i64 0 33),
o 17 (pM 16),
oF 18 (pM 2) 17,
oF 19 (.binOp .eql 54 (.tmp 18) (.const (.pointer .none)) 54) 17,
o 20 (pV 17 19),
o 21 (pM 20),
oF 22 (pM 3) 21,
oF 23 (pN 22 60) 21,
oF 24 (pK .neq 3 23 .i64 0 3) 21,
o 25 (pV 21 24),
o 26 (pM 25),
oF 27 (pM 4) 26,
oF 28 (pK .neq 3 27 .i64 1 3) 26,
o 29 (pV 26 28)]
def k25_r4 : List COp := [o 0 (pO false)]
def k25_r5 : CC := (.hreg [
(false, o 31 (pM 2)),
(true, o 32 (.buildSlice 30 1 #[(0, .const (.int .u8 97))])),
(true, o 33 (.convert 30 30 (.tmp 32))),
(false, o 34 (pD 27 31 33 54 30)),
(false, o 30 (pM 34)),
(false, o 35 (pX 30 0)),
(false, o 36 (pX 30 1)),
(false, o 6 (pA 35)),
(false, o 5 (pA 36))])
def k25_r6 : List COp := [o 37 (pM 6),
o 38 (pK .neq 3 37 .i64 1 3),
o 39 (pM 38),
oF 40 (pM 5) 39,
oF 41 (pK .neq 33 40 .i64 0 33) 39,
o 42 (pV 39 41)]
def k25_r7 : List COp := [o 0 (pO false)]
def k25_r8 : List COp := [o 44 (pM 1),
o 45 (.call { callee := .value (.func 31), args := #[.tmp 44, .const (.int .i64 2)], argTypes := #[26, 3] }),
o 43 (pM 45),
o 46 (pX 43 0),
o 47 (pX 43 1),
o 48 (pX 43 2),
o 49 (pX 43 3),
o 3 (pA 47),
o 4 (pA 48),
o 5 (pA 49)]
def k25_r9 : List COp := [o 50 (pM 5),
o 51 (pK .eql 33 50 .i64 0 33),
o 52 (pM 51),
oT 53 (pM 4) 52,
oT 54 (pK .eql 3 53 .i64 1 3) 52,
o 55 (pU 52 54),
o 56 (pM 55),
oT 57 (pM 3) 56,
oT 58 (pN 57 60) 56,
oT 59 (pK .eql 3 58 .i64 1 3) 56,
o 60 (pU 56 59),
o 61 (pM 60),
oT 62 (pM 3) 61,
oT 63 (.indexAddr 60 (.tmp 62) (.const (.int .i64 0))) 61,
oT 64 (pL 30 63) 61,
oT 65 (.convert 30 9 (.tmp 64)) 61,
oT 66 (.binOp .eql 9 (.tmp 65) (.const (.string { data := #[97] })) 9) 61,
o 67 (pU 61 66),
o 0 (pA 67)]
def k25 : CC := (.seq (.region k25_r0) (.seq (.region k25_r1) (.seq (.region k25_r2) (.seq (.seq (.region k25_r3) (.cond (.tmp 29) (.seq (.region k25_r4) .ret) .skip)) (.seq k25_r5 (.seq (.seq (.region k25_r6) (.cond (.tmp 42) (.seq (.region k25_r7) .ret) .skip)) (.seq (.region k25_r8) (.seq (.region k25_r9) .ret))))))))
def k26_r0 : List COp := [o 4 (pO false)]
def k26_r1 : List COp := [o 5 (pZ .i64 0)]
def k26_r2 : List COp := [o 10 (pM 0),
o 11 (pN 10 50),
o 12 (pW .i64 0)]
def k26_r3 : List COp := [o 13 (pB .lss 3 12 11 3)]
def k26_r4 : List COp := [o 14 (pI 50 10 12),
o 15 (pL 53 14),
o 7 (.alloc 53),
oS 53 7 15]
def k26_r5 : List COp := [o 16 (pM 5),
o 17 (pF 53 7 1),
o 18 (pL 30 17),
o 19 (pN 18 30),
o 20 (pB .add 3 16 19 3),
o 5 (pA 20)]
def k26_r6 : List COp := [o 21 (pM 5),
o 22 (pK .gtr 3 21 .i64 65536 3)]
def k26_r7 : List COp := [o 4 (pO true)]
def k26_r8 : List COp := [o 23 (pK .add 3 12 .i64 1 3),
o 12 (pM 23)]
def k26_l0 : CC := (.seq (.region k26_r3) (.seq (.cond (.tmp 13) .skip (.exit 0)) (.seq (.block 1 (.seq (.region k26_r4) (.seq (.region k26_r5) (.seq (.region k26_r6) (.cond (.tmp 22) (.seq (.region k26_r7) .ret) .skip))))) (.region k26_r8))))
def k26_r9 : List COp := [o 24 (pM 1),
o 25 (pN 24 51),
o 26 (pW .i64 0)]
def k26_r10 : List COp := [o 27 (pB .lss 3 26 25 3)]
def k26_r11 : List COp := [o 28 (pI 51 24 26),
o 29 (pL 56 28),
o 9 (.alloc 56),
oS 56 9 29]
def k26_r12 : List COp := [o 30 (pM 5),
o 31 (pF 56 9 3),
o 32 (pL 30 31),
o 33 (pN 32 30),
o 34 (pB .add 3 30 33 3),
o 5 (pA 34)]
def k26_r13 : List COp := [o 35 (pM 5),
o 36 (pK .gtr 3 35 .i64 262144 3)]
def k26_r14 : List COp := [o 4 (pO true)]
def k26_r15 : List COp := [o 37 (pK .add 3 26 .i64 1 3),
o 26 (pM 37)]
def k26_l1 : CC := (.seq (.region k26_r10) (.seq (.cond (.tmp 27) .skip (.exit 2)) (.seq (.block 3 (.seq (.region k26_r11) (.seq (.region k26_r12) (.seq (.region k26_r13) (.cond (.tmp 36) (.seq (.region k26_r14) .ret) .skip))))) (.region k26_r15))))
def k26_r16 : List COp := [o 38 (pM 1),
o 39 (pN 38 51),
o 40 (pK .gtr 3 39 .i64 512 3),
o 41 (pM 40),
oF 42 (pM 0) 41,
oF 43 (pN 42 50) 41,
oF 44 (pK .gtr 3 43 .i64 16 3) 41,
o 45 (pV 41 44),
o 4 (pA 45)]
def k26 : CC := (.seq (.region k26_r0) (.seq (.region k26_r1) (.seq (.seq (.region k26_r2) (.block 0 (.loop k26_l0))) (.seq (.seq (.region k26_r9) (.block 2 (.loop k26_l1))) (.seq (.region k26_r16) .ret)))))
def k27_r0 : List COp := [o 4 (pZ .i64 0),
o 5 (pZ .i64 0)]
def k27_r1 : List COp := [o 10 (pM 0),
o 11 (.binOp .eql 54 (.tmp 10) (.const (.pointer .none)) 54)]
def k27_r2 : List COp := [o 4 (pZ .i64 0),
o 5 (pZ .i64 2)]
def k27_r3 : List COp := [o 13 (pM 1),
o 14 (pC 64 13 30),
o 12 (pM 14),
o 15 (pX 12 0),
o 16 (pX 12 1),
o 6 (pA 15),
o 7 (pA 16)]
def k27_r4 : List COp := [o 17 (pM 7),
o 18 (pK .neq 33 17 .i64 0 33)]
def k27_r5 : List COp := [o 19 (pM 7),
o 4 (pZ .i64 0),
o 5 (pA 19)]
def k27_r6 : List COp := [o 20 (pM 0),
o 21 (.nilCheck (.tmp 20)),
o 22 (pF 93 21 4),
o 23 (pL 33 22),
o 24 (pK .neq 33 23 .i64 0 33)]
def k27_r7 : List COp := [oX 25 (pM 0),
oX 26 (.nilCheck (.tmp 25)),
oX 27 (pF 93 26 4),
oX 28 (pL 33 27),
o 4 (pZ .i64 0),
o 5 (pA 28)]
def k27_r8 : List COp := [o 29 (pM 0),
o 30 (.nilCheck (.tmp 29)),
o 31 (pF 93 30 2),
o 32 (pL 3 31),
o 8 (pA 32)]
def k27_r9 : List COp := [oX 33 (pM 0),
oX 34 (.nilCheck (.tmp 33)),
oX 35 (pF 93 34 3),
oX 36 (pL 3 35),
oX 37 (pM 8),
oX 38 (pB .sub 3 36 37 3),
o 39 (pM 0),
o 40 (.nilCheck (.tmp 39)),
o 41 (pF 93 40 1),
o 42 (pL 3 41),
o 43 (pB .geq 3 38 42 3)]
def k27_r10 : List COp := [o 44 (pM 0),
o 45 (.nilCheck (.tmp 44)),
o 46 (pF 93 45 3),
o 47 (pL 3 46),
o 8 (pA 47)]
def k27_r11 : List COp := [o 48 (pM 8),
o 49 (pC 65 48 3),
o 9 (pA 49)]
def k27_r12 : List COp := [o 50 (pM 9),
o 51 (.binOp .eql 9 (.tmp 50) (.const (.string { data := #[] })) 9)]
def k27_r13 : List COp := [o 4 (pZ .i64 0),
o 5 (pZ .i64 22)]
def k27_r14 : List COp := [o 52 (pM 0),
o 53 (.nilCheck (.tmp 52)),
o 54 (pF 93 53 0),
o 55 (pL 26 54),
o 56 (pM 9),
o 57 (pM 6),
o 58 (.call { callee := .value (.func 9), args := #[.tmp 55, .tmp 56, .tmp 57], argTypes := #[26, 9, 30] }),
o 7 (pA 58)]
def k27_r15 : List COp := [o 59 (pM 7),
o 60 (pK .eql 33 59 .i64 3 33),
o 61 (pM 60),
oF 62 (pM 7) 61,
oF 63 (pK .eql 33 62 .i64 22 33) 61,
o 64 (pV 61 63)]
def k27_r16 : List COp := [o 4 (pZ .i64 0),
o 5 (pZ .i64 22)]
def k27_r17 : List COp := [o 65 (pM 7),
o 66 (pK .eql 33 65 .i64 0 33)]
def k27_r18 : List COp := [o 67 (pM 0),
o 68 (.nilCheck (.tmp 67)),
o 69 (pF 93 68 0),
o 70 (pL 26 69),
o 71 (pM 9),
o 72 (pD 11 70 71 26 9),
o 7 (pA 72)]
def k27_r19 : List COp := [o 73 (pM 7),
o 74 (pK .neq 33 73 .i64 0 33)]
def k27_r20 : List COp := [o 75 (pM 0),
o 76 (pM 7),
o 77 (.nilCheck (.tmp 75)),
o 78 (pF 93 77 4),
oS 33 78 76]
def k27_r21 : List COp := [o 79 (pM 7),
o 4 (pZ .i64 0),
o 5 (pA 79)]
def k27_r22 : List COp := [o 80 (pM 0),
o 81 (pM 0),
o 82 (pM 8),
o 83 (pM 0),
o 84 (.nilCheck (.tmp 83)),
o 85 (pF 93 84 3),
o 86 (pL 3 85),
o 87 (pK .add 3 86 .i64 1 3),
o 88 (.nilCheck (.tmp 80)),
o 89 (pF 93 88 2),
oS 3 89 82,
o 90 (.nilCheck (.tmp 81)),
o 91 (pF 93 90 3),
oS 3 91 87]
def k27_r23 : List COp := [o 92 (pM 0),
o 93 (.nilCheck (.tmp 92)),
o 94 (pF 93 93 3),
o 95 (pL 3 94),
o 96 (pK .sub 3 95 .i64 1 3),
o 4 (pA 96),
o 5 (pZ .i64 0)]
def k27 : CC := (.seq (.region k27_r0) (.seq (.seq (.region k27_r1) (.cond (.tmp 11) (.seq (.region k27_r2) .ret) .skip)) (.seq (.region k27_r3) (.seq (.seq (.region k27_r4) (.cond (.tmp 18) (.seq (.region k27_r5) .ret) .skip)) (.seq (.seq (.region k27_r6) (.cond (.tmp 24) (.seq (.region k27_r7) .ret) .skip)) (.seq (.region k27_r8) (.seq (.seq (.region k27_r9) (.cond (.tmp 43) (.region k27_r10) .skip)) (.seq (.region k27_r11) (.seq (.seq (.region k27_r12) (.cond (.tmp 51) (.seq (.region k27_r13) .ret) .skip)) (.seq (.region k27_r14) (.seq (.seq (.region k27_r15) (.cond (.tmp 64) (.seq (.region k27_r16) .ret) .skip)) (.seq (.seq (.region k27_r17) (.cond (.tmp 66) (.region k27_r18) .skip)) (.seq (.seq (.region k27_r19) (.cond (.tmp 74) (.seq (.region k27_r20) (.seq (.region k27_r21) .ret)) .skip)) (.seq (.region k27_r22) (.seq (.region k27_r23) .ret)))))))))))))))
def k36_r0 : List COp := [o 2 (.assign (.const (.slice .none 0 0)))]
def k36_r1 : List COp := [o 3 (pM 0),
o 4 (.binOp .eql 26 (.tmp 3) (.const (.pointer .none)) 26),
o 5 (pM 4),
oF 6 (pM 0) 5,
oF 7 (.nilCheck (.tmp 6)) 5,
oF 8 (pF 74 7 2) 5,
oF 9 (pL 4 8) 5,
o 10 (pV 5 9)]
def k36_r2 : List COp := [o 2 (.assign (.const (.slice .none 0 0)))]
def k36_r3 : List COp := [o 11 (pM 0),
o 12 (.nilCheck (.tmp 11)),
o 13 (pF 74 12 0),
o 14 (pL 72 13),
o 15 (pC 78 14 72),
o 16 (pC 77 15 104),
o 2 (pA 16)]
def k36 : CC := (.seq (.region k36_r0) (.seq (.seq (.region k36_r1) (.cond (.tmp 10) (.seq (.region k36_r2) .ret) .skip)) (.seq (.region k36_r3) .ret)))
def k36_p := PLift.up <| aI (vE k36.eq_1) <| aI (oE k36_r0.eq_1) <| aI (oE k36_r1.eq_1) <| aI (oE k36_r2.eq_1) (oE k36_r3.eq_1)
theorem k36_a : type_of% k36_p.down := k36_p.down
theorem k36_is : FnIs Tryz.prog prims 36 17 [ResultVar.tmp 2] k36 := FnIs.of_fn Tryz.func36 (by kernel_rfl) rfl
def k37_r0 : List COp := [o 4 (pZ .i64 0)]
def k37_r1 : List COp := [o 6 (pM 0),
o 7 (.binOp .eql 26 (.tmp 6) (.const (.pointer .none)) 26),
o 5 (pA 7)]
def k37_r2 : List COp := [o 4 (pZ .i64 2)]
def k37_r3 : List COp := [o 9 (pM 1),
o 10 (pC 79 9 9),
o 11 (.unOp .not 4 (.tmp 10)),
o 8 (pA 11)]
def k37_r4 : List COp := [o 4 (pZ .i64 1)]
def k37_r5 : List COp := [o 13 (pM 0),
o 14 (.nilCheck (.tmp 13)),
o 15 (pF 74 14 2),
o 16 (pL 4 15),
o 12 (pA 16)]
def k37_r6 : List COp := [o 4 (pZ .i64 20)]
def k37_r7 : List COp := [o 4 (pZ .i64 0)]
def k37 : CC := (.seq (.region k37_r0) (.seq (.block 0 (.seq (.region k37_r1) (.cond (.tmp 5) (.seq (.region k37_r2) .ret) (.seq (.region k37_r3) (.cond (.tmp 8) (.seq (.region k37_r4) .ret) (.seq (.region k37_r5) (.cond (.tmp 12) (.seq (.region k37_r6) .ret) .skip))))))) (.seq (.region k37_r7) .ret)))
def k37_p := PLift.up <| aI (vE k37.eq_1) <| aI (oE k37_r0.eq_1) <| aI (oE k37_r1.eq_1) <| aI (oE k37_r2.eq_1) <| aI (oE k37_r3.eq_1) <| aI (oE k37_r4.eq_1) <| aI (oE k37_r5.eq_1) <| aI (oE k37_r6.eq_1) (oE k37_r7.eq_1)
theorem k37_a : type_of% k37_p.down := k37_p.down
theorem k37_is : FnIs Tryz.prog prims 37 17 [ResultVar.tmp 4] k37 := FnIs.of_fn Tryz.func37 (by kernel_rfl) rfl
def k39_r0 : List COp := [o 2 (pO false)]
def k39_r1 : List COp := [o 3 (pM 0),
o 4 (.nilCheck (.tmp 3)),
o 5 (pF 74 4 3),
o 6 (pL 3 5),
o 7 (pK .add 3 6 .i64 1 3),
o 8 (.nilCheck (.tmp 3)),
o 9 (pF 74 8 3),
oS 3 9 7]
def k39_r2 : List COp := [o 10 (pM 0),
o 11 (.nilCheck (.tmp 10)),
o 12 (pF 74 11 4),
o 13 (pL 3 12),
o 14 (pK .eql 3 13 .i64 0 3)]
def k39_r3 : List COp := [o 2 (pO false)]
def k39_r4 : List COp := [o 15 (pM 0),
o 16 (.nilCheck (.tmp 15)),
o 17 (pF 74 16 4),
o 18 (pL 3 17),
o 19 (pK .sub 3 18 .i64 1 3),
o 20 (.nilCheck (.tmp 15)),
o 21 (pF 74 20 4),
oS 3 21 19]
def k39_r5 : List COp := [o 22 (pM 0),
o 23 (.nilCheck (.tmp 22)),
o 24 (pF 74 23 4),
o 25 (pL 3 24),
o 26 (pK .eql 3 25 .i64 0 3),
o 2 (pA 26)]
def k39 : CC := (.seq (.region k39_r0) (.seq (.region k39_r1) (.seq (.seq (.region k39_r2) (.cond (.tmp 14) (.seq (.region k39_r3) .ret) .skip)) (.seq (.region k39_r4) (.seq (.region k39_r5) .ret)))))
def k39_p := PLift.up <| aI (vE k39.eq_1) <| aI (oE k39_r0.eq_1) <| aI (oE k39_r1.eq_1) <| aI (oE k39_r2.eq_1) <| aI (oE k39_r3.eq_1) <| aI (oE k39_r4.eq_1) (oE k39_r5.eq_1)
theorem k39_a : type_of% k39_p.down := k39_p.down
theorem k39_is : FnIs Tryz.prog prims 39 27 [ResultVar.tmp 2] k39 := FnIs.of_fn Tryz.func39 (by kernel_rfl) rfl
def k40_r0 : List COp := [o 2 (pZ .i64 0)]
def k40_r1 : List COp := [o 3 (pM 0),
o 4 (pM 0),
o 5 (.nilCheck (.tmp 4)),
o 6 (pF 74 5 5),
o 7 (pL 3 6),
o 8 (pD 20 3 7 26 3)]
def k40_r2 : List COp := [o 2 (pZ .i64 20)]
def k40 : CC := (.seq (.region k40_r0) (.seq (.region k40_r1) (.seq (.region k40_r2) .ret)))
def k40_p := PLift.up <| aI (vE k40.eq_1) <| aI (oE k40_r0.eq_1) <| aI (oE k40_r1.eq_1) (oE k40_r2.eq_1)
theorem k40_a : type_of% k40_p.down := k40_p.down
theorem k40_is : FnIs Tryz.prog prims 40 9 [ResultVar.tmp 2] k40 := FnIs.of_fn Tryz.func40 (by kernel_rfl) rfl
def k41_r0 : List COp := [o 4 (pZ .i64 0)]
def k41_r1 : List COp := [o 5 (pM 1),
o 6 (pN 5 9),
o 7 (pK .lss 3 6 .i64 1 3),
o 8 (pM 7),
oF 9 (pM 1) 8,
oF 10 (pN 9 9) 8,
oF 11 (pK .gtr 3 10 .i64 16 3) 8,
o 12 (pV 8 11)]
def k41_r2 : List COp := [o 4 (pZ .i64 1)]
def k41_r3 : List COp := [o 13 (pM 0),
o 14 (.nilCheck (.tmp 13)),
o 15 (pF 48 14 2),
o 16 (pL 4 15),
o 17 (.unOp .not 4 (.tmp 16))]
def k41_r4 : List COp := [o 4 (pZ .i64 20)]
def k41_r5 : List COp := [o 4 (pZ .i64 0)]
def k41 : CC := (.seq (.region k41_r0) (.seq (.seq (.region k41_r1) (.cond (.tmp 12) (.seq (.region k41_r2) .ret) .skip)) (.seq (.seq (.region k41_r3) (.cond (.tmp 17) (.seq (.region k41_r4) .ret) .skip)) (.seq (.region k41_r5) .ret))))
def k41_p := PLift.up <| aI (vE k41.eq_1) <| aI (oE k41_r0.eq_1) <| aI (oE k41_r1.eq_1) <| aI (oE k41_r2.eq_1) <| aI (oE k41_r3.eq_1) <| aI (oE k41_r4.eq_1) (oE k41_r5.eq_1)
theorem k41_a : type_of% k41_p.down := k41_p.down
theorem k41_is : FnIs Tryz.prog prims 41 18 [ResultVar.tmp 4] k41 := FnIs.of_fn Tryz.func41 (by kernel_rfl) rfl
def k42_r0 : List COp := [o 4 (pZ .i64 0)]
def k42_r1 : List COp := [o 7 (pM 0),
o 8 (.nilCheck (.tmp 7)),
o 9 (pF 48 8 0),
o 10 (pL 46 9),
o 11 (pN 10 46),
o 12 (pW .i64 0)]
def k42_r2 : List COp := [o 13 (pB .lss 3 12 11 3)]
def k42_r3 : List COp := [o 14 (pM 12),
o 15 (pI 46 10 12),
o 16 (pL 81 15),
o 6 (.alloc 81),
o 5 (pA 14),
oS 81 6 16]
def k42_r4 : List COp := [o 17 (pF 81 6 0),
o 18 (pL 9 17),
o 19 (pM 1),
o 20 (pB .eql 9 18 19 9)]
def k42_r5 : List COp := [o 21 (pM 5),
o 4 (pA 21)]
def k42_r6 : List COp := [o 22 (pK .add 3 12 .i64 1 3),
o 12 (pM 22)]
def k42_l0 : CC := (.seq (.region k42_r2) (.seq (.cond (.tmp 13) .skip (.exit 0)) (.seq (.block 1 (.seq (.region k42_r3) (.seq (.region k42_r4) (.cond (.tmp 20) (.seq (.region k42_r5) .ret) .skip)))) (.region k42_r6))))
def k42_r7 : List COp := [o 4 (pZ .i64 (-1))]
def k42 : CC := (.seq (.region k42_r0) (.seq (.seq (.region k42_r1) (.block 0 (.loop k42_l0))) (.seq (.region k42_r7) .ret)))
def k42_p := PLift.up <| aI (vE k42.eq_1) <| aI (oE k42_r0.eq_1) <| aI (oE k42_r1.eq_1) <| aI (oE k42_r2.eq_1) <| aI (oE k42_r3.eq_1) <| aI (oE k42_r4.eq_1) <| aI (oE k42_r5.eq_1) <| aI (oE k42_r6.eq_1) <| aI (vE k42_l0.eq_1) (oE k42_r7.eq_1)
theorem k42_a : type_of% k42_p.down := k42_p.down
theorem k42_is : FnIs Tryz.prog prims 42 23 [ResultVar.tmp 4] k42 := FnIs.of_fn Tryz.func42 (by kernel_rfl) rfl
def k43_r0 : List COp := [o 2 (pZ .i64 0)]
def k43_r1 : List COp := [o 3 (pZ .i64 0)]
def k43_r2 : List COp := [o 6 (pM 0),
o 7 (.nilCheck (.tmp 6)),
o 8 (pF 48 7 0),
o 9 (pL 46 8),
o 10 (pN 9 46),
o 11 (pW .i64 0)]
def k43_r3 : List COp := [o 12 (pB .lss 3 11 10 3)]
def k43_r4 : List COp := [o 13 (pI 46 9 11),
o 14 (pL 81 13),
o 5 (.alloc 81),
oS 81 5 14]
def k43_r5 : List COp := [o 15 (pM 3),
o 16 (pF 81 5 1),
o 17 (pL 30 16),
o 18 (pN 17 30),
o 19 (pB .add 3 15 18 3),
o 20 (pF 81 5 2),
o 21 (pL 30 20),
o 22 (pN 21 30),
o 23 (pB .add 3 19 22 3),
o 3 (pA 23)]
def k43_r6 : List COp := [o 24 (pK .add 3 11 .i64 1 3),
o 11 (pM 24)]
def k43_l0 : CC := (.seq (.region k43_r3) (.seq (.cond (.tmp 12) .skip (.exit 0)) (.seq (.block 1 (.seq (.region k43_r4) (.region k43_r5))) (.region k43_r6))))
def k43_r7 : List COp := [o 25 (pM 3),
o 2 (pA 25)]
def k43 : CC := (.seq (.region k43_r0) (.seq (.region k43_r1) (.seq (.seq (.region k43_r2) (.block 0 (.loop k43_l0))) (.seq (.region k43_r7) .ret))))
def k43_p := PLift.up <| aI (vE k43.eq_1) <| aI (oE k43_r0.eq_1) <| aI (oE k43_r1.eq_1) <| aI (oE k43_r2.eq_1) <| aI (oE k43_r3.eq_1) <| aI (oE k43_r4.eq_1) <| aI (oE k43_r5.eq_1) <| aI (oE k43_r6.eq_1) <| aI (vE k43_l0.eq_1) (oE k43_r7.eq_1)
theorem k43_a : type_of% k43_p.down := k43_p.down
theorem k43_is : FnIs Tryz.prog prims 43 26 [ResultVar.tmp 2] k43 := FnIs.of_fn Tryz.func43 (by kernel_rfl) rfl
def k44_r0 : List COp := [o 3 (.box 81 (.tmp 1))]
def k44_r1 : List COp := [o 4 (.assign (.const (.slice .none 0 0)))]
def k44_r2 : List COp := [o 5 (pO false)]
def k44_r3 : List COp := [o 8 (pM 0),
o 9 (.nilCheck (.tmp 8)),
o 10 (pF 48 9 0),
o 11 (pL 46 10),
o 12 (pN 11 46),
o 13 (pW .i64 0)]
def k44_r4 : List COp := [o 14 (pB .lss 3 13 12 3)]
def k44_r5 : List COp := [o 15 (pI 46 11 13),
o 16 (pL 81 15),
o 7 (.alloc 81),
oS 81 7 16]
def k44_r6 : List COp := [o 17 (pM 5),
o 18 (.unOp .not 4 (.tmp 17)),
o 19 (pM 18),
oT 20 (pF 81 3 0) 19,
oT 21 (pL 9 20) 19,
oT 22 (pF 81 7 0) 19,
oT 23 (pL 9 22) 19,
oT 24 (pB .lss 9 21 23 9) 19,
o 25 (pU 19 24)]
def k44_r7 : CC := (.hreg [
(false, o 26 (pM 4)),
(false, o 27 (pL 81 3)),
(true, o 28 (.buildSlice 46 1 #[(0, .tmp 27)])),
(true, o 29 (pQ 26 28 46 46)),
(false, o 4 (pA 29))])
def k44_r8 : List COp := [o 5 (pO true)]
def k44_r9 : List COp := [o 30 (pF 81 7 0),
o 31 (pL 9 30),
o 32 (pF 81 3 0),
o 33 (pL 9 32),
o 34 (pB .neq 9 31 33 9)]
def k44_r10 : CC := (.hreg [
(false, o 35 (pM 4)),
(false, o 36 (pL 81 7)),
(true, o 37 (.buildSlice 46 1 #[(0, .tmp 36)])),
(true, o 38 (pQ 35 37 46 46)),
(false, o 4 (pA 38))])
def k44_r11 : List COp := [o 39 (pK .add 3 13 .i64 1 3),
o 13 (pM 39)]
def k44_l0 : CC := (.seq (.region k44_r4) (.seq (.cond (.tmp 14) .skip (.exit 0)) (.seq (.block 1 (.seq (.region k44_r5) (.seq (.seq (.region k44_r6) (.cond (.tmp 25) (.seq k44_r7 (.region k44_r8)) .skip)) (.seq (.region k44_r9) (.cond (.tmp 34) k44_r10 .skip))))) (.region k44_r11))))
def k44_r12 : List COp := [o 40 (pM 5),
o 41 (.unOp .not 4 (.tmp 40))]
def k44_r13 : CC := (.hreg [
(false, o 42 (pM 4)),
(false, o 43 (pL 81 3)),
(true, o 44 (.buildSlice 46 1 #[(0, .tmp 43)])),
(true, o 45 (pQ 42 44 46 46)),
(false, o 4 (pA 45))])
def k44_r14 : List COp := [o 46 (pM 0),
o 47 (pM 4),
o 48 (.nilCheck (.tmp 46)),
o 49 (pF 48 48 0),
oS 46 49 47]
def k44 : CC := (.seq (.region k44_r0) (.seq (.region k44_r1) (.seq (.region k44_r2) (.seq (.seq (.region k44_r3) (.block 0 (.loop k44_l0))) (.seq (.seq (.region k44_r12) (.cond (.tmp 41) k44_r13 .skip)) (.region k44_r14))))))
def k44_p := PLift.up <| aI (vE k44.eq_1) <| aI (oE k44_r0.eq_1) <| aI (oE k44_r1.eq_1) <| aI (oE k44_r2.eq_1) <| aI (oE k44_r3.eq_1) <| aI (oE k44_r4.eq_1) <| aI (oE k44_r5.eq_1) <| aI (oE k44_r6.eq_1) <| aI (vE k44_r7.eq_1) <| aI (oE k44_r8.eq_1) <| aI (oE k44_r9.eq_1) <| aI (vE k44_r10.eq_1) <| aI (oE k44_r11.eq_1) <| aI (vE k44_l0.eq_1) <| aI (oE k44_r12.eq_1) <| aI (vE k44_r13.eq_1) (oE k44_r14.eq_1)
theorem k44_a : type_of% k44_p.down := k44_p.down
theorem k44_is : FnIs Tryz.prog prims 44 50 [] k44 := FnIs.of_fn Tryz.func44 (by kernel_rfl) rfl
def k45_r0 : List COp := [o 2 (pO false)]
def k45_r1 : List COp := [o 3 (pM 0),
o 4 (.nilCheck (.tmp 3)),
o 5 (pF 48 4 3),
o 6 (pL 3 5),
o 7 (pK .add 3 6 .i64 1 3),
o 8 (.nilCheck (.tmp 3)),
o 9 (pF 48 8 3),
oS 3 9 7]
def k45_r2 : List COp := [o 10 (pM 0),
o 11 (.nilCheck (.tmp 10)),
o 12 (pF 48 11 4),
o 13 (pL 3 12),
o 14 (pK .eql 3 13 .i64 0 3)]
def k45_r3 : List COp := [o 2 (pO false)]
def k45_r4 : List COp := [o 15 (pM 0),
o 16 (.nilCheck (.tmp 15)),
o 17 (pF 48 16 4),
o 18 (pL 3 17),
o 19 (pK .sub 3 18 .i64 1 3),
o 20 (.nilCheck (.tmp 15)),
o 21 (pF 48 20 4),
oS 3 21 19]
def k45_r5 : List COp := [o 22 (pM 0),
o 23 (.nilCheck (.tmp 22)),
o 24 (pF 48 23 4),
o 25 (pL 3 24),
o 26 (pK .eql 3 25 .i64 0 3),
o 2 (pA 26)]
def k45 : CC := (.seq (.region k45_r0) (.seq (.region k45_r1) (.seq (.seq (.region k45_r2) (.cond (.tmp 14) (.seq (.region k45_r3) .ret) .skip)) (.seq (.region k45_r4) (.seq (.region k45_r5) .ret)))))
def k45_p := PLift.up <| aI (vE k45.eq_1) <| aI (oE k45_r0.eq_1) <| aI (oE k45_r1.eq_1) <| aI (oE k45_r2.eq_1) <| aI (oE k45_r3.eq_1) <| aI (oE k45_r4.eq_1) (oE k45_r5.eq_1)
theorem k45_a : type_of% k45_p.down := k45_p.down
theorem k45_is : FnIs Tryz.prog prims 45 27 [ResultVar.tmp 2] k45 := FnIs.of_fn Tryz.func45 (by kernel_rfl) rfl
def k46_r0 : List COp := [o 4 (.assign (.const (.pointer .none))),
o 5 (pZ .i64 0)]
def k46_r1 : List COp := [o 8 (pM 0),
o 9 (pM 1),
o 10 (pD 37 8 9 26 9),
o 6 (pA 10)]
def k46_r2 : List COp := [o 11 (pM 6),
o 12 (pK .neq 33 11 .i64 0 33)]
def k46_r3 : List COp := [o 13 (pM 6),
o 4 (.assign (.const (.pointer .none))),
o 5 (pA 13)]
def k46_r4 : List COp := [o 14 (pM 0),
o 15 (.nilCheck (.tmp 14)),
o 16 (pF 74 15 0),
o 17 (pL 72 16),
o 18 (pM 1),
o 19 (.lookup 72 (.tmp 17) (.tmp 18) false),
o 7 (pA 19)]
def k46_r5 : List COp := [o 20 (pM 7),
o 21 (.binOp .eql 75 (.tmp 20) (.const (.pointer .none)) 75)]
def k46_r6 : List COp := [o 4 (.assign (.const (.pointer .none))),
o 5 (pZ .i64 21)]
def k46_r7 : List COp := [o 22 (pM 7),
o 4 (pA 22),
o 5 (pZ .i64 0)]
def k46 : CC := (.seq (.region k46_r0) (.seq (.seq (.region k46_r1) (.seq (.region k46_r2) (.cond (.tmp 12) (.seq (.region k46_r3) .ret) .skip))) (.seq (.region k46_r4) (.seq (.seq (.region k46_r5) (.cond (.tmp 21) (.seq (.region k46_r6) .ret) .skip)) (.seq (.region k46_r7) .ret)))))
def k46_p := PLift.up <| aI (vE k46.eq_1) <| aI (oE k46_r0.eq_1) <| aI (oE k46_r1.eq_1) <| aI (oE k46_r2.eq_1) <| aI (oE k46_r3.eq_1) <| aI (oE k46_r4.eq_1) <| aI (oE k46_r5.eq_1) <| aI (oE k46_r6.eq_1) (oE k46_r7.eq_1)
theorem k46_a : type_of% k46_p.down := k46_p.down
theorem k46_is : FnIs Tryz.prog prims 46 23 [ResultVar.tmp 4, ResultVar.tmp 5] k46 := FnIs.of_fn Tryz.func46 (by kernel_rfl) rfl
def k47_r0 : List COp := [o 2 (.assign (.const (.string { data := #[] })))]
def k47_r1 : List COp := [o 4 (pM 0),
o 5 (pK .lss 3 4 .i64 0 3),
o 6 (pM 5),
oF 7 (pM 0) 6,
oF 8 (pK .gtr 3 7 .i64 999999999 3) 6,
o 9 (pV 6 8)]
def k47_r2 : List COp := [o 2 (.assign (.const (.string { data := #[] })))]
def k47_r3 : List COp := [o 10 (pM 0),
o 11 (pC 80 10 3),
o 3 (pA 11)]
def k47_r4 : List COp := [o 12 (pM 3),
o 13 (pN 12 9),
o 14 (pK .lss 3 13 .i64 9 3)]
def k47_r5 : List COp := [o 15 (pM 3),
o 16 (.binOp .add 9 (.const (.string { data := #[48] })) (.tmp 15) 9),
o 3 (pA 16)]
def k47_l0 : CC := (.seq (.seq (.region k47_r4) (.cond (.tmp 14) .skip (.exit 0))) (.block 1 (.region k47_r5)))
def k47_r6 : List COp := [o 17 (pM 3),
o 18 (.binOp .add 9 (.const (.string { data := #[115] })) (.tmp 17) 9),
o 2 (pA 18)]
def k47 : CC := (.seq (.region k47_r0) (.seq (.seq (.region k47_r1) (.cond (.tmp 9) (.seq (.region k47_r2) .ret) .skip)) (.seq (.region k47_r3) (.seq (.block 0 (.loop k47_l0)) (.seq (.region k47_r6) .ret)))))
def k47_p := PLift.up <| aI (vE k47.eq_1) <| aI (oE k47_r0.eq_1) <| aI (oE k47_r1.eq_1) <| aI (oE k47_r2.eq_1) <| aI (oE k47_r3.eq_1) <| aI (oE k47_r4.eq_1) <| aI (oE k47_r5.eq_1) <| aI (vE k47_l0.eq_1) (oE k47_r6.eq_1)
theorem k47_a : type_of% k47_p.down := k47_p.down
theorem k47_is : FnIs Tryz.prog prims 47 19 [ResultVar.tmp 2] k47 := FnIs.of_fn Tryz.func47 (by kernel_rfl) rfl
def k48_r0 : List COp := [o 2 (pO false)]
def k48_r1 : List COp := [o 3 (pM 0),
o 4 (.binOp .neq 26 (.tmp 3) (.const (.pointer .none)) 26),
o 5 (pM 4),
oT 6 (pM 0) 5,
oT 7 (.nilCheck (.tmp 6)) 5,
oT 8 (pF 74 7 2) 5,
oT 9 (pL 4 8) 5,
o 10 (pU 5 9),
o 2 (pA 10)]
def k48 : CC := (.seq (.region k48_r0) (.seq (.region k48_r1) .ret))
def k48_p := PLift.up <| aI (vE k48.eq_1) <| aI (oE k48_r0.eq_1) (oE k48_r1.eq_1)
theorem k48_a : type_of% k48_p.down := k48_p.down
theorem k48_is : FnIs Tryz.prog prims 48 11 [ResultVar.tmp 2] k48 := FnIs.of_fn Tryz.func48 (by kernel_rfl) rfl
def k49_r0 : List COp := [o 4 (.assign (.const (.slice .none 0 0))),
o 5 (pZ .i64 0)]
def k49_r1 : List COp := [o 9 (pM 0),
o 10 (pM 1),
o 11 (pD 46 9 10 26 9),
o 8 (pM 11),
o 12 (pX 8 0),
o 13 (pX 8 1),
o 6 (pA 12),
o 7 (pA 13)]
def k49_r2 : List COp := [o 14 (pM 7),
o 15 (pK .neq 33 14 .i64 0 33)]
def k49_r3 : List COp := [o 16 (pM 7),
o 4 (.assign (.const (.slice .none 0 0))),
o 5 (pA 16)]
def k49_r4 : List COp := [oX 17 (pM 6),
oX 18 (.nilCheck (.tmp 17)),
oX 19 (pF 77 18 0),
oX 20 (pL 30 19),
o 21 (pM 6),
o 22 (.nilCheck (.tmp 21)),
o 23 (pF 77 22 1),
o 24 (pL 30 23),
o 25 (.buildSlice 60 2 #[(0, .tmp 20), (1, .tmp 24)]),
o 26 (pC 81 25 60),
o 4 (pA 26),
o 5 (pZ .i64 0)]
def k49 : CC := (.seq (.region k49_r0) (.seq (.region k49_r1) (.seq (.seq (.region k49_r2) (.cond (.tmp 15) (.seq (.region k49_r3) .ret) .skip)) (.seq (.region k49_r4) .ret))))
def k49_p := PLift.up <| aI (vE k49.eq_1) <| aI (oE k49_r0.eq_1) <| aI (oE k49_r1.eq_1) <| aI (oE k49_r2.eq_1) <| aI (oE k49_r3.eq_1) (oE k49_r4.eq_1)
theorem k49_a : type_of% k49_p.down := k49_p.down
theorem k49_is : FnIs Tryz.prog prims 49 27 [ResultVar.tmp 4, ResultVar.tmp 5] k49 := FnIs.of_fn Tryz.func49 (by kernel_rfl) rfl
def k50_r0 : List COp := [o 4 (pZ .i64 0)]
def k50_r1 : List COp := [o 8 (pM 0),
o 9 (pM 1),
o 10 (pD 46 8 9 26 9),
o 7 (pM 10),
o 11 (pX 7 0),
o 12 (pX 7 1),
o 5 (pA 11),
o 6 (pA 12)]
def k50_r2 : List COp := [o 13 (pM 6),
o 14 (pK .neq 33 13 .i64 0 33)]
def k50_r3 : List COp := [o 15 (pM 6),
o 4 (pA 15)]
def k50_r4 : List COp := [o 16 (pM 0),
o 17 (pC 39 16 26)]
def k50_r5 : List COp := [o 18 (pM 0),
o 19 (pC 40 18 26),
o 4 (pA 19)]
def k50_r6 : CC := (.hreg [
(false, o 20 (pM 0)),
(false, o 21 (.nilCheck (.tmp 20))),
(false, o 22 (pF 74 21 0)),
(false, o 23 (pL 72 22)),
(false, o 24 (pM 1)),
(true, ⟨none, .call { callee := .builtin .delete, args := #[.tmp 23, .tmp 24], argTypes := #[72, 9] }, none, true⟩)])
def k50_r7 : List COp := [o 4 (pZ .i64 0)]
def k50 : CC := (.seq (.region k50_r0) (.seq (.seq (.region k50_r1) (.seq (.region k50_r2) (.cond (.tmp 14) (.seq (.region k50_r3) .ret) .skip))) (.seq (.seq (.region k50_r4) (.cond (.tmp 17) (.seq (.region k50_r5) .ret) .skip)) (.seq k50_r6 (.seq (.region k50_r7) .ret)))))
def k50_p := PLift.up <| aI (vE k50.eq_1) <| aI (oE k50_r0.eq_1) <| aI (oE k50_r1.eq_1) <| aI (oE k50_r2.eq_1) <| aI (oE k50_r3.eq_1) <| aI (oE k50_r4.eq_1) <| aI (oE k50_r5.eq_1) <| aI (vE k50_r6.eq_1) (oE k50_r7.eq_1)
theorem k50_a : type_of% k50_p.down := k50_p.down
theorem k50_is : FnIs Tryz.prog prims 50 25 [ResultVar.tmp 4] k50 := FnIs.of_fn Tryz.func50 (by kernel_rfl) rfl
def k51_r0 : List COp := [o 4 (.assign (.const (.slice .none 0 0)))]
def k51_r1 : List COp := [o 5 (.assign (.const (.slice .none 0 0)))]
def k51_r2 : List COp := [o 9 (pM 0),
o 10 (.convert 3 108 (.tmp 9)),
o 11 (pM 1),
o 12 (pN 11 30),
o 13 (.convert 3 108 (.tmp 12)),
o 14 (.build 109 #[(0, .tmp 10), (1, .tmp 13)]),
o 15 (pW .i64 0)]
def k51_r3 : List COp := [o 16 (pK .lss 3 15 .i64 2 3)]
def k51_r4 : List COp := [o 17 (.index 109 (.tmp 14) (.tmp 15)),
o 7 (pA 17)]
def k51_r5 : List COp := [o 18 (pM 5),
o 19 (pM 7),
o 20 (.convert 108 5 (.tmp 19)),
o 21 (pM 7),
o 22 (pK .shr 108 21 .u64 8 110),
o 23 (.convert 108 5 (.tmp 22)),
o 24 (pM 7),
o 25 (pK .shr 108 24 .u64 16 110),
o 26 (.convert 108 5 (.tmp 25)),
o 27 (pM 7),
o 28 (pK .shr 108 27 .u64 24 110),
o 29 (.convert 108 5 (.tmp 28)),
o 30 (.buildSlice 30 4 #[(0, .tmp 20), (1, .tmp 23), (2, .tmp 26), (3, .tmp 29)]),
o 31 (pQ 18 30 30 30),
o 5 (pA 31)]
def k51_r6 : List COp := [o 32 (pK .add 3 15 .i64 1 3),
o 15 (pM 32)]
def k51_l0 : CC := (.seq (.region k51_r3) (.seq (.cond (.tmp 16) .skip (.exit 0)) (.seq (.block 1 (.seq (.region k51_r4) (.region k51_r5))) (.region k51_r6))))
def k51_r7 : List COp := [o 33 (pM 5),
o 34 (pM 5),
o 35 (pN 34 30),
o 36 (pM 5),
o 37 (pN 36 30),
o 38 (.slice 30 (.tmp 33) .none (some (.tmp 35)) (some (.tmp 37))),
o 39 (pM 1),
o 40 (pQ 38 39 30 30),
o 41 (pC 82 40 30),
o 8 (pA 41)]
def k51_r8 : List COp := [o 42 (pM 5),
o 43 (pM 8),
o 44 (.convert 108 5 (.tmp 43)),
o 45 (pM 8),
o 46 (pK .shr 108 45 .u64 8 110),
o 47 (.convert 108 5 (.tmp 46)),
o 48 (pM 8),
o 49 (pK .shr 108 48 .u64 16 110),
o 50 (.convert 108 5 (.tmp 49)),
o 51 (pM 8),
o 52 (pK .shr 108 51 .u64 24 110),
o 53 (.convert 108 5 (.tmp 52)),
o 54 (.buildSlice 30 4 #[(0, .tmp 44), (1, .tmp 47), (2, .tmp 50), (3, .tmp 53)]),
o 55 (pQ 42 54 30 30),
o 5 (pA 55)]
def k51_r9 : List COp := [o 56 (pM 5),
o 57 (pM 1),
o 58 (pQ 56 57 30 30),
o 4 (pA 58)]
def k51 : CC := (.seq (.region k51_r0) (.seq (.region k51_r1) (.seq (.seq (.region k51_r2) (.block 0 (.loop k51_l0))) (.seq (.region k51_r7) (.seq (.region k51_r8) (.seq (.region k51_r9) .ret))))))
def k51_p := PLift.up <| aI (vE k51.eq_1) <| aI (oE k51_r0.eq_1) <| aI (oE k51_r1.eq_1) <| aI (oE k51_r2.eq_1) <| aI (oE k51_r3.eq_1) <| aI (oE k51_r4.eq_1) <| aI (oE k51_r5.eq_1) <| aI (oE k51_r6.eq_1) <| aI (vE k51_l0.eq_1) <| aI (oE k51_r7.eq_1) <| aI (oE k51_r8.eq_1) (oE k51_r9.eq_1)
theorem k51_a : type_of% k51_p.down := k51_p.down
theorem k51_is : FnIs Tryz.prog prims 51 59 [ResultVar.tmp 4] k51 := FnIs.of_fn Tryz.func51 (by kernel_rfl) rfl
def k52_r0 : List COp := [o 6 (pZ .i64 0)]
def k52_r1 : List COp := [o 10 (pM 0),
o 11 (pM 1),
o 12 (pD 46 10 11 26 9),
o 9 (pM 12),
o 13 (pX 9 0),
o 14 (pX 9 1),
o 7 (pA 13),
o 8 (pA 14)]
def k52_r2 : List COp := [o 15 (pM 8),
o 16 (pK .eql 33 15 .i64 2 33),
o 17 (pM 16),
oF 18 (pM 8) 17,
oF 19 (pK .eql 33 18 .i64 1 33) 17,
o 20 (pV 17 19)]
def k52_r3 : List COp := [o 21 (pM 8),
o 6 (pA 21)]
def k52_r4 : List COp := [o 23 (pM 2),
o 24 (pC 79 23 9),
o 25 (.unOp .not 4 (.tmp 24)),
o 22 (pA 25)]
def k52_r5 : List COp := [o 6 (pZ .i64 1)]
def k52_r6 : List COp := [o 27 (pM 8),
o 28 (pK .neq 33 27 .i64 0 33),
o 26 (pA 28)]
def k52_r7 : List COp := [o 29 (pM 8),
o 6 (pA 29)]
def k52_r8 : List COp := [o 30 (pM 0),
o 31 (pC 39 30 26)]
def k52_r9 : List COp := [o 32 (pM 0),
o 33 (pC 40 32 26),
o 6 (pA 33)]
def k52_r10 : CC := (.hreg [
(false, o 34 (pM 0)),
(false, o 35 (.nilCheck (.tmp 34))),
(false, o 36 (pF 74 35 0)),
(false, o 37 (pL 72 36)),
(false, o 38 (pM 1)),
(true, ⟨none, .call { callee := .builtin .delete, args := #[.tmp 37, .tmp 38], argTypes := #[72, 9] }, none, true⟩)])
def k52_r11 : List COp := [o 39 (pM 0),
o 40 (.nilCheck (.tmp 39)),
o 41 (pF 74 40 0),
o 42 (pL 72 41),
o 43 (pM 2),
o 44 (pM 7),
⟨none, .mapUpdate 72 (.tmp 42) (.tmp 43) (.tmp 44), none, true⟩]
def k52_r12 : List COp := [o 6 (pZ .i64 0)]
def k52 : CC := (.seq (.region k52_r0) (.seq (.region k52_r1) (.seq (.seq (.region k52_r2) (.cond (.tmp 20) (.seq (.region k52_r3) .ret) .skip)) (.seq (.block 0 (.seq (.region k52_r4) (.cond (.tmp 22) (.seq (.region k52_r5) .ret) (.seq (.region k52_r6) (.cond (.tmp 26) (.seq (.region k52_r7) .ret) .skip))))) (.seq (.seq (.region k52_r8) (.cond (.tmp 31) (.seq (.region k52_r9) .ret) .skip)) (.seq k52_r10 (.seq (.region k52_r11) (.seq (.region k52_r12) .ret))))))))
def k52_p := PLift.up <| aI (vE k52.eq_1) <| aI (oE k52_r0.eq_1) <| aI (oE k52_r1.eq_1) <| aI (oE k52_r2.eq_1) <| aI (oE k52_r3.eq_1) <| aI (oE k52_r4.eq_1) <| aI (oE k52_r5.eq_1) <| aI (oE k52_r6.eq_1) <| aI (oE k52_r7.eq_1) <| aI (oE k52_r8.eq_1) <| aI (oE k52_r9.eq_1) <| aI (vE k52_r10.eq_1) <| aI (oE k52_r11.eq_1) (oE k52_r12.eq_1)
theorem k52_a : type_of% k52_p.down := k52_p.down
theorem k52_is : FnIs Tryz.prog prims 52 45 [ResultVar.tmp 6] k52 := FnIs.of_fn Tryz.func52 (by kernel_rfl) rfl
def k53_r0 : List COp := [o 2 (pZ .i64 0)]
def k53_r1 : List COp := [o 5 (pM 0),
o 6 (pN 5 9),
o 7 (pK .neq 3 6 .i64 10 3),
o 8 (pM 7),
oF 9 (pM 0) 8,
oF 10 (.index 9 (.tmp 9) (.const (.int .i64 0))) 8,
oF 11 (pK .neq 5 10 .u8 115 5) 8,
o 12 (pV 8 11)]
def k53_r2 : List COp := [o 2 (pZ .i64 (-1))]
def k53_r3 : List COp := [o 14 (pM 0),
o 15 (.slice 9 (.tmp 14) (some (.const (.int .i64 1))) .none .none),
o 16 (pC 83 15 9),
o 13 (pM 16),
o 17 (pX 13 0),
o 18 (pX 13 1),
o 3 (pA 17),
o 4 (pA 18)]
def k53_r4 : List COp := [o 19 (pM 4),
o 20 (.binOp .neq 113 (.tmp 19) (.const .nilIface) 113),
o 21 (pM 20),
oF 22 (pM 3) 21,
oF 23 (pC 47 22 3) 21,
oF 24 (pM 0) 21,
oF 25 (pB .neq 9 23 24 9) 21,
o 26 (pV 21 25)]
def k53_r5 : List COp := [o 2 (pZ .i64 (-1))]
def k53_r6 : List COp := [o 27 (pM 3),
o 2 (pA 27)]
def k53 : CC := (.seq (.region k53_r0) (.seq (.seq (.region k53_r1) (.cond (.tmp 12) (.seq (.region k53_r2) .ret) .skip)) (.seq (.region k53_r3) (.seq (.seq (.region k53_r4) (.cond (.tmp 26) (.seq (.region k53_r5) .ret) .skip)) (.seq (.region k53_r6) .ret)))))
def k53_p := PLift.up <| aI (vE k53.eq_1) <| aI (oE k53_r0.eq_1) <| aI (oE k53_r1.eq_1) <| aI (oE k53_r2.eq_1) <| aI (oE k53_r3.eq_1) <| aI (oE k53_r4.eq_1) <| aI (oE k53_r5.eq_1) (oE k53_r6.eq_1)
theorem k53_a : type_of% k53_p.down := k53_p.down
theorem k53_is : FnIs Tryz.prog prims 53 28 [ResultVar.tmp 2] k53 := FnIs.of_fn Tryz.func53 (by kernel_rfl) rfl
def k54_r0 : List COp := [o 2 (.assign (.const (.string { data := #[] })))]
def k54_r1 : List COp := [o 5 (pM 0),
o 6 (pK .lss 3 5 .i64 0 3),
o 7 (pM 6),
oF 8 (pM 0) 7,
oF 9 (pK .gtr 3 8 .i64 999999999 3) 7,
o 10 (pV 7 9)]
def k54_r2 : List COp := [o 2 (.assign (.const (.string { data := #[] })))]
def k54_r3 : List COp := [o 3 (.assign (.const (.string { data := #[] })))]
def k54_r4 : List COp := [o 4 (pZ .i64 0)]
def k54_r5 : List COp := [o 11 (pM 4),
o 12 (pK .lss 3 11 .i64 9 3)]
def k54_r7 : List COp := [o 15 (pM 0),
o 16 (pK .rem 3 15 .i64 10 3),
o 17 (.binOp .add 3 (.const (.int .i64 48)) (.tmp 16) 3),
o 18 (.convert 3 5 (.tmp 17)),
o 19 (.buildSlice 30 1 #[(0, .tmp 18)]),
o 20 (.convert 30 9 (.tmp 19)),
o 21 (pM 3),
o 22 (pB .add 9 20 21 9),
o 3 (pA 22)]
def k54_r8 : List COp := [o 23 (pM 0),
o 24 (pK .quo 3 23 .i64 10 3),
o 0 (pA 24)]
def k54_r6 : List COp := [o 13 (pM 4),
o 14 (pK .add 3 13 .i64 1 3),
o 4 (pA 14)]
def k54_l0 : CC := (.seq (.seq (.region k54_r5) (.cond (.tmp 12) .skip (.exit 0))) (.seq (.block 1 (.seq (.region k54_r7) (.region k54_r8))) (.region k54_r6)))
def k54_r9 : List COp := [o 25 (pM 3),
o 26 (.binOp .add 9 (.const (.string { data := #[115] })) (.tmp 25) 9),
o 2 (pA 26)]
def k54 : CC := (.seq (.region k54_r0) (.seq (.seq (.region k54_r1) (.cond (.tmp 10) (.seq (.region k54_r2) .ret) .skip)) (.seq (.region k54_r3) (.seq (.seq (.region k54_r4) (.block 0 (.loop k54_l0))) (.seq (.region k54_r9) .ret)))))
def k54_p := PLift.up <| aI (vE k54.eq_1) <| aI (oE k54_r0.eq_1) <| aI (oE k54_r1.eq_1) <| aI (oE k54_r2.eq_1) <| aI (oE k54_r3.eq_1) <| aI (oE k54_r4.eq_1) <| aI (oE k54_r5.eq_1) <| aI (oE k54_r7.eq_1) <| aI (oE k54_r8.eq_1) <| aI (oE k54_r6.eq_1) <| aI (vE k54_l0.eq_1) (oE k54_r9.eq_1)
theorem k54_a : type_of% k54_p.down := k54_p.down
theorem k54_is : FnIs Tryz.prog prims 54 27 [ResultVar.tmp 2] k54 := FnIs.of_fn Tryz.func54 (by kernel_rfl) rfl
def k55_r0 : List COp := [o 4 (.assign (.const (.slice .none 0 0))),
o 5 (pZ .i64 0)]
def k55_r1 : List COp := [o 8 (pM 0),
o 9 (pM 1),
o 10 (pD 41 8 9 28 9),
o 6 (pA 10)]
def k55_r2 : List COp := [o 11 (pM 6),
o 12 (pK .neq 33 11 .i64 0 33)]
def k55_r3 : List COp := [o 13 (pM 6),
o 4 (.assign (.const (.slice .none 0 0))),
o 5 (pA 13)]
def k55_r4 : List COp := [o 14 (pM 0),
o 15 (pM 1),
o 16 (pD 42 14 15 28 9),
o 7 (pA 16)]
def k55_r5 : List COp := [o 17 (pM 7),
o 18 (pK .lss 3 17 .i64 0 3)]
def k55_r6 : List COp := [o 4 (.assign (.const (.slice .none 0 0))),
o 5 (pZ .i64 21)]
def k55_r7 : CC := (.wregion [
(true, oX 19 (.buildSlice 30 0 #[])),
(false, oX 20 (pM 0)),
(false, oX 21 (.nilCheck (.tmp 20))),
(false, oX 22 (pF 48 21 0)),
(false, oX 23 (pL 46 22)),
(false, oX 24 (pM 7)),
(false, oX 25 (pI 46 23 24)),
(false, oX 26 (pF 81 25 1)),
(false, oX 27 (pL 30 26)),
(false, oX 28 (pQ 19 27 30 30)),
(true, oX 29 (pM 0)),
(false, oX 30 (.nilCheck (.tmp 29))),
(false, oX 31 (pF 48 30 0)),
(true, oX 32 (pL 46 31)),
(false, o 33 (pM 7)),
(false, o 34 (pI 46 32 33)),
(false, o 35 (pF 81 34 2)),
(true, o 36 (pL 30 35)),
(false, o 37 (pQ 28 36 30 30)),
(false, o 4 (pA 37)),
(false, o 5 (pZ .i64 0))] false [(13, oX 32 (pL 46 31), [0, 10]), (17, o 36 (pL 30 35), [0, 10])])
def k55 : CC := (.seq (.region k55_r0) (.seq (.region k55_r1) (.seq (.seq (.region k55_r2) (.cond (.tmp 12) (.seq (.region k55_r3) .ret) .skip)) (.seq (.region k55_r4) (.seq (.seq (.region k55_r5) (.cond (.tmp 18) (.seq (.region k55_r6) .ret) .skip)) (.seq k55_r7 .ret))))))
def k55_p := PLift.up <| aI (vE k55.eq_1) <| aI (oE k55_r0.eq_1) <| aI (oE k55_r1.eq_1) <| aI (oE k55_r2.eq_1) <| aI (oE k55_r3.eq_1) <| aI (oE k55_r4.eq_1) <| aI (oE k55_r5.eq_1) <| aI (oE k55_r6.eq_1) (vE k55_r7.eq_1)
theorem k55_a : type_of% k55_p.down := k55_p.down
theorem k55_is : FnIs Tryz.prog prims 55 38 [ResultVar.tmp 4, ResultVar.tmp 5] k55 := FnIs.of_fn Tryz.func55 (by kernel_rfl) rfl
def k56_r0 : List COp := [o 4 (pZ .i64 0)]
def k56_r1 : List COp := [o 6 (pM 0),
o 7 (pM 1),
o 8 (pD 41 6 7 28 9),
o 5 (pA 8)]
def k56_r2 : List COp := [o 9 (pM 5),
o 10 (pK .neq 33 9 .i64 0 33)]
def k56_r3 : List COp := [o 11 (pM 5),
o 4 (pA 11)]
def k56_r4 : List COp := [o 12 (pM 0),
o 13 (pM 1),
o 14 (pD 42 12 13 28 9),
o 15 (pK .lss 3 14 .i64 0 3)]
def k56_r5 : List COp := [o 4 (pZ .i64 21)]
def k56_r6 : List COp := [o 16 (pM 0),
o 17 (pC 45 16 28)]
def k56_r7 : List COp := [o 18 (pM 0),
o 19 (pM 0),
o 20 (.nilCheck (.tmp 19)),
o 21 (pF 48 20 5),
o 22 (pL 3 21),
o 23 (pD 21 18 22 28 3)]
def k56_r8 : List COp := [o 4 (pZ .i64 20)]
def k56_r9 : List COp := [o 24 (pM 0),
o 25 (pM 1),
o 26 (pD 84 24 25 28 9)]
def k56_r10 : List COp := [o 4 (pZ .i64 0)]
def k56 : CC := (.seq (.region k56_r0) (.seq (.region k56_r1) (.seq (.seq (.region k56_r2) (.cond (.tmp 10) (.seq (.region k56_r3) .ret) .skip)) (.seq (.seq (.region k56_r4) (.cond (.tmp 15) (.seq (.region k56_r5) .ret) .skip)) (.seq (.seq (.region k56_r6) (.cond (.tmp 17) (.seq (.region k56_r7) (.seq (.region k56_r8) .ret)) .skip)) (.seq (.region k56_r9) (.seq (.region k56_r10) .ret)))))))
def k56_p := PLift.up <| aI (vE k56.eq_1) <| aI (oE k56_r0.eq_1) <| aI (oE k56_r1.eq_1) <| aI (oE k56_r2.eq_1) <| aI (oE k56_r3.eq_1) <| aI (oE k56_r4.eq_1) <| aI (oE k56_r5.eq_1) <| aI (oE k56_r6.eq_1) <| aI (oE k56_r7.eq_1) <| aI (oE k56_r8.eq_1) <| aI (oE k56_r9.eq_1) (oE k56_r10.eq_1)
theorem k56_a : type_of% k56_p.down := k56_p.down
theorem k56_is : FnIs Tryz.prog prims 56 27 [ResultVar.tmp 4] k56 := FnIs.of_fn Tryz.func56 (by kernel_rfl) rfl
def k57_r0 : List COp := [o 4 (.assign (.const (.slice .none 0 0)))]
def k57_r1 : List COp := [o 7 (pM 0),
o 8 (.convert 3 108 (.tmp 7)),
o 9 (pC 85 8 108),
o 10 (pM 1),
o 11 (pN 10 30),
o 12 (.convert 3 108 (.tmp 11)),
o 13 (pC 85 12 108),
o 14 (pQ 9 13 30 30),
o 5 (pA 14)]
def k57_r2 : List COp := [o 15 (.buildSlice 30 0 #[]),
o 16 (pM 5),
o 17 (pQ 15 16 30 30),
o 18 (pM 1),
o 19 (pQ 17 18 30 30),
o 20 (pC 86 19 30),
o 6 (pA 20)]
def k57_r3 : List COp := [o 21 (pM 5),
o 22 (pM 6),
o 23 (pC 85 22 108),
o 24 (pQ 21 23 30 30),
o 25 (pM 1),
o 26 (pQ 24 25 30 30),
o 4 (pA 26)]
def k57 : CC := (.seq (.region k57_r0) (.seq (.region k57_r1) (.seq (.region k57_r2) (.seq (.region k57_r3) .ret))))
def k57_p := PLift.up <| aI (vE k57.eq_1) <| aI (oE k57_r0.eq_1) <| aI (oE k57_r1.eq_1) <| aI (oE k57_r2.eq_1) (oE k57_r3.eq_1)
theorem k57_a : type_of% k57_p.down := k57_p.down
theorem k57_is : FnIs Tryz.prog prims 57 27 [ResultVar.tmp 4] k57 := FnIs.of_fn Tryz.func57 (by kernel_rfl) rfl
def k58_r0 : List COp := [o 6 (pZ .i64 0)]
def k58_r1 : List COp := [o 9 (pM 1),
o 10 (pN 9 9),
o 11 (pK .lss 3 10 .i64 1 3),
o 12 (pM 11),
oF 13 (pM 1) 12,
oF 14 (pN 13 9) 12,
oF 15 (pK .gtr 3 14 .i64 16 3) 12,
o 16 (pV 12 15),
o 17 (pM 16),
oF 18 (pM 2) 17,
oF 19 (pN 18 9) 17,
oF 20 (pK .lss 3 19 .i64 1 3) 17,
o 21 (pV 17 20),
o 22 (pM 21),
oF 23 (pM 2) 22,
oF 24 (pN 23 9) 22,
oF 25 (pK .gtr 3 24 .i64 16 3) 22,
o 26 (pV 22 25)]
def k58_r2 : List COp := [o 6 (pZ .i64 1)]
def k58_r3 : List COp := [o 27 (pM 0),
o 28 (.nilCheck (.tmp 27)),
o 29 (pF 48 28 2),
o 30 (pL 4 29),
o 31 (.unOp .not 4 (.tmp 30))]
def k58_r4 : List COp := [o 6 (pZ .i64 20)]
def k58_r5 : List COp := [o 32 (pM 0),
o 33 (pM 1),
o 34 (pD 42 32 33 28 9),
o 7 (pA 34)]
def k58_r6 : List COp := [o 35 (pM 7),
o 36 (pK .lss 3 35 .i64 0 3)]
def k58_r7 : List COp := [o 6 (pZ .i64 21)]
def k58_r8 : List COp := [o 37 (pM 0),
o 38 (pC 45 37 28)]
def k58_r9 : List COp := [o 39 (pM 0),
o 40 (pM 0),
o 41 (.nilCheck (.tmp 40)),
o 42 (pF 48 41 5),
o 43 (pL 3 42),
o 44 (pD 21 39 43 28 3)]
def k58_r10 : List COp := [o 6 (pZ .i64 20)]
def k58_r11 : List COp := [o 45 (pM 0),
o 46 (.nilCheck (.tmp 45)),
o 47 (pF 48 46 0),
o 48 (pL 46 47),
o 49 (pM 7),
o 50 (pI 46 48 49),
o 51 (pL 81 50),
o 8 (.alloc 81),
oS 81 8 51]
def k58_r12 : List COp := [o 52 (pM 0),
o 53 (pM 1),
o 54 (pD 84 52 53 28 9)]
def k58_r13 : List COp := [o 55 (pM 0),
o 56 (pM 2),
o 57 (pF 81 8 1),
o 58 (pL 30 57),
o 59 (pF 81 8 2),
o 60 (pL 30 59),
o 61 (.build 81 #[(0, .tmp 56), (1, .tmp 58), (2, .tmp 60)]),
o 62 (pD 44 55 61 28 81)]
def k58_r14 : List COp := [o 6 (pZ .i64 0)]
def k58 : CC := (.seq (.region k58_r0) (.seq (.seq (.region k58_r1) (.cond (.tmp 26) (.seq (.region k58_r2) .ret) .skip)) (.seq (.seq (.region k58_r3) (.cond (.tmp 31) (.seq (.region k58_r4) .ret) .skip)) (.seq (.region k58_r5) (.seq (.seq (.region k58_r6) (.cond (.tmp 36) (.seq (.region k58_r7) .ret) .skip)) (.seq (.seq (.region k58_r8) (.cond (.tmp 38) (.seq (.region k58_r9) (.seq (.region k58_r10) .ret)) .skip)) (.seq (.region k58_r11) (.seq (.region k58_r12) (.seq (.region k58_r13) (.seq (.region k58_r14) .ret))))))))))
def k58_p := PLift.up <| aI (vE k58.eq_1) <| aI (oE k58_r0.eq_1) <| aI (oE k58_r1.eq_1) <| aI (oE k58_r2.eq_1) <| aI (oE k58_r3.eq_1) <| aI (oE k58_r4.eq_1) <| aI (oE k58_r5.eq_1) <| aI (oE k58_r6.eq_1) <| aI (oE k58_r7.eq_1) <| aI (oE k58_r8.eq_1) <| aI (oE k58_r9.eq_1) <| aI (oE k58_r10.eq_1) <| aI (oE k58_r11.eq_1) <| aI (oE k58_r12.eq_1) <| aI (oE k58_r13.eq_1) (oE k58_r14.eq_1)
theorem k58_a : type_of% k58_p.down := k58_p.down
theorem k58_is : FnIs Tryz.prog prims 58 63 [ResultVar.tmp 6] k58 := FnIs.of_fn Tryz.func58 (by kernel_rfl) rfl
def k59_r0 : List COp := [o 2 (.assign (.const (.slice .none 0 0)))]
def k59_r1 : List COp := [o 3 (.assign (.const (.slice .none 0 0)))]
def k59_r2 : List COp := [o 6 (pM 0),
o 7 (.nilCheck (.tmp 6)),
o 8 (pF 48 7 0),
o 9 (pL 46 8),
o 10 (pN 9 46),
o 11 (pW .i64 0)]
def k59_r3 : List COp := [o 12 (pB .lss 3 11 10 3)]
def k59_r4 : List COp := [o 13 (pI 46 9 11),
o 14 (pL 81 13),
o 5 (.alloc 81),
oS 81 5 14]
def k59_r5 : List COp := [o 15 (pM 0),
o 16 (.nilCheck (.tmp 15)),
o 17 (pF 48 16 2),
o 18 (pL 4 17)]
def k59_r6 : List COp := [o 19 (pM 3),
o 20 (pF 81 5 0),
o 21 (pL 9 20),
o 22 (.buildSlice 70 1 #[(0, .tmp 21)]),
o 23 (pQ 19 22 70 70),
o 3 (pA 23)]
def k59_r7 : List COp := [o 24 (pK .add 3 11 .i64 1 3),
o 11 (pM 24)]
def k59_l0 : CC := (.seq (.region k59_r3) (.seq (.cond (.tmp 12) .skip (.exit 0)) (.seq (.block 1 (.seq (.region k59_r4) (.seq (.region k59_r5) (.cond (.tmp 18) (.region k59_r6) .skip)))) (.region k59_r7))))
def k59_r8 : List COp := [o 25 (pM 3),
o 2 (pA 25)]
def k59 : CC := (.seq (.region k59_r0) (.seq (.region k59_r1) (.seq (.seq (.region k59_r2) (.block 0 (.loop k59_l0))) (.seq (.region k59_r8) .ret))))
def k59_p := PLift.up <| aI (vE k59.eq_1) <| aI (oE k59_r0.eq_1) <| aI (oE k59_r1.eq_1) <| aI (oE k59_r2.eq_1) <| aI (oE k59_r3.eq_1) <| aI (oE k59_r4.eq_1) <| aI (oE k59_r5.eq_1) <| aI (oE k59_r6.eq_1) <| aI (oE k59_r7.eq_1) <| aI (vE k59_l0.eq_1) (oE k59_r8.eq_1)
theorem k59_a : type_of% k59_p.down := k59_p.down
theorem k59_is : FnIs Tryz.prog prims 59 26 [ResultVar.tmp 2] k59 := FnIs.of_fn Tryz.func59 (by kernel_rfl) rfl
def k60_r0 : List COp := [o 2 (pZ .i64 0)]
def k60_r1 : List COp := [o 5 (pM 0),
o 6 (pN 5 9),
o 7 (pK .neq 3 6 .i64 10 3),
o 8 (pM 7),
oF 9 (pM 0) 8,
oF 10 (.index 9 (.tmp 9) (.const (.int .i64 0))) 8,
oF 11 (pK .neq 5 10 .u8 115 5) 8,
o 12 (pV 8 11)]
def k60_r2 : List COp := [o 2 (pZ .i64 (-1))]
def k60_r3 : List COp := [o 3 (pZ .i64 0)]
def k60_r4 : List COp := [o 4 (pZ .i64 1)]
def k60_r5 : List COp := [o 13 (pM 4),
o 14 (pK .lss 3 13 .i64 10 3)]
def k60_r7 : List COp := [o 17 (pM 0),
o 18 (pM 4),
o 19 (.index 9 (.tmp 17) (.tmp 18)),
o 20 (pK .lss 5 19 .u8 48 5),
o 21 (pM 20),
oF 22 (pM 0) 21,
oF 23 (pM 4) 21,
oF 24 (.index 9 (.tmp 22) (.tmp 23)) 21,
oF 25 (pK .gtr 5 24 .u8 57 5) 21,
o 26 (pV 21 25)]
def k60_r8 : List COp := [o 2 (pZ .i64 (-1))]
def k60_r9 : List COp := [o 27 (pM 3),
o 28 (pK .mul 3 27 .i64 10 3),
o 29 (pM 0),
o 30 (pM 4),
o 31 (.index 9 (.tmp 29) (.tmp 30)),
o 32 (pK .sub 5 31 .u8 48 5),
o 33 (.convert 5 3 (.tmp 32)),
o 34 (pB .add 3 28 33 3),
o 3 (pA 34)]
def k60_r6 : List COp := [o 15 (pM 4),
o 16 (pK .add 3 15 .i64 1 3),
o 4 (pA 16)]
def k60_l0 : CC := (.seq (.seq (.region k60_r5) (.cond (.tmp 14) .skip (.exit 0))) (.seq (.block 1 (.seq (.seq (.region k60_r7) (.cond (.tmp 26) (.seq (.region k60_r8) .ret) .skip)) (.region k60_r9))) (.region k60_r6)))
def k60_r10 : List COp := [o 35 (pM 3),
o 2 (pA 35)]
def k60 : CC := (.seq (.region k60_r0) (.seq (.seq (.region k60_r1) (.cond (.tmp 12) (.seq (.region k60_r2) .ret) .skip)) (.seq (.region k60_r3) (.seq (.seq (.region k60_r4) (.block 0 (.loop k60_l0))) (.seq (.region k60_r10) .ret)))))
def k60_p := PLift.up <| aI (vE k60.eq_1) <| aI (oE k60_r0.eq_1) <| aI (oE k60_r1.eq_1) <| aI (oE k60_r2.eq_1) <| aI (oE k60_r3.eq_1) <| aI (oE k60_r4.eq_1) <| aI (oE k60_r5.eq_1) <| aI (oE k60_r7.eq_1) <| aI (oE k60_r8.eq_1) <| aI (oE k60_r9.eq_1) <| aI (oE k60_r6.eq_1) <| aI (vE k60_l0.eq_1) (oE k60_r10.eq_1)
theorem k60_a : type_of% k60_p.down := k60_p.down
theorem k60_is : FnIs Tryz.prog prims 60 36 [ResultVar.tmp 2] k60 := FnIs.of_fn Tryz.func60 (by kernel_rfl) rfl
def k61_r0 : List COp := [o 3 (.box 30 (.tmp 1)),
o 4 (.assign (.const (.slice .none 0 0))),
o 5 (pZ .i64 0)]
def k61_r1 : List COp := [o 8 (pL 30 3),
o 9 (pN 8 30),
o 10 (pK .lss 3 9 .i64 12 3)]
def k61_r2 : List COp := [o 4 (.assign (.const (.slice .none 0 0))),
o 5 (pZ .i64 10)]
def k61_r3 : List COp := [o 11 (.makeFunc (.func 87) #[] #[.tmp 3]),
o 6 (pA 11)]
def k61_r4 : List COp := [o 12 (pL 30 3),
o 13 (.slice 30 (.tmp 12) (some (.const (.int .i64 12))) .none .none),
o 7 (pA 13)]
def k61_r5 : List COp := [o 15 (pM 6),
o 16 (.call { callee := .value (.tmp 15), args := #[.const (.int .i64 4)], argTypes := #[3] }),
o 17 (.convert 108 119 (.tmp 16)),
o 18 (pM 7),
o 19 (pN 18 30),
o 20 (.convert 3 119 (.tmp 19)),
o 21 (pB .gtr 119 17 20 119),
o 14 (pA 21)]
def k61_r6 : List COp := [o 4 (.assign (.const (.slice .none 0 0))),
o 5 (pZ .i64 10)]
def k61_r7 : List COp := [o 23 (pM 6),
o 24 (.call { callee := .value (.tmp 23), args := #[.const (.int .i64 4)], argTypes := #[3] }),
o 25 (.convert 108 119 (.tmp 24)),
o 26 (pM 7),
o 27 (pN 26 30),
o 28 (.convert 3 119 (.tmp 27)),
o 29 (pB .lss 119 25 28 119),
o 30 (pM 29),
oF 31 (pM 0) 30,
oF 32 (pK .lss 3 31 .i64 0 3) 30,
o 33 (pV 30 32),
o 34 (pM 33),
oF 35 (pM 0) 34,
oF 36 (pK .gtr 3 35 .i64 999999999 3) 34,
o 37 (pV 34 36),
o 38 (pM 37),
oF 39 (pM 6) 38,
oF 40 (.call { callee := .value (.tmp 39), args := #[.const (.int .i64 0)], argTypes := #[3] }) 38,
oF 41 (pM 0) 38,
oF 42 (.convert 3 108 (.tmp 41)) 38,
oF 43 (pB .neq 108 40 42 108) 38,
o 44 (pV 38 43),
o 22 (pA 44)]
def k61_r8 : List COp := [o 4 (.assign (.const (.slice .none 0 0))),
o 5 (pZ .i64 11)]
def k61_r9 : CC := (.wregion [
(true, oX 46 (pM 6)),
(false, oX 47 (.call { callee := .value (.tmp 46), args := #[.const (.int .i64 8)], argTypes := #[3] })),
(true, oX 48 (pL 30 3)),
(false, oX 49 (.slice 30 (.tmp 48) .none (some (.const (.int .i64 8))) (some (.const (.int .i64 8))))),
(false, o 50 (pM 7)),
(false, o 51 (pQ 49 50 30 30)),
(false, o 52 (pC 82 51 30)),
(false, o 53 (pB .neq 108 47 52 108)),
(false, o 45 (pA 53))] false [(2, oX 48 (pL 30 3), [0, 2])])
def k61_r10 : List COp := [o 4 (.assign (.const (.slice .none 0 0))),
o 5 (pZ .i64 12)]
def k61_r11 : List COp := [o 54 (.buildSlice 30 0 #[]),
o 55 (pM 7),
o 56 (pQ 54 55 30 30),
o 4 (pA 56),
o 5 (pZ .i64 0)]
def k61 : CC := (.seq (.region k61_r0) (.seq (.seq (.region k61_r1) (.cond (.tmp 10) (.seq (.region k61_r2) .ret) .skip)) (.seq (.region k61_r3) (.seq (.region k61_r4) (.seq (.block 0 (.seq (.region k61_r5) (.cond (.tmp 14) (.seq (.region k61_r6) .ret) (.seq (.region k61_r7) (.cond (.tmp 22) (.seq (.region k61_r8) .ret) (.seq k61_r9 (.cond (.tmp 45) (.seq (.region k61_r10) .ret) .skip))))))) (.seq (.region k61_r11) .ret))))))
def k61_p := PLift.up <| aI (vE k61.eq_1) <| aI (oE k61_r0.eq_1) <| aI (oE k61_r1.eq_1) <| aI (oE k61_r2.eq_1) <| aI (oE k61_r3.eq_1) <| aI (oE k61_r4.eq_1) <| aI (oE k61_r5.eq_1) <| aI (oE k61_r6.eq_1) <| aI (oE k61_r7.eq_1) <| aI (oE k61_r8.eq_1) <| aI (vE k61_r9.eq_1) <| aI (oE k61_r10.eq_1) (oE k61_r11.eq_1)
theorem k61_a : type_of% k61_p.down := k61_p.down
theorem k61_is : FnIs Tryz.prog prims 61 57 [ResultVar.tmp 4, ResultVar.tmp 5] k61 := FnIs.of_fn Tryz.func61 (by kernel_rfl) rfl
def k62_r0 : List COp := [o 4 (.assign (.const (.slice .none 0 0))),
o 5 (pZ .i64 0)]
def k62_r1 : List COp := [o 8 (pM 1),
o 9 (pN 8 30),
o 10 (pK .lss 3 9 .i64 12 3)]
def k62_r2 : List COp := [o 4 (.assign (.const (.slice .none 0 0))),
o 5 (pZ .i64 10)]
def k62_r3 : List COp := [oX 11 (pM 1),
oX 12 (.indexAddr 30 (.tmp 11) (.const (.int .i64 4))),
oX 13 (pL 5 12),
oX 14 (.convert 5 3 (.tmp 13)),
oX 15 (pM 1),
oX 16 (.indexAddr 30 (.tmp 15) (.const (.int .i64 5))),
oX 17 (pL 5 16),
oX 18 (.convert 5 3 (.tmp 17)),
oX 19 (pK .mul 3 18 .i64 256 3),
oX 20 (pB .add 3 14 19 3),
oX 21 (pM 1),
oX 22 (.indexAddr 30 (.tmp 21) (.const (.int .i64 6))),
oX 23 (pL 5 22),
oX 24 (.convert 5 3 (.tmp 23)),
oX 25 (pK .mul 3 24 .i64 65536 3),
oX 26 (pB .add 3 20 25 3),
o 27 (pM 1),
o 28 (.indexAddr 30 (.tmp 27) (.const (.int .i64 7))),
o 29 (pL 5 28),
o 30 (.convert 5 3 (.tmp 29)),
o 31 (pK .mul 3 30 .i64 16777216 3),
o 32 (pB .add 3 26 31 3),
o 6 (pA 32)]
def k62_r4 : List COp := [o 33 (pM 6),
o 34 (pM 1),
o 35 (pN 34 30),
o 36 (pK .sub 3 35 .i64 12 3),
o 37 (pB .gtr 3 33 36 3)]
def k62_r5 : List COp := [o 4 (.assign (.const (.slice .none 0 0))),
o 5 (pZ .i64 10)]
def k62_r6 : List COp := [oX 38 (pM 6),
o 39 (pM 1),
o 40 (pN 39 30),
o 41 (pK .sub 3 40 .i64 12 3),
o 42 (pB .lss 3 38 41 3),
o 43 (pM 42),
oF 44 (pM 0) 43,
oF 45 (pK .lss 3 44 .i64 0 3) 43,
o 46 (pV 43 45),
o 47 (pM 46),
oF 48 (pM 0) 47,
oF 49 (pK .gtr 3 48 .i64 999999999 3) 47,
o 50 (pV 47 49),
o 51 (pM 50),
⟨some 52, .move (.tmp 0), some (51, false), false⟩,
⟨some 53, .convert 3 108 (.tmp 52), some (51, false), false⟩,
⟨some 54, .call { callee := .value (.func 85), args := #[.tmp 53], argTypes := #[108] }, some (51, false), false⟩,
⟨some 55, .convert 30 9 (.tmp 54), some (51, false), false⟩,
oF 56 (pM 1) 51,
oF 57 (.slice 30 (.tmp 56) .none (some (.const (.int .i64 4))) .none) 51,
oF 58 (.convert 30 9 (.tmp 57)) 51,
oF 59 (pB .neq 9 55 58 9) 51,
o 60 (pV 51 59)]
def k62_r7 : List COp := [o 4 (.assign (.const (.slice .none 0 0))),
o 5 (pZ .i64 11)]
def k62_r8 : List COp := [o 61 (.buildSlice 30 0 #[]),
o 62 (pM 1),
o 63 (.slice 30 (.tmp 62) (some (.const (.int .i64 12))) .none .none),
o 64 (pQ 61 63 30 30),
o 7 (pA 64)]
def k62_r9 : List COp := [oX 65 (pM 0),
oX 66 (pM 7),
oX 67 (pD 57 65 66 3 30),
oX 68 (.convert 30 9 (.tmp 67)),
o 69 (pM 1),
o 70 (.convert 30 9 (.tmp 69)),
o 71 (pB .neq 9 68 70 9)]
def k62_r10 : List COp := [o 4 (.assign (.const (.slice .none 0 0))),
o 5 (pZ .i64 12)]
def k62_r11 : List COp := [o 72 (pM 7),
o 4 (pA 72),
o 5 (pZ .i64 0)]
def k62 : CC := (.seq (.region k62_r0) (.seq (.seq (.region k62_r1) (.cond (.tmp 10) (.seq (.region k62_r2) .ret) .skip)) (.seq (.region k62_r3) (.seq (.seq (.region k62_r4) (.cond (.tmp 37) (.seq (.region k62_r5) .ret) .skip)) (.seq (.seq (.region k62_r6) (.cond (.tmp 60) (.seq (.region k62_r7) .ret) .skip)) (.seq (.region k62_r8) (.seq (.seq (.region k62_r9) (.cond (.tmp 71) (.seq (.region k62_r10) .ret) .skip)) (.seq (.region k62_r11) .ret))))))))
def k62_p := PLift.up <| aI (vE k62.eq_1) <| aI (oE k62_r0.eq_1) <| aI (oE k62_r1.eq_1) <| aI (oE k62_r2.eq_1) <| aI (oE k62_r3.eq_1) <| aI (oE k62_r4.eq_1) <| aI (oE k62_r5.eq_1) <| aI (oE k62_r6.eq_1) <| aI (oE k62_r7.eq_1) <| aI (oE k62_r8.eq_1) <| aI (oE k62_r9.eq_1) <| aI (oE k62_r10.eq_1) (oE k62_r11.eq_1)
theorem k62_a : type_of% k62_p.down := k62_p.down
theorem k62_is : FnIs Tryz.prog prims 62 73 [ResultVar.tmp 4, ResultVar.tmp 5] k62 := FnIs.of_fn Tryz.func62 (by kernel_rfl) rfl
def k63_r0 : List COp := [o 2 (pZ .i64 0)]
def k63_r1 : List COp := [o 3 (pM 0),
o 4 (.binOp .eql 26 (.tmp 3) (.const (.pointer .none)) 26)]
def k63_r2 : List COp := [o 2 (pZ .i64 0)]
def k63_r3 : List COp := [o 5 (pM 0),
o 6 (.nilCheck (.tmp 5)),
o 7 (pF 74 6 3),
o 8 (pL 3 7),
o 2 (pA 8)]
def k63 : CC := (.seq (.region k63_r0) (.seq (.seq (.region k63_r1) (.cond (.tmp 4) (.seq (.region k63_r2) .ret) .skip)) (.seq (.region k63_r3) .ret)))
def k63_p := PLift.up <| aI (vE k63.eq_1) <| aI (oE k63_r0.eq_1) <| aI (oE k63_r1.eq_1) <| aI (oE k63_r2.eq_1) (oE k63_r3.eq_1)
theorem k63_a : type_of% k63_p.down := k63_p.down
theorem k63_is : FnIs Tryz.prog prims 63 9 [ResultVar.tmp 2] k63 := FnIs.of_fn Tryz.func63 (by kernel_rfl) rfl
def k64_r0 : List COp := [o 2 (.assign (.const (.slice .none 0 0))),
o 3 (pZ .i64 0)]
def k64_r1 : List COp := [o 7 (pM 0),
o 8 (pN 7 30),
o 9 (pK .gtr 3 8 .i64 65536 3)]
def k64_r2 : List COp := [o 2 (.assign (.const (.slice .none 0 0))),
o 3 (pZ .i64 3)]
def k64_r3 : List COp := [o 10 (pM 0),
o 11 (pN 10 30),
o 12 (.convert 3 108 (.tmp 11)),
o 13 (pM 0),
o 14 (pC 82 13 30),
o 4 (pA 12),
o 5 (pA 14)]
def k64_r4 : List COp := [o 15 (pM 4),
o 16 (.convert 108 5 (.tmp 15)),
o 17 (pM 4),
o 18 (pK .shr 108 17 .u64 8 110),
o 19 (.convert 108 5 (.tmp 18)),
o 20 (pM 4),
o 21 (pK .shr 108 20 .u64 16 110),
o 22 (.convert 108 5 (.tmp 21)),
o 23 (pM 4),
o 24 (pK .shr 108 23 .u64 24 110),
o 25 (.convert 108 5 (.tmp 24)),
o 26 (pM 5),
o 27 (.convert 108 5 (.tmp 26)),
o 28 (pM 5),
o 29 (pK .shr 108 28 .u64 8 110),
o 30 (.convert 108 5 (.tmp 29)),
o 31 (pM 5),
o 32 (pK .shr 108 31 .u64 16 110),
o 33 (.convert 108 5 (.tmp 32)),
o 34 (pM 5),
o 35 (pK .shr 108 34 .u64 24 110),
o 36 (.convert 108 5 (.tmp 35)),
o 37 (.buildSlice 30 8 #[(0, .tmp 16), (1, .tmp 19), (2, .tmp 22), (3, .tmp 25), (4, .tmp 27), (5, .tmp 30), (6, .tmp 33), (7, .tmp 36)]),
o 6 (pA 37)]
def k64_r5 : List COp := [o 38 (pM 6),
o 39 (pM 0),
o 40 (pQ 38 39 30 30),
o 2 (pA 40),
o 3 (pZ .i64 0)]
def k64 : CC := (.seq (.region k64_r0) (.seq (.seq (.region k64_r1) (.cond (.tmp 9) (.seq (.region k64_r2) .ret) .skip)) (.seq (.region k64_r3) (.seq (.region k64_r4) (.seq (.region k64_r5) .ret)))))
def k65_r0 : List COp := [o 2 (.assign (.const (.string { data := #[] })))]
def k65_r1 : List COp := [o 4 (pM 0),
o 5 (pK .lss 3 4 .i64 1 3),
o 6 (pM 5),
oF 7 (pM 0) 6,
oF 8 (pK .gtr 3 7 .i64 999999999 3) 6,
o 9 (pV 6 8)]
def k65_r2 : List COp := [o 2 (.assign (.const (.string { data := #[] })))]
def k65_r3 : List COp := [o 10 (pM 0),
o 11 (pC 80 10 3),
o 3 (pA 11)]
def k65_r4 : List COp := [o 12 (pM 3),
o 13 (pN 12 9),
o 14 (pK .lss 3 13 .i64 9 3)]
def k65_r5 : List COp := [o 15 (pM 3),
o 16 (.binOp .add 9 (.const (.string { data := #[48] })) (.tmp 15) 9),
o 3 (pA 16)]
def k65_l0 : CC := (.seq (.seq (.region k65_r4) (.cond (.tmp 14) .skip (.exit 0))) (.block 1 (.region k65_r5)))
def k65_r6 : List COp := [o 17 (pM 3),
o 18 (.binOp .add 9 (.const (.string { data := #[106] })) (.tmp 17) 9),
o 2 (pA 18)]
def k65 : CC := (.seq (.region k65_r0) (.seq (.seq (.region k65_r1) (.cond (.tmp 9) (.seq (.region k65_r2) .ret) .skip)) (.seq (.region k65_r3) (.seq (.block 0 (.loop k65_l0)) (.seq (.region k65_r6) .ret)))))
def k66_r0 : List COp := [o 2 (.assign (.const (.slice .none 0 0))),
o 3 (pZ .i64 0)]
def k66_r1 : List COp := [o 5 (pM 0),
o 6 (pN 5 30),
o 7 (pK .gtr 3 6 .i64 65536 3)]
def k66_r2 : List COp := [o 2 (.assign (.const (.slice .none 0 0))),
o 3 (pZ .i64 3)]
def k66_r3 : List COp := [o 8 (pM 0),
o 9 (pN 8 30),
o 10 (.convert 3 108 (.tmp 9)),
o 11 (pC 88 10 108),
o 12 (pM 0),
o 13 (pC 86 12 30),
o 14 (pC 88 13 108),
o 15 (pQ 11 14 30 30),
o 4 (pA 15)]
def k66_r4 : List COp := [o 16 (pM 4),
o 17 (pM 0),
o 18 (pQ 16 17 30 30),
o 2 (pA 18),
o 3 (pZ .i64 0)]
def k66 : CC := (.seq (.region k66_r0) (.seq (.seq (.region k66_r1) (.cond (.tmp 7) (.seq (.region k66_r2) .ret) .skip)) (.seq (.region k66_r3) (.seq (.region k66_r4) .ret))))
def k78_r0 : List COp := [o 1 (.box 72 (.tmp 0)),
o 2 (.assign (.const .nilFunc))]
def k78_r1 : List COp := [o 3 (.makeFunc (.func 93) #[] #[.tmp 1]),
o 2 (pA 3)]
def k78 : CC := (.seq (.region k78_r0) (.seq (.region k78_r1) .ret))
def k78_p := PLift.up <| aI (vE k78.eq_1) <| aI (oE k78_r0.eq_1) (oE k78_r1.eq_1)
theorem k78_a : type_of% k78_p.down := k78_p.down
theorem k78_is : FnIs Tryz.prog prims 78 4 [ResultVar.tmp 2] k78 := FnIs.of_fn Tryz.func78 (by kernel_rfl) rfl
def k79_r0 : List COp := [o 2 (pO false)]
def k79_r1 : List COp := [o 3 (pM 0),
o 4 (pN 3 9),
o 5 (pK .geq 3 4 .i64 1 3),
o 6 (pM 5),
oT 7 (pM 0) 6,
oT 8 (pN 7 9) 6,
oT 9 (pK .leq 3 8 .i64 16 3) 6,
o 10 (pU 6 9),
o 2 (pA 10)]
def k79 : CC := (.seq (.region k79_r0) (.seq (.region k79_r1) .ret))
def k79_p := PLift.up <| aI (vE k79.eq_1) <| aI (oE k79_r0.eq_1) (oE k79_r1.eq_1)
theorem k79_a : type_of% k79_p.down := k79_p.down
theorem k79_is : FnIs Tryz.prog prims 79 11 [ResultVar.tmp 2] k79 := FnIs.of_fn Tryz.func79 (by kernel_rfl) rfl
def k81_r0 : List COp := [o 2 (.assign (.const (.slice .none 0 0)))]
def k81_r1 : List COp := [o 3 (pZ .i64 0)]
def k81_r2 : List COp := [o 9 (pM 0),
o 10 (pN 9 60),
o 11 (pW .i64 0)]
def k81_r3 : List COp := [o 12 (pB .lss 3 11 10 3)]
def k81_r4 : List COp := [o 13 (pI 60 9 11),
o 14 (pL 30 13),
o 5 (pA 14)]
def k81_r5 : List COp := [o 15 (pM 3),
o 16 (pM 5),
o 17 (pN 16 30),
o 18 (pB .add 3 15 17 3),
o 3 (pA 18)]
def k81_r6 : List COp := [o 19 (pM 3),
o 20 (pK .lss 3 19 .i64 0 3)]
def k81_r7 : List COp := [o 21 (.makeInterface 9 (.const (.string { data := #[108, 101, 110, 32, 111, 117, 116, 32, 111, 102, 32, 114, 97, 110, 103, 101] }))),
⟨none, .panic (.tmp 21), none, true⟩]
def k81_r8 : List COp := [o 22 (pK .add 3 11 .i64 1 3),
o 11 (pM 22)]
def k81_l0 : CC := (.seq (.region k81_r3) (.seq (.cond (.tmp 12) .skip (.exit 0)) (.seq (.block 1 (.seq (.region k81_r4) (.seq (.region k81_r5) (.seq (.region k81_r6) (.cond (.tmp 20) (.region k81_r7) .skip))))) (.region k81_r8))))
def k81_r9 : List COp := [o 23 (pM 3),
o 24 (.call { callee := .value (.func 95), args := #[.const (.slice .none 0 0), .tmp 23], argTypes := #[30, 3] }),
o 6 (pA 24)]
def k81_r10 : List COp := [o 25 (pM 0),
o 26 (pN 25 60),
o 27 (pW .i64 0)]
def k81_r11 : List COp := [o 28 (pB .lss 3 27 26 3)]
def k81_r12 : List COp := [o 29 (pI 60 25 27),
o 30 (pL 30 29),
o 8 (pA 30)]
def k81_r13 : CC := (.hreg [
(false, o 31 (pM 6)),
(false, o 32 (pM 8)),
(true, o 33 (pQ 31 32 30 30)),
(false, o 6 (pA 33))])
def k81_r14 : List COp := [o 34 (pK .add 3 27 .i64 1 3),
o 27 (pM 34)]
def k81_l1 : CC := (.seq (.region k81_r11) (.seq (.cond (.tmp 28) .skip (.exit 2)) (.seq (.block 3 (.seq (.region k81_r12) k81_r13)) (.region k81_r14))))
def k81_r15 : List COp := [o 35 (pM 6),
o 2 (pA 35)]
def k81 : CC := (.seq (.region k81_r0) (.seq (.region k81_r1) (.seq (.seq (.region k81_r2) (.block 0 (.loop k81_l0))) (.seq (.region k81_r9) (.seq (.seq (.region k81_r10) (.block 2 (.loop k81_l1))) (.seq (.region k81_r15) .ret))))))
def k81_p := PLift.up <| aI (vE k81.eq_1) <| aI (oE k81_r0.eq_1) <| aI (oE k81_r1.eq_1) <| aI (oE k81_r2.eq_1) <| aI (oE k81_r3.eq_1) <| aI (oE k81_r4.eq_1) <| aI (oE k81_r5.eq_1) <| aI (oE k81_r6.eq_1) <| aI (oE k81_r7.eq_1) <| aI (oE k81_r8.eq_1) <| aI (vE k81_l0.eq_1) <| aI (oE k81_r9.eq_1) <| aI (oE k81_r10.eq_1) <| aI (oE k81_r11.eq_1) <| aI (oE k81_r12.eq_1) <| aI (vE k81_r13.eq_1) <| aI (oE k81_r14.eq_1) <| aI (vE k81_l1.eq_1) (oE k81_r15.eq_1)
theorem k81_a : type_of% k81_p.down := k81_p.down
theorem k81_is : FnIs Tryz.prog prims 81 36 [ResultVar.tmp 2] k81 := FnIs.of_fn Tryz.func81 (by kernel_rfl) rfl
def k82_r0 : List COp := [o 2 (pZ .u32 0)]
def k82_r1 : List COp := [o 3 (pM 0),
o 4 (.call { callee := .value (.func 96), args := #[.const (.int .u32 0), .tmp 3], argTypes := #[108, 30] }),
o 2 (pA 4)]
def k82 : CC := (.seq (.region k82_r0) (.seq (.region k82_r1) .ret))
def k82_p := PLift.up <| aI (vE k82.eq_1) <| aI (oE k82_r0.eq_1) (oE k82_r1.eq_1)
theorem k82_a : type_of% k82_p.down := k82_p.down
theorem k82_is : FnIs Tryz.prog prims 82 5 [ResultVar.tmp 2] k82 := FnIs.of_fn Tryz.func82 (by kernel_rfl) rfl
def k84_r0 : List COp := [o 4 (.assign (.const (.slice .none 0 0)))]
def k84_r1 : List COp := [o 7 (pM 0),
o 8 (.nilCheck (.tmp 7)),
o 9 (pF 48 8 0),
o 10 (pL 46 9),
o 11 (pN 10 46),
o 12 (pW .i64 0)]
def k84_r2 : List COp := [o 13 (pB .lss 3 12 11 3)]
def k84_r3 : List COp := [o 14 (pI 46 10 12),
o 15 (pL 81 14),
o 6 (.alloc 81),
oS 81 6 15]
def k84_r4 : List COp := [o 16 (pF 81 6 0),
o 17 (pL 9 16),
o 18 (pM 1),
o 19 (pB .neq 9 17 18 9)]
def k84_r5 : CC := (.hreg [
(false, o 20 (pM 4)),
(false, o 21 (pL 81 6)),
(true, o 22 (.buildSlice 46 1 #[(0, .tmp 21)])),
(true, o 23 (pQ 20 22 46 46)),
(false, o 4 (pA 23))])
def k84_r6 : List COp := [o 24 (pK .add 3 12 .i64 1 3),
o 12 (pM 24)]
def k84_l0 : CC := (.seq (.region k84_r2) (.seq (.cond (.tmp 13) .skip (.exit 0)) (.seq (.block 1 (.seq (.region k84_r3) (.seq (.region k84_r4) (.cond (.tmp 19) k84_r5 .skip)))) (.region k84_r6))))
def k84_r7 : List COp := [o 25 (pM 0),
o 26 (pM 4),
o 27 (.nilCheck (.tmp 25)),
o 28 (pF 48 27 0),
oS 46 28 26]
def k84 : CC := (.seq (.region k84_r0) (.seq (.seq (.region k84_r1) (.block 0 (.loop k84_l0))) (.region k84_r7)))
def k84_p := PLift.up <| aI (vE k84.eq_1) <| aI (oE k84_r0.eq_1) <| aI (oE k84_r1.eq_1) <| aI (oE k84_r2.eq_1) <| aI (oE k84_r3.eq_1) <| aI (oE k84_r4.eq_1) <| aI (vE k84_r5.eq_1) <| aI (oE k84_r6.eq_1) <| aI (vE k84_l0.eq_1) (oE k84_r7.eq_1)
theorem k84_a : type_of% k84_p.down := k84_p.down
theorem k84_is : FnIs Tryz.prog prims 84 29 [] k84 := FnIs.of_fn Tryz.func84 (by kernel_rfl) rfl
def k85_r0 : List COp := [o 2 (.assign (.const (.slice .none 0 0)))]
def k85_r1 : List COp := [o 3 (pM 0),
o 4 (.convert 108 5 (.tmp 3)),
o 5 (pM 0),
o 6 (pK .shr 108 5 .u64 8 110),
o 7 (.convert 108 5 (.tmp 6)),
o 8 (pM 0),
o 9 (pK .shr 108 8 .u64 16 110),
o 10 (.convert 108 5 (.tmp 9)),
o 11 (pM 0),
o 12 (pK .shr 108 11 .u64 24 110),
o 13 (.convert 108 5 (.tmp 12)),
o 14 (.buildSlice 30 4 #[(0, .tmp 4), (1, .tmp 7), (2, .tmp 10), (3, .tmp 13)]),
o 2 (pA 14)]
def k85 : CC := (.seq (.region k85_r0) (.seq (.region k85_r1) .ret))
def k85_p := PLift.up <| aI (vE k85.eq_1) <| aI (oE k85_r0.eq_1) (oE k85_r1.eq_1)
theorem k85_a : type_of% k85_p.down := k85_p.down
theorem k85_is : FnIs Tryz.prog prims 85 15 [ResultVar.tmp 2] k85 := FnIs.of_fn Tryz.func85 (by kernel_rfl) rfl
def k86_r0 : List COp := [o 2 (pZ .u32 0)]
def k86_r1 : List COp := [o 3 (pM 0),
o 4 (.call { callee := .value (.func 99), args := #[.const (.int .u32 0), .tmp 3], argTypes := #[108, 30] }),
o 2 (pA 4)]
def k86 : CC := (.seq (.region k86_r0) (.seq (.region k86_r1) .ret))
def k86_p := PLift.up <| aI (vE k86.eq_1) <| aI (oE k86_r0.eq_1) (oE k86_r1.eq_1)
theorem k86_a : type_of% k86_p.down := k86_p.down
theorem k86_is : FnIs Tryz.prog prims 86 5 [ResultVar.tmp 2] k86 := FnIs.of_fn Tryz.func86 (by kernel_rfl) rfl
def k87_r0 : List COp := [o 3 (pZ .u32 0)]
def k87_r1 : List COp := [oX 4 (pL 30 1),
oX 5 (pM 0),
oX 6 (pI 30 4 5),
oX 7 (pL 5 6),
oX 8 (.convert 5 108 (.tmp 7)),
oX 9 (pL 30 1),
oX 10 (pM 0),
oX 11 (pK .add 3 10 .i64 1 3),
oX 12 (pI 30 9 11),
oX 13 (pL 5 12),
oX 14 (.convert 5 108 (.tmp 13)),
oX 15 (pK .shl 108 14 .u64 8 110),
oX 16 (pB .or 108 8 15 108),
oX 17 (pL 30 1),
oX 18 (pM 0),
oX 19 (pK .add 3 18 .i64 2 3),
oX 20 (pI 30 17 19),
oX 21 (pL 5 20),
oX 22 (.convert 5 108 (.tmp 21)),
oX 23 (pK .shl 108 22 .u64 16 110),
oX 24 (pB .or 108 16 23 108),
oX 25 (pL 30 1),
o 26 (pM 0),
o 27 (pK .add 3 26 .i64 3 3),
o 28 (pI 30 25 27),
o 29 (pL 5 28),
o 30 (.convert 5 108 (.tmp 29)),
o 31 (pK .shl 108 30 .u64 24 110),
o 32 (pB .or 108 24 31 108),
o 3 (pA 32)]
def k87 : CC := (.seq (.region k87_r0) (.seq (.region k87_r1) .ret))
def k87_p := PLift.up <| aI (vE k87.eq_1) <| aI (oE k87_r0.eq_1) (oE k87_r1.eq_1)
theorem k87_a : type_of% k87_p.down := k87_p.down
theorem k87_is : FnIs Tryz.prog prims 87 33 [ResultVar.tmp 3] k87 := FnIs.of_fn Tryz.func87 (by kernel_rfl) rfl
def k95_r0 : List COp := [o 4 (.assign (.const (.slice .none 0 0)))]
def k95_r1 : List COp := [o 5 (pM 1),
o 6 (pK .lss 3 5 .i64 0 3)]
def k95_r2 : List COp := [o 7 (.makeInterface 9 (.const (.string { data := #[99, 97, 110, 110, 111, 116, 32, 98, 101, 32, 110, 101, 103, 97, 116, 105, 118, 101] }))),
⟨none, .panic (.tmp 7), none, true⟩]
def k95_r3 : CC := (.hreg [
(false, o 8 (pM 1)),
(false, o 9 (pM 0)),
(true, o 10 (.call { callee := .builtin .cap, args := #[.tmp 9], argTypes := #[30] })),
(false, o 11 (pM 0)),
(true, o 12 (pN 11 30)),
(false, o 13 (pB .sub 3 10 12 3)),
(false, o 14 (pB .sub 3 8 13 3)),
(false, o 1 (pA 14))])
def k95_r4 : List COp := [o 15 (pM 1),
o 16 (pK .gtr 3 15 .i64 0 3)]
def k95_r5 : CC := (.hreg [
(false, o 17 (pM 0)),
(false, o 18 (pM 0)),
(true, o 19 (.call { callee := .builtin .cap, args := #[.tmp 18], argTypes := #[30] })),
(false, o 20 (.slice 30 (.tmp 17) .none (some (.tmp 19)) .none)),
(false, o 21 (pM 1)),
(true, o 22 (pQ 20 21 30 3)),
(false, o 23 (pM 0)),
(true, o 24 (pN 23 30)),
(false, o 25 (.slice 30 (.tmp 22) .none (some (.tmp 24)) .none)),
(false, o 0 (pA 25))])
def k95_r6 : List COp := [o 26 (pM 0),
o 4 (pA 26)]
def k95 : CC := (.seq (.region k95_r0) (.seq (.seq (.region k95_r1) (.cond (.tmp 6) (.region k95_r2) .skip)) (.seq (.seq k95_r3 (.seq (.region k95_r4) (.cond (.tmp 16) k95_r5 .skip))) (.seq (.region k95_r6) .ret))))
def k95_p := PLift.up <| aI (vE k95.eq_1) <| aI (oE k95_r0.eq_1) <| aI (oE k95_r1.eq_1) <| aI (oE k95_r2.eq_1) <| aI (vE k95_r3.eq_1) <| aI (oE k95_r4.eq_1) <| aI (vE k95_r5.eq_1) (oE k95_r6.eq_1)
theorem k95_a : type_of% k95_p.down := k95_p.down
theorem k95_is : FnIs Tryz.prog prims 95 27 [ResultVar.tmp 4] k95 := FnIs.of_fn Tryz.func95 (by kernel_rfl) rfl
def k99_r0 : List COp := [o 4 (pZ .u32 0)]
def k99_r1 : List COp := [o 9 (pM 0),
o 10 (.unOp .xor 108 (.tmp 9)),
o 5 (pA 10)]
def k99_r2 : List COp := [o 6 (pZ .i64 0)]
def k99_r3 : List COp := [o 11 (pM 6),
o 12 (pM 1),
o 13 (pN 12 30),
o 14 (pB .lss 3 11 13 3)]
def k99_r5 : List COp := [o 17 (pM 5),
o 18 (pM 1),
o 19 (pM 6),
o 20 (pI 30 18 19),
o 21 (pL 5 20),
o 22 (.convert 5 108 (.tmp 21)),
o 23 (pB .xor 108 17 22 108),
o 5 (pA 23)]
def k99_r6 : List COp := [o 7 (pZ .i64 0)]
def k99_r7 : List COp := [o 24 (pM 7),
o 25 (pK .lss 3 24 .i64 8 3)]
def k99_r9 : List COp := [o 28 (pM 5),
o 29 (pK .and 108 28 .u32 1 108),
o 8 (pA 29)]
def k99_r10 : List COp := [o 30 (pM 5),
o 31 (pK .shr 108 30 .u64 1 110),
o 5 (pA 31)]
def k99_r11 : List COp := [o 32 (pM 8),
o 33 (pK .eql 108 32 .u32 1 108)]
def k99_r12 : List COp := [o 34 (pM 5),
o 35 (pK .xor 108 34 .u32 3988292384 108),
o 5 (pA 35)]
def k99_r8 : List COp := [o 26 (pM 7),
o 27 (pK .add 3 26 .i64 1 3),
o 7 (pA 27)]
def k99_l1 : CC := (.seq (.seq (.region k99_r7) (.cond (.tmp 25) .skip (.exit 2))) (.seq (.block 3 (.seq (.region k99_r9) (.seq (.region k99_r10) (.seq (.region k99_r11) (.cond (.tmp 33) (.region k99_r12) .skip))))) (.region k99_r8)))
def k99_r4 : List COp := [o 15 (pM 6),
o 16 (pK .add 3 15 .i64 1 3),
o 6 (pA 16)]
def k99_l0 : CC := (.seq (.seq (.region k99_r3) (.cond (.tmp 14) .skip (.exit 0))) (.seq (.block 1 (.seq (.region k99_r5) (.seq (.region k99_r6) (.block 2 (.loop k99_l1))))) (.region k99_r4)))
def k99_r13 : List COp := [o 36 (pM 5),
o 37 (.unOp .xor 108 (.tmp 36)),
o 4 (pA 37)]
def k99 : CC := (.seq (.region k99_r0) (.seq (.region k99_r1) (.seq (.seq (.region k99_r2) (.block 0 (.loop k99_l0))) (.seq (.region k99_r13) .ret))))
def k99_p := PLift.up <| aI (vE k99.eq_1) <| aI (oE k99_r0.eq_1) <| aI (oE k99_r1.eq_1) <| aI (oE k99_r2.eq_1) <| aI (oE k99_r3.eq_1) <| aI (oE k99_r5.eq_1) <| aI (oE k99_r6.eq_1) <| aI (oE k99_r7.eq_1) <| aI (oE k99_r9.eq_1) <| aI (oE k99_r10.eq_1) <| aI (oE k99_r11.eq_1) <| aI (oE k99_r12.eq_1) <| aI (oE k99_r8.eq_1) <| aI (vE k99_l1.eq_1) <| aI (oE k99_r4.eq_1) <| aI (vE k99_l0.eq_1) (oE k99_r13.eq_1)
theorem k99_a : type_of% k99_p.down := k99_p.down
theorem k99_is : FnIs Tryz.prog prims 99 38 [ResultVar.tmp 4] k99 := FnIs.of_fn Tryz.func99 (by kernel_rfl) rfl
theorem noSB : isSB Tryz.prog 3 = false ∧ isSB Tryz.prog 32 = false ∧ isSB Tryz.prog 33 = false ∧ isSB Tryz.prog 37 = false ∧ isSB Tryz.prog 53 = false ∧ isSB Tryz.prog 54 = false ∧ isSB Tryz.prog 56 = false ∧ isSB Tryz.prog 60 = false ∧ isSB Tryz.prog 81 = false ∧ isSB Tryz.prog 121 = false ∧ isMapT Tryz.prog 30 = false ∧ isMapT Tryz.prog 48 = false ∧ isMapT Tryz.prog 68 = false ∧ isMapT Tryz.prog 72 = true ∧ isMapT Tryz.prog 74 = false ∧ isMapT Tryz.prog 77 = false ∧ isMapT Tryz.prog 81 = false ∧ isMapT Tryz.prog 93 = false ∧ True := ⟨by kernel_rfl, by kernel_rfl, by kernel_rfl, by kernel_rfl, by kernel_rfl, by kernel_rfl, by kernel_rfl, by kernel_rfl, by kernel_rfl, by kernel_rfl, by kernel_rfl, by kernel_rfl, by kernel_rfl, by kernel_rfl, by kernel_rfl, by kernel_rfl, by kernel_rfl, by kernel_rfl, trivial⟩
end Go.Proofs.YtnegdinonfjdfaaGreatDoor.Q
set_option linter.unusedVariables false
set_option linter.unusedSimpArgs false
namespace Go.Proofs.YtnegdinonfjdfaaGreatDoor.Q
open Go Go.RowKit Go.Proofs
theorem T22 : Tryz.prog.underlying 30 = some (.slice 5) := by kernel_rfl
theorem T5 : Tryz.prog.underlying 5 = some (.int .u8) := by kernel_rfl
theorem T3 : Tryz.prog.underlying 3 = some (.int .i64) := by kernel_rfl
theorem T4 : Tryz.prog.underlying 4 = some .bool := by kernel_rfl
theorem S5 : sizeT Tryz.prog 5 = some 1 := by kernel_rfl
theorem G5 : isAggT Tryz.prog 5 = some false := by kernel_rfl
theorem C5 : Tryz.prog.cellsOf 5 = 1 := by kernel_rfl
theorem G3 : isAggT Tryz.prog 3 = some false := by kernel_rfl
theorem G4 : isAggT Tryz.prog 4 = some false := by kernel_rfl
theorem S3 : sizeT Tryz.prog 3 = some 1 := by kernel_rfl
theorem S4 : sizeT Tryz.prog 4 = some 1 := by kernel_rfl
theorem BT : ByteT Tryz.prog 30 5 := ⟨T22, T5, S5, by kernel_rfl, by kernel_rfl, G5, C5⟩
def isTrue : Option (VRes × St) → Bool
  | some (.ret (.bool true), _) => true
  | _ => false
theorem isTrue_eq {o : Option (VRes × St)} (h : isTrue o = true) : ∃ σ, o = some (.ret (.bool true), σ) := by
  unfold isTrue at h
  split at h
  · exact ⟨_, rfl⟩
  · cases h
theorem wrap_nat {n : Nat} (h : n < 2 ^ 63) : IntKind.i64.wrap (n : Int) = n := wrap_i64 (by omega) (by omega)
end Go.Proofs.YtnegdinonfjdfaaGreatDoor.Q
namespace Go.Proofs.YtnegdinonfjdfaaGreatDoor.Q
structure Fl where
  name : List UInt8
  safe : List UInt8
  wait : List UInt8
  deriving DecidableEq, Inhabited
structure Dk where
  files : List Fl
  room : Int
  on : Bool
  writes : Nat
  armed : Nat
  keep : Int
abbrev Fl.len (f : Fl) : Nat := f.safe.length + f.wait.length
def sizeD (l : List Fl) : Nat := (l.map Fl.len).sum
def namedD (n : List UInt8) : Bool := decide (1 ≤ n.length ∧ n.length ≤ 16)
def readyD (d : Dk) (n : List UInt8) : Nat := if namedD n = false then 1 else if d.on = false then 20 else 0
def getF (l : List Fl) (n : List UInt8) : Option Fl := l.find? fun f => decide (f.name = n)
def putF (x : Fl) (l : List Fl) : List Fl := (l.filter fun f => decide (f.name < x.name)) ++ x :: (l.filter fun f => decide (x.name < f.name))
def dropF (n : List UInt8) (l : List Fl) : List Fl := l.filter fun f => decide (f.name ≠ n)
def offF (k : Int) (f : Fl) : Fl := ⟨f.name, f.safe ++ f.wait.take k.toNat, []⟩
def offD (k : Int) (d : Dk) : Dk := if d.on = true then { d with files := d.files.map (offF k), on := false, armed := 0 } else d
def rawD (d : Dk) : Bool × Dk := if d.armed = 0 then (false, { d with writes := d.writes + 1 }) else (decide (d.armed = 1), { d with writes := d.writes + 1, armed := d.armed - 1 })
def appendD (n b : List UInt8) (d : Dk) : Nat × Dk :=
  if readyD d n ≠ 0 then (readyD d n, d) else
  let f := (getF d.files n).getD ⟨n, [], []⟩
  if 1048576 < f.len + b.length then (3, d) else
  if ((getF d.files n).isNone = true ∧ 16 ≤ d.files.length) ∨ d.room < ((sizeD d.files + b.length : Nat) : Int) then (22, d) else
  let d2 := { d with files := putF ⟨n, f.safe, f.wait ++ b⟩ d.files }
  if (rawD d2).1 = true then (20, offD d.keep (rawD d2).2) else (0, (rawD d2).2)
def thereD (d : Dk) (n : List UInt8) : Nat := if readyD d n ≠ 0 then readyD d n else if (getF d.files n).isNone = true then 21 else 0
def syncD (n : List UInt8) (d : Dk) : Nat × Dk :=
  if thereD d n ≠ 0 then (thereD d n, d) else
  if (rawD d).1 = true then (20, offD d.keep (rawD d).2) else
  let f := (getF d.files n).getD default
  (0, { (rawD d).2 with files := putF ⟨n, f.safe ++ f.wait, []⟩ d.files })
def truncD (n : List UInt8) (k : Int) (d : Dk) : Nat × Dk :=
  if thereD d n ≠ 0 then (thereD d n, d) else
  let f := (getF d.files n).getD default
  if k < 0 ∨ (f.len : Int) < k then (3, d) else
  if (rawD d).1 = true then (20, offD d.keep (rawD d).2) else
  (0, { (rawD d).2 with files := putF ⟨n, f.safe.take k.toNat, f.wait.take (k.toNat - f.safe.length)⟩ d.files })
def renameD (a b : List UInt8) (d : Dk) : Nat × Dk :=
  if namedD a = false ∨ namedD b = false then (1, d) else
  if thereD d a ≠ 0 then (thereD d a, d) else
  if (rawD d).1 = true then (20, offD d.keep (rawD d).2) else
  let f := (getF d.files a).getD default
  (0, { (rawD d).2 with files := putF ⟨b, f.safe, f.wait⟩ (dropF a d.files) })
def removeD (n : List UInt8) (d : Dk) : Nat × Dk :=
  if thereD d n ≠ 0 then (thereD d n, d) else
  if (rawD d).1 = true then (20, offD d.keep (rawD d).2) else
  (0, { (rawD d).2 with files := dropF n d.files })
def readD (n : List UInt8) (d : Dk) : Nat × List UInt8 :=
  if thereD d n ≠ 0 then (thereD d n, []) else
  let f := (getF d.files n).getD default
  (0, f.safe ++ f.wait)
def namesD (d : Dk) : List (List UInt8) := if d.on = true then d.files.map Fl.name else []
def armD (n k : Int) (d : Dk) : Dk := { d with armed := n.toNat, keep := k }
structure Dk.Ok (d : Dk) : Prop where
  rise : d.files.Pairwise fun f g => f.name < g.name
  nm : ∀ f ∈ d.files, namedD f.name = true
  few : d.files.length ≤ 16
  sm : ∀ f ∈ d.files, f.len ≤ 1048576
  arm : (d.armed : Int) ≤ 9223372036854775807
  rm : InI64 d.room
  kp : InI64 d.keep
theorem lt_irrefl' (a : List UInt8) : ¬ a < a := List.lt_irrefl a
theorem lt_trans' {a b c : List UInt8} (h : a < b) (h2 : b < c) : a < c := List.lt_trans h h2
theorem lt_or {a b : List UInt8} (h : a ≠ b) : a < b ∨ b < a := by
  rcases Classical.em (a < b) with h1 | h1
  · exact .inl h1
  · rcases Classical.em (b < a) with h2 | h2
    · exact .inr h2
    · exact absurd (List.le_antisymm h2 h1) h
theorem Dk.Ok.nodup {d : Dk} (h : d.Ok) : (d.files.map Fl.name).Nodup := by
  rw [List.nodup_iff_pairwise_ne, List.pairwise_map]
  exact h.rise.imp fun {f g} hlt (he : f.name = g.name) => lt_irrefl' f.name (by rw [← he] at hlt; exact hlt)
theorem mem_putF {x f : Fl} {l : List Fl} : f ∈ putF x l ↔ f = x ∨ (f ∈ l ∧ f.name ≠ x.name) := by
  unfold putF
  simp only [List.mem_append, List.mem_cons, List.mem_filter, decide_eq_true_eq]
  constructor
  · rintro (⟨h1, h2⟩ | rfl | ⟨h1, h2⟩)
    · exact .inr ⟨h1, fun e => lt_irrefl' x.name (by rw [e] at h2; exact h2)⟩
    · exact .inl rfl
    · exact .inr ⟨h1, fun e => lt_irrefl' x.name (by rw [e] at h2; exact h2)⟩
  · rintro (rfl | ⟨h1, h2⟩)
    · exact .inr (.inl rfl)
    · rcases lt_or h2 with h | h
      · exact .inl ⟨h1, h⟩
      · exact .inr (.inr ⟨h1, h⟩)
theorem mem_dropF {n : List UInt8} {f : Fl} {l : List Fl} : f ∈ dropF n l ↔ f ∈ l ∧ f.name ≠ n := by
  simp [dropF]
theorem rise_putF {x : Fl} {l : List Fl} (h : l.Pairwise fun f g => f.name < g.name) : (putF x l).Pairwise fun f g => f.name < g.name := by
  unfold putF
  rw [List.pairwise_append, List.pairwise_cons]
  refine ⟨h.filter _, ⟨fun g hg => ?_, h.filter _⟩, fun f hf g hg => ?_⟩
  · simpa using (List.mem_filter.1 hg).2
  · have hf2 : f.name < x.name := by simpa using (List.mem_filter.1 hf).2
    rcases List.mem_cons.1 hg with rfl | hg
    · exact hf2
    · exact lt_trans' hf2 (by simpa using (List.mem_filter.1 hg).2)
theorem rise_dropF {n : List UInt8} {l : List Fl} (h : l.Pairwise fun f g => f.name < g.name) : (dropF n l).Pairwise fun f g => f.name < g.name := h.filter _
theorem getF_some {l : List Fl} {n : List UInt8} {f : Fl} (h : getF l n = some f) : f ∈ l ∧ f.name = n := by
  unfold getF at h
  exact ⟨List.mem_of_find?_eq_some h, by simpa using List.find?_some h⟩
theorem getF_none {l : List Fl} {n : List UInt8} (h : getF l n = none) : ∀ f ∈ l, f.name ≠ n := by
  unfold getF at h
  rw [List.find?_eq_none] at h
  intro f hf e
  exact h f hf (by simp [e])
theorem mem_name {l : List Fl} (hn : (l.map Fl.name).Nodup) {f g : Fl} (hf : f ∈ l) (hg : g ∈ l) (h : f.name = g.name) : f = g := by
  induction l with
  | nil => cases hf
  | cons a l ih =>
    simp only [List.map_cons, List.nodup_cons] at hn
    rcases List.mem_cons.1 hf with rfl | hf' <;> rcases List.mem_cons.1 hg with rfl | hg'
    · rfl
    · exact absurd (by rw [h]; exact List.mem_map_of_mem hg') hn.1
    · exact absurd (by rw [← h]; exact List.mem_map_of_mem hf') hn.1
    · exact ih hn.2 hf' hg'
theorem getF_mem {l : List Fl} (hn : (l.map Fl.name).Nodup) {f : Fl} (hf : f ∈ l) : getF l f.name = some f := by
  cases h : getF l f.name with
  | none => exact absurd rfl (getF_none h f hf)
  | some g =>
    obtain ⟨h1, h2⟩ := getF_some h
    rw [mem_name hn h1 hf h2]
theorem fl_nodup {l : List Fl} (hn : (l.map Fl.name).Nodup) : l.Nodup := by
  rw [List.nodup_iff_pairwise_ne] at hn ⊢
  rw [List.pairwise_map] at hn
  exact hn.imp fun {f g} h e => h (by rw [e])
theorem fl_perm {l m : List Fl} (hl : (l.map Fl.name).Nodup) (hm : (m.map Fl.name).Nodup) (h : ∀ f, f ∈ l ↔ f ∈ m) : l.Perm m := (List.perm_ext_iff_of_nodup (fl_nodup hl) (fl_nodup hm)).2 h
theorem len_putF {x : Fl} {l : List Fl} (hr : l.Pairwise fun f g => f.name < g.name) : (putF x l).length = if (getF l x.name).isNone = true then l.length + 1 else l.length := by
  have hn : (l.map Fl.name).Nodup := by
    rw [List.nodup_iff_pairwise_ne, List.pairwise_map]
    exact hr.imp fun {f g} hlt (he : f.name = g.name) => lt_irrefl' f.name (by rw [← he] at hlt; exact hlt)
  have hn2 : ((putF x l).map Fl.name).Nodup := by
    rw [List.nodup_iff_pairwise_ne, List.pairwise_map]
    exact (rise_putF hr).imp fun {f g} hlt (he : f.name = g.name) => lt_irrefl' f.name (by rw [← he] at hlt; exact hlt)
  have hp : (putF x l).Perm (x :: dropF x.name l) := by
    refine fl_perm hn2 ?_ fun f => ?_
    · simp only [List.map_cons, List.nodup_cons]
      refine ⟨fun h => ?_, ?_⟩
      · obtain ⟨g, hg, he⟩ := List.mem_map.1 h
        exact (mem_dropF.1 hg).2 he
      · exact List.Sublist.nodup ((List.filter_sublist).map _) hn
    · rw [mem_putF, List.mem_cons, mem_dropF]
  rw [hp.length_eq, List.length_cons]
  cases h : getF l x.name with
  | none =>
    have : dropF x.name l = l := by
      unfold dropF
      rw [List.filter_eq_self]
      intro f hf
      simpa using getF_none h f hf
    simp [this]
  | some f =>
    obtain ⟨h1, h2⟩ := getF_some h
    have hq : l.Perm (f :: dropF x.name l) := by
      refine fl_perm hn ?_ fun g => ?_
      · simp only [List.map_cons, List.nodup_cons]
        refine ⟨fun h => ?_, List.Sublist.nodup ((List.filter_sublist).map _) hn⟩
        obtain ⟨g, hg, he⟩ := List.mem_map.1 h
        exact (mem_dropF.1 hg).2 (he.trans h2)
      · rw [List.mem_cons, mem_dropF]
        constructor
        · intro hg
          by_cases e : g.name = x.name
          · exact .inl (mem_name hn hg h1 (e.trans h2.symm))
          · exact .inr ⟨hg, e⟩
        · rintro (rfl | h3)
          · exact h1
          · exact h3.1
    have := hq.length_eq
    simp at this ⊢
    omega
end Go.Proofs.YtnegdinonfjdfaaGreatDoor.Q
namespace Go.Proofs.YtnegdinonfjdfaaGreatDoor.Q
open Go Go.RowKit Go.Proofs
structure KS (S : List Nat) (σ σ' : St) : Prop where
  ko : ∀ r o, r ∉ S → σ.objs[r]? = some o → σ'.objs[r]? = some o
  le : σ.objs.length ≤ σ'.objs.length
  tl : σ.toks.length ≤ σ'.toks.length
  tk : ∀ k, tokLive σ.toks k = true → tokLive σ'.toks k = true
theorem KS.refl (S : List Nat) (σ : St) : KS S σ σ := ⟨fun _ _ _ h => h, Nat.le_refl _, Nat.le_refl _, fun _ h => h⟩
theorem KS.trans {S S1 : List Nat} {σ σ1 σ2 : St} (h : KS S σ σ1) (h2 : KS S1 σ1 σ2) (hs : ∀ x ∈ S1, x ∈ S ∨ σ.objs.length ≤ x) : KS S σ σ2 :=
  ⟨fun r o hr ho => h2.ko r o (fun hx => by
    have := (gA0.1 ho).1
    rcases hs r hx with h | h
    · exact hr h
    · omega) (h.ko r o hr ho), Nat.le_trans h.le h2.le, Nat.le_trans h.tl h2.tl, fun k hk => h2.tk k (h.tk k hk)⟩
theorem KS.trans' {S : List Nat} {σ σ1 σ2 : St} (h : KS S σ σ1) (h2 : KS S σ1 σ2) : KS S σ σ2 := h.trans h2 fun _ hx => .inl hx
theorem KS.mono {S S1 : List Nat} {σ σ1 : St} (h : KS S1 σ σ1) (hs : ∀ x ∈ S1, x ∈ S ∨ σ.objs.length ≤ x) : KS S σ σ1 := (KS.refl S σ).trans h hs
theorem KS.push (S : List Nat) (σ : St) (o : Ob) : KS S σ ⟨σ.objs ++ [o], σ.toks⟩ := ⟨fun r p _ hp => by
  simp only; rw [gA2 (gA0.1 hp).1]; exact hp, by simp, Nat.le_refl _, fun _ h => h⟩
theorem KS.set {S : List Nat} {σ : St} {k : Nat} (hk : k ∈ S ∨ σ.objs.length ≤ k) (o : Ob) : KS S σ ⟨σ.objs.set k o, σ.toks⟩ := ⟨fun r p hr hp => by
  have h2 := (gA0.1 hp).1
  simp only
  rw [gA3]
  · exact hp
  · rintro rfl
    rcases hk with hk | hk
    · exact hr hk
    · omega, by simp, Nat.le_refl _, fun _ h => h⟩
theorem Keep.ks {σ σ' : St} (h : Keep σ σ') (S : List Nat) : KS S σ σ' := by
  refine ⟨fun r o _ ho => h.1 r o ho, ?_, h.2.1, h.2.2⟩
  rcases Nat.eq_zero_or_pos σ.objs.length with h0 | h0
  · omega
  · have := (gA0.1 (h.1 (σ.objs.length - 1) _ (List.getElem?_eq_getElem (by omega)))).1
    omega
theorem KS.keep {σ σ' : St} (h : KS [] σ σ') : Keep σ σ' := ⟨fun r o ho => h.ko r o (by simp) ho, h.tl, h.tk⟩
abbrev Ent := Fl × FO
def fent (p : Ent) : V × V := (.str p.1.name, .optr p.2.rf 0)
structure FAt (objs : List Ob) (p : Ent) : Prop where
  ob : objs[p.2.rf]? = some (.cells [p.2.s, p.2.w])
  s : rowOf objs p.2.s = some (p.2.rs, p.1.safe.map byteV)
  w : rowOf objs p.2.w = some (p.2.rw, p.1.wait.map byteV)
  cs : p.2.cs = p.1.safe.map byteV
  ds : p.2.ds = p.1.wait.map byteV
def dcells (rm : Nat) (d : Dk) : List V := [.omap rm, .int .i64 d.room, .bool (!d.on), .int .i64 (d.writes : Nat), .int .i64 (d.armed : Nat), .int .i64 d.keep]
def foot (r rm : Nat) (fs : List Ent) : List Nat := r :: rm :: fs.flatMap fun p => p.2.ids
structure DiskAt (σ : St) (r : Nat) (d : Dk) (rm : Nat) (fs : List Ent) : Prop where
  hd : σ.objs[r]? = some (.cells (dcells rm d))
  hm : σ.objs[rm]? = some (.mp (fs.map fent))
  hf : ∀ p ∈ fs, FAt σ.objs p
  nd : (foot r rm fs).Nodup
  pm : (fs.map (·.1)).Perm d.files
theorem FAt.file {objs : List Ob} {p : Ent} (h : FAt objs p) : fileOf objs (fent p) = some p.2 := by
  have h1 := h.s
  have h2 := h.w
  rw [← h.cs] at h1
  rw [← h.ds] at h2
  simp only [fent, fileOf, h.ob, h1, h2]
theorem files_all {objs : List Ob} : ∀ {fs : List Ent}, (∀ p ∈ fs, FAt objs p) → filesOf objs (fs.map fent) = some (fs.map (·.2))
  | [], _ => rfl
  | p :: fs, h => by
    simp only [List.map_cons, filesOf, (h p (List.mem_cons_self ..)).file, files_all fun q hq => h q (List.mem_cons_of_mem _ hq)]
theorem FAt.frame {objs objs2 : List Ob} {p : Ent} (h : FAt objs p) (hk : ∀ x ∈ p.2.ids, ∀ o, objs[x]? = some o → objs2[x]? = some o) : FAt objs2 p := by
  refine ⟨hk _ (by simp [FO.ids]) _ h.ob, ?_, ?_, h.cs, h.ds⟩
  · rcases rowOf_spec h.s with ⟨e1, e2, e3⟩ | ⟨r, full, e1, e2, hr, hl, hc⟩
    · rw [← h.s]; rw [e1]; rfl
    · exact rowOf_eq h.s fun q hq => by
        rw [e2] at hq; injection hq with hq; subst hq
        rw [hr]; exact hk _ (by simp [FO.ids, e2]) _ hr
  · rcases rowOf_spec h.w with ⟨e1, e2, e3⟩ | ⟨r, full, e1, e2, hr, hl, hc⟩
    · rw [← h.w]; rw [e1]; rfl
    · exact rowOf_eq h.w fun q hq => by
        rw [e2] at hq; injection hq with hq; subst hq
        rw [hr]; exact hk _ (by simp [FO.ids, e2]) _ hr
theorem DiskAt.keep {σ σ' : St} {r rm : Nat} {d : Dk} {fs : List Ent} {S : List Nat} (h : DiskAt σ r d rm fs) (hk : KS S σ σ') (hs : ∀ x ∈ foot r rm fs, x ∉ S) : DiskAt σ' r d rm fs := by
  refine ⟨hk.ko _ _ (hs _ (by simp [foot])) h.hd, hk.ko _ _ (hs _ (by simp [foot])) h.hm, fun p hp => (h.hf p hp).frame fun x hx o ho => hk.ko _ _ (hs _ ?_) ho, h.nd, h.pm⟩
  simp only [foot, List.mem_cons, List.mem_flatMap]
  exact .inr (.inr ⟨p, hp, hx⟩)
theorem DiskAt.lt {σ : St} {r rm : Nat} {d : Dk} {fs : List Ent} (h : DiskAt σ r d rm fs) : ∀ x ∈ foot r rm fs, x < σ.objs.length := by
  intro x hx
  simp only [foot, List.mem_cons, List.mem_flatMap] at hx
  rcases hx with rfl | rfl | ⟨p, hp, hx⟩
  · exact (gA0.1 h.hd).1
  · exact (gA0.1 h.hm).1
  · obtain ⟨cs, hc⟩ := ids_lt (h.hf p hp).file hx
    exact (gA0.1 hc).1
theorem DiskAt.head {σ : St} {r rm : Nat} {d d2 : Dk} {fs : List Ent} (h : DiskAt σ r d rm fs) (hf : d2.files = d.files) {σ' : St} (hs : σ' = ⟨σ.objs.set r (.cells (dcells rm d2)), σ.toks⟩) : DiskAt σ' r d2 rm fs ∧ KS (foot r rm fs) σ σ' := by
  subst hs
  have hr := (gA0.1 h.hd).1
  have hn := h.nd
  unfold foot at hn
  rw [List.nodup_cons, List.nodup_cons] at hn
  have hne : ∀ x, x ∈ rm :: fs.flatMap (fun p => p.2.ids) → r ≠ x := fun x hx e => hn.1 (by rw [e]; exact hx)
  refine ⟨⟨by simp only; rw [gA5 hr], ?_, fun p hp => (h.hf p hp).frame fun x hx o ho => ?_, h.nd, by rw [hf]; exact h.pm⟩, KS.set (.inl (by simp [foot])) _⟩
  · simp only
    rw [gA3 (hne _ (List.mem_cons_self ..))]; exact h.hm
  · simp only
    rw [gA3 (hne _ (List.mem_cons_of_mem _ (List.mem_flatMap.2 ⟨p, hp, hx⟩)))]; exact ho
theorem T9 : Tryz.prog.underlying 9 = some .string := by kernel_rfl
theorem G9 : isAggT Tryz.prog 9 = some false := by kernel_rfl
theorem zeroF : zeroT Tryz.prog 75 = some .nilp := by kernel_rfl
theorem keyD : keyDesc Tryz.prog 9 = some .string := by kernel_rfl
theorem ofNilP : ofVal (.pointer none) = some .nilp := by kernel_rfl
theorem ofInt (k : IntKind) (n : Int) : ofVal (.int k n) = some (.int k n) := rfl
theorem find_no {fs : List Ent} {n : List UInt8} (h : ∀ p ∈ fs, p.1.name ≠ n) (i : Nat) : vfind .string (.str n) (fs.map fent) i = some none := by
  induction fs generalizing i with
  | nil => rfl
  | cons p fs ih =>
    have h1 := h p (List.mem_cons_self ..)
    have : keyEq .string (.str n) (.str p.1.name) = some false := by simp only [keyEq]; rw [decide_eq_false (fun e => h1 e.symm)]
    simp only [List.map_cons, vfind, fent, this]
    exact ih (fun q hq => h q (List.mem_cons_of_mem _ hq)) _
theorem find_yes {a b : List Ent} {p : Ent} (h : ∀ q ∈ a, q.1.name ≠ p.1.name) (i : Nat) : vfind .string (.str p.1.name) ((a ++ p :: b).map fent) i = some (some (i + a.length, .optr p.2.rf 0)) := by
  induction a generalizing i with
  | nil => simp [vfind, fent, keyEq]
  | cons q a ih =>
    have h1 := h q (List.mem_cons_self ..)
    have : keyEq .string (.str p.1.name) (.str q.1.name) = some false := by simp only [keyEq]; rw [decide_eq_false (fun e => h1 e.symm)]
    simp only [List.cons_append, List.map_cons, vfind, fent, this]
    have := ih (fun r hr => h r (List.mem_cons_of_mem _ hr)) (i + 1)
    rw [show i + (q :: a).length = i + 1 + a.length by rw [List.length_cons]; omega]
    exact this
structure Has (d : Dk) (fs a b : List Ent) (p : Ent) (n : List UInt8) : Prop where
  e : fs = a ++ p :: b
  nm : p.1.name = n
  g : getF d.files n = some p.1
  a : ∀ q ∈ a, q.1.name ≠ n
  b : ∀ q ∈ b, q.1.name ≠ n
theorem DiskAt.names {σ : St} {r rm : Nat} {d : Dk} {fs : List Ent} (h : DiskAt σ r d rm fs) (hok : d.Ok) : (fs.map fun p => p.1.name).Nodup := by
  have h1 := (h.pm.map Fl.name).nodup_iff.2 hok.nodup
  rwa [List.map_map] at h1
theorem DiskAt.get_no {σ : St} {r rm : Nat} {d : Dk} {fs : List Ent} (h : DiskAt σ r d rm fs) {n : List UInt8} (hg : getF d.files n = none) : ∀ p ∈ fs, p.1.name ≠ n := fun p hp =>
  getF_none hg _ (h.pm.mem_iff.1 (List.mem_map_of_mem hp))
theorem DiskAt.get_yes {σ : St} {r rm : Nat} {d : Dk} {fs : List Ent} (h : DiskAt σ r d rm fs) (hok : d.Ok) {n : List UInt8} {f : Fl} (hg : getF d.files n = some f) : ∃ a p b, Has d fs a b p n := by
  obtain ⟨hf, hn⟩ := getF_some hg
  obtain ⟨p, hp, rfl⟩ := List.mem_map.1 (h.pm.mem_iff.2 hf)
  obtain ⟨a, b, rfl⟩ := List.append_of_mem hp
  have hd := h.names hok
  rw [List.map_append, List.map_cons, List.nodup_append, List.nodup_cons] at hd
  exact ⟨a, p, b, rfl, hn, hg, fun q hq e => hd.2.2 _ (List.mem_map_of_mem hq) _ (List.mem_cons_self ..) (by rw [e, hn]), fun q hq e => hd.2.1.1 (by rw [hn, ← e]; exact List.mem_map_of_mem hq)⟩
theorem DiskAt.look_no {σ : St} {r rm : Nat} {d : Dk} {fs : List Ent} (h : DiskAt σ r d rm fs) {n : List UInt8} (hg : getF d.files n = none) : vlookup Tryz.prog σ.objs 72 (.omap rm) (.str n) false = some .nilp := by
  simp only [vlookup, pTM, h.hm, keyD, zeroF, find_no (h.get_no hg)]
  rfl
theorem DiskAt.look_yes {σ : St} {r rm : Nat} {d : Dk} {fs a b : List Ent} {p : Ent} (h : DiskAt σ r d rm fs) {n : List UInt8} (hg : Has d fs a b p n) : vlookup Tryz.prog σ.objs 72 (.omap rm) (.str n) false = some (.optr p.2.rf 0) := by
  have hm := h.hm
  rw [hg.e] at hm
  have hv := find_yes (a := a) (b := b) (p := p) (by rw [hg.nm]; exact hg.a) 0
  rw [hg.nm] at hv
  simp only [vlookup, pTM, hm, keyD, zeroF, hv]
  rfl
theorem named_does (n : List UInt8) (σ : St) : Does Tryz.prog prims 79 [.str n] σ (.ret (.bool (namedD n))) σ := by
  apply k79_is.ret (by simp)
  have e : vlen Tryz.prog 9 (.str n) = some (.int .i64 (n.length : Nat)) := by simp [vlen, T9]
  simp only [k79_a, WK, vop, evAll, evOpt, evParts, vbuiltin, vun, vextract, Nat.reduceLT, Nat.reduceEqDiff, ↓reduceIte, reduceCtorEq, Nat.reduceAdd, Int.reduceLT, Int.reduceNeg, valloc_std, noSB, vhot, gD0, e]
  by_cases h1 : 1 ≤ n.length
  · have h1' : (1 : Int) ≤ (n.length : Int) := by omega
    simp only [k79_a, WK, vop, evAll, evOpt, evParts, vbuiltin, vun, vextract, Nat.reduceLT, Nat.reduceEqDiff, ↓reduceIte, reduceCtorEq, Nat.reduceAdd, Int.reduceLT, Int.reduceNeg, valloc_std, noSB, vhot, h1', decide_true, gD0, e]
    by_cases h2 : n.length ≤ 16
    · have h2' : (n.length : Int) ≤ 16 := by omega
      simp [k79_a, WK, vop, evAll, evOpt, evParts, vbuiltin, vun, vextract, Nat.reduceLT, Nat.reduceEqDiff, ↓reduceIte, reduceCtorEq, Nat.reduceAdd, Int.reduceLT, Int.reduceNeg, valloc_std, noSB, vhot, h2', namedD, h1, h2]
    · have h2' : ¬ (n.length : Int) ≤ 16 := by omega
      simp [k79_a, WK, vop, evAll, evOpt, evParts, vbuiltin, vun, vextract, Nat.reduceLT, Nat.reduceEqDiff, ↓reduceIte, reduceCtorEq, Nat.reduceAdd, Int.reduceLT, Int.reduceNeg, valloc_std, noSB, vhot, h2', namedD, h1, h2]
  · have h1' : ¬ (1 : Int) ≤ (n.length : Int) := by omega
    simp only [k79_a, WK, vop, evAll, evOpt, evParts, vbuiltin, vun, vextract, Nat.reduceLT, Nat.reduceEqDiff, ↓reduceIte, reduceCtorEq, Nat.reduceAdd, Int.reduceLT, Int.reduceNeg, valloc_std, noSB, vhot, h1', decide_false]
    simp [namedD, h1]
theorem ready_does {σ : St} {r rm : Nat} {d : Dk} {fs : List Ent} (h : DiskAt σ r d rm fs) (n : List UInt8) : Does Tryz.prog prims 37 [.optr r 0, .str n] σ (.ret (.int .i64 (readyD d n : Nat))) σ := by
  apply k37_is.ret (by simp)
  simp only [k37_a, WK, vop, evAll, evOpt, evParts, vbuiltin, vun, vextract, Nat.reduceLT, Nat.reduceEqDiff, ↓reduceIte, reduceCtorEq, Nat.reduceAdd, Int.reduceLT, Int.reduceNeg, valloc_std, noSB, vhot, gD0, gD1, eql_optr pTD]
  refine KD.ret (named_does n σ) ?_
  simp only [k37_a, WK, vop, evAll, evOpt, evParts, vbuiltin, vun, vextract, Nat.reduceLT, Nat.reduceEqDiff, ↓reduceIte, reduceCtorEq, Nat.reduceAdd, Int.reduceLT, Int.reduceNeg, valloc_std, noSB, vhot]
  have hl : vload Tryz.prog σ.objs 4 (.optr r 2) = some (.bool (!d.on)) := by rw [vload_obj h.hd G4]; rfl
  cases hn : namedD n with
  | false => simp [k37_a, WK, vop, evAll, evOpt, evParts, vbuiltin, vun, vextract, Nat.reduceLT, Nat.reduceEqDiff, ↓reduceIte, reduceCtorEq, Nat.reduceAdd, Int.reduceLT, Int.reduceNeg, valloc_std, noSB, vhot, readyD, hn]
  | true =>
    simp only [k37_a, WK, vop, evAll, evOpt, evParts, vbuiltin, vun, vextract, Nat.reduceLT, Nat.reduceEqDiff, ↓reduceIte, reduceCtorEq, Nat.reduceAdd, Int.reduceLT, Int.reduceNeg, valloc_std, noSB, vhot, Bool.not_true, pFA r 2 (by omega), hl]
    cases ho : d.on <;> simp [k37_a, WK, vop, evAll, evOpt, evParts, vbuiltin, vun, vextract, Nat.reduceLT, Nat.reduceEqDiff, ↓reduceIte, reduceCtorEq, Nat.reduceAdd, Int.reduceLT, Int.reduceNeg, valloc_std, noSB, vhot, readyD, hn, ho]
theorem there_no {σ : St} {r rm : Nat} {d : Dk} {fs : List Ent} (h : DiskAt σ r d rm fs) (n : List UInt8) (hz : thereD d n ≠ 0) : Does Tryz.prog prims 46 [.optr r 0, .str n] σ (.ret (.tuple [.nilp, .int .i64 (thereD d n : Nat)])) σ := by
  apply k46_is.ret (by simp)
  simp only [k46_a, WK, vop, evAll, evOpt, evParts, vbuiltin, vun, vextract, Nat.reduceLT, Nat.reduceEqDiff, ↓reduceIte, reduceCtorEq, Nat.reduceAdd, Int.reduceLT, Int.reduceNeg, valloc_std, noSB, vhot, gD0, gD1, ofNilP]
  refine KD.ret (ready_does h n) ?_
  have hl : vload Tryz.prog σ.objs 72 (.optr r 0) = some (.omap rm) := by rw [vload_obj h.hd pGM]; rfl
  simp only [k46_a, WK, vop, evAll, evOpt, evParts, vbuiltin, vun, vextract, Nat.reduceLT, Nat.reduceEqDiff, ↓reduceIte, reduceCtorEq, Nat.reduceAdd, Int.reduceLT, Int.reduceNeg, valloc_std, noSB, vhot]
  unfold thereD at hz ⊢
  by_cases hr : readyD d n = 0
  · have hr' : ((readyD d n : Nat) : Int) = 0 := by omega
    have hr2 : ¬ readyD d n ≠ 0 := fun h => h hr
    rw [if_neg hr2] at hz ⊢
    cases hg : getF d.files n with
    | some f => rw [hg] at hz; exact absurd rfl hz
    | none =>
      simp only [k46_a, WK, vop, evAll, evOpt, evParts, vbuiltin, vun, vextract, Nat.reduceLT, Nat.reduceEqDiff, ↓reduceIte, reduceCtorEq, Nat.reduceAdd, Int.reduceLT, Int.reduceNeg, valloc_std, noSB, vhot, hr', pFA r 0 (by omega), hl, h.look_no hg, eql_nilp pTF, ofNilP]
      simp
  · have hr' : ¬ ((readyD d n : Nat) : Int) = 0 := by omega
    rw [if_pos hr]
    simp only [k46_a, WK, vop, evAll, evOpt, evParts, vbuiltin, vun, vextract, Nat.reduceLT, Nat.reduceEqDiff, ↓reduceIte, reduceCtorEq, Nat.reduceAdd, Int.reduceLT, Int.reduceNeg, valloc_std, noSB, vhot, hr', ofNilP]
theorem there_yes {σ : St} {r rm : Nat} {d : Dk} {fs a b : List Ent} {p : Ent} (h : DiskAt σ r d rm fs) {n : List UInt8} (hr : readyD d n = 0) (hg : Has d fs a b p n) : Does Tryz.prog prims 46 [.optr r 0, .str n] σ (.ret (.tuple [.optr p.2.rf 0, .int .i64 0])) σ := by
  apply k46_is.ret (by simp)
  have hl : vload Tryz.prog σ.objs 72 (.optr r 0) = some (.omap rm) := by rw [vload_obj h.hd pGM]; rfl
  have hr' : ((readyD d n : Nat) : Int) = 0 := by omega
  simp only [k46_a, WK, vop, evAll, evOpt, evParts, vbuiltin, vun, vextract, Nat.reduceLT, Nat.reduceEqDiff, ↓reduceIte, reduceCtorEq, Nat.reduceAdd, Int.reduceLT, Int.reduceNeg, valloc_std, noSB, vhot, gD0, gD1, ofNilP]
  refine KD.ret (ready_does h n) ?_
  simp only [k46_a, WK, vop, evAll, evOpt, evParts, vbuiltin, vun, vextract, Nat.reduceLT, Nat.reduceEqDiff, ↓reduceIte, reduceCtorEq, Nat.reduceAdd, Int.reduceLT, Int.reduceNeg, valloc_std, noSB, vhot, hr', pFA r 0 (by omega), hl, h.look_yes hg, eql_optr pTF, ofNilP]
theorem there_ok {σ : St} {r rm : Nat} {d : Dk} {fs : List Ent} (h : DiskAt σ r d rm fs) (hok : d.Ok) {n : List UInt8} (hz : thereD d n = 0) : ∃ a b p, Has d fs a b p n ∧ readyD d n = 0 := by
  unfold thereD at hz
  split at hz
  · rename_i h1; exact absurd hz h1
  · rename_i h1
    have h1 : readyD d n = 0 := Classical.byContradiction h1
    cases hg : getF d.files n with
    | none => rw [hg] at hz; cases hz
    | some f =>
      obtain ⟨a, p, b, hA⟩ := h.get_yes hok hg
      exact ⟨a, b, p, hA, h1⟩
theorem raw_does {σ : St} {r rm : Nat} {d : Dk} {fs : List Ent} (h : DiskAt σ r d rm fs) (hok : d.Ok) (hw : d.writes < 4611686018427387904) :
    ∃ σ', Does Tryz.prog prims 39 [.optr r 0] σ (.ret (.bool (rawD d).1)) σ' ∧ DiskAt σ' r (rawD d).2 rm fs ∧ KS (foot r rm fs) σ σ' ∧ σ'.objs.length = σ.objs.length := by
  have key : ∃ q σ', Does Tryz.prog prims 39 [.optr r 0] σ q σ' ∧ (q = .ret (.bool (rawD d).1) ∧ DiskAt σ' r (rawD d).2 rm fs ∧ KS (foot r rm fs) σ σ' ∧ σ'.objs.length = σ.objs.length) := by
    apply k39_is.does (by simp)
    have hww : IntKind.i64.wrap ((d.writes : Int) + 1) = ((d.writes + 1 : Nat) : Int) := by rw [show (d.writes : Int) + 1 = ((d.writes + 1 : Nat) : Int) by omega]; exact wrap_nat (by omega)
    have l1 : vload Tryz.prog σ.objs 3 (.optr r 3) = some (.int .i64 (d.writes : Nat)) := by rw [vload_obj h.hd G3]; rfl
    obtain ⟨d1, hd1⟩ : ∃ d1 : Dk, d1 = { d with writes := d.writes + 1 } := ⟨_, rfl⟩
    obtain ⟨s1, hs1⟩ : ∃ s1 : St, s1 = ⟨σ.objs.set r (.cells (dcells rm d1)), σ.toks⟩ := ⟨_, rfl⟩
    have st1 : vstore Tryz.prog σ 3 (.optr r 3) (.int .i64 ((d.writes + 1 : Nat) : Int)) = some s1 := by rw [vstore_obj h.hd S3 rfl (by simp [dcells]), hs1, hd1]; rfl
    obtain ⟨D1, K1⟩ := h.head (d2 := d1) (by rw [hd1]) hs1
    have L1 : s1.objs.length = σ.objs.length := by rw [hs1]; simp
    have l2 : vload Tryz.prog s1.objs 3 (.optr r 4) = some (.int .i64 (d.armed : Nat)) := by rw [vload_obj D1.hd G3, hd1]; rfl
    simp only [k39_a, WK, vop, evAll, evOpt, evParts, vbuiltin, vun, vextract, Nat.reduceLT, Nat.reduceEqDiff, ↓reduceIte, reduceCtorEq, Nat.reduceAdd, Int.reduceLT, Int.reduceNeg, valloc_std, noSB, vhot, gD0, pFA r 3 (by omega), pFA r 4 (by omega), l1, hww, st1, l2]
    by_cases ha : d.armed = 0
    · have ha' : ((d.armed : Nat) : Int) = 0 := by omega
      have e : rawD d = (false, d1) := by simp [rawD, ha, hd1]
      simp only [k39_a, WK, vop, evAll, evOpt, evParts, vbuiltin, vun, vextract, Nat.reduceLT, Nat.reduceEqDiff, ↓reduceIte, reduceCtorEq, Nat.reduceAdd, Int.reduceLT, Int.reduceNeg, valloc_std, noSB, vhot, ha', decide_true, e]
      exact ⟨D1, K1, L1⟩
    · have ha' : ¬ ((d.armed : Nat) : Int) = 0 := by omega
      have hwa : IntKind.i64.wrap ((d.armed : Int) - 1) = ((d.armed - 1 : Nat) : Int) := by
        have := hok.arm
        rw [show (d.armed : Int) - 1 = ((d.armed - 1 : Nat) : Int) by omega]; exact wrap_nat (by omega)
      obtain ⟨d2, hd2⟩ : ∃ d2 : Dk, d2 = { d with writes := d.writes + 1, armed := d.armed - 1 } := ⟨_, rfl⟩
      obtain ⟨s2, hs2⟩ : ∃ s2 : St, s2 = ⟨s1.objs.set r (.cells (dcells rm d2)), s1.toks⟩ := ⟨_, rfl⟩
      have st2 : vstore Tryz.prog s1 3 (.optr r 4) (.int .i64 ((d.armed - 1 : Nat) : Int)) = some s2 := by rw [vstore_obj D1.hd S3 rfl (by simp [dcells]), hs2, hd1, hd2]; rfl
      obtain ⟨D2, K2⟩ := D1.head (d2 := d2) (by rw [hd1, hd2]) hs2
      have L2 : s2.objs.length = σ.objs.length := by rw [hs2]; simp [L1]
      have l3 : vload Tryz.prog s2.objs 3 (.optr r 4) = some (.int .i64 ((d.armed - 1 : Nat) : Int)) := by rw [vload_obj D2.hd G3, hd2]; rfl
      have e : rawD d = (decide (d.armed = 1), d2) := by simp [rawD, ha, hd2]
      simp only [k39_a, WK, vop, evAll, evOpt, evParts, vbuiltin, vun, vextract, Nat.reduceLT, Nat.reduceEqDiff, ↓reduceIte, reduceCtorEq, Nat.reduceAdd, Int.reduceLT, Int.reduceNeg, valloc_std, noSB, vhot, pFA r 3 (by omega), pFA r 4 (by omega), ha', decide_false, hwa, st2, l3, l2, e]
      refine ⟨?_, D2, K1.trans' K2, L2⟩
      congr 2
      by_cases h1 : d.armed = 1
      · simp [h1]
      · have : ¬ ((d.armed - 1 : Nat) : Int) = 0 := by omega
        simp [h1]; omega
  obtain ⟨q, σ', h1, rfl, h2⟩ := key
  exact ⟨σ', h1, h2⟩
theorem Does.prim {f : FuncId} {vs : List V} {σ : St} {v : V} {σ' : St} (hi : prims.is f = true) (h : prims.f f vs σ = some (v, σ')) : Does Tryz.prog prims f vs σ (.ret v) σ' := ⟨1, by rw [vcall, if_pos hi, h]; rfl⟩
def w1 (k : Int) (b : Nat) (f : FO) : List (Nat × Ob) :=
  if f.kept k = [] then [(f.rf, .cells [f.s, .nils])] else
    f.rs.toList.map (·, Ob.dead) ++ [(f.rf, .cells [.hslice b 0 1 (f.cs.length + (f.kept k).length), .nils]), (b, .cells (f.cs ++ f.kept k))]
def wAll (k : Int) : Nat → List FO → List (Nat × Ob)
  | _, [] => []
  | b, f :: fos => w1 k b f ++ wAll k (b + 1) fos
def off1 (k : Int) (b : Nat) (p : Ent) : Ent := (offF k p.1, if p.2.kept k = [] then { p.2 with w := .nils, rw := none, ds := [] } else { rf := p.2.rf, s := .hslice b 0 1 (p.2.cs.length + (p.2.kept k).length), rs := some b, cs := p.2.cs ++ p.2.kept k, w := .nils, rw := none, ds := [] })
def offL (k : Int) : Nat → List Ent → List Ent
  | _, [] => []
  | b, p :: fs => off1 k b p :: offL k (b + 1) fs
theorem fwrites_all (k : Int) : ∀ (fos : List FO) (b : Nat), (List.range fos.length).flatMap (fwrites k b fos) = wAll k b fos
  | [], b => rfl
  | f :: fos, b => by
    rw [List.length_cons, List.range_succ_eq_map, List.flatMap_cons, List.flatMap_map, wAll, ← fwrites_all k fos (b + 1)]
    congr 1
    · by_cases hk : f.kept k = []
      · rw [fwrites_none (f := f) rfl hk, w1, if_pos hk]
      · rw [fwrites_some (f := f) rfl hk, w1, if_neg hk]; rfl
    refine congrArg (fun g => List.flatMap g (List.range fos.length)) (funext fun i => ?_)
    show fwrites k b (f :: fos) (i + 1) = fwrites k (b + 1) fos i
    by_cases hk : (fos.getD i default).kept k = []
    · rw [fwrites_none (fos := f :: fos) (i := i + 1) (f := fos.getD i default) (by simp) hk, fwrites_none (fos := fos) (i := i) (f := fos.getD i default) rfl hk]
    · rw [fwrites_some (fos := f :: fos) (i := i + 1) (f := fos.getD i default) (by simp) hk, fwrites_some (fos := fos) (i := i) (f := fos.getD i default) rfl hk, show b + (i + 1) = b + 1 + i by omega]
theorem off1_ids {k : Int} {b : Nat} {p : Ent} : ∀ x ∈ (off1 k b p).2.ids, x ∈ p.2.ids ∨ x = b := by
  intro x hx
  simp only [off1] at hx
  split at hx
  · simp only [FO.ids, List.mem_cons, List.mem_append] at hx ⊢
    rcases hx with h | h | h
    · exact .inl (.inl h)
    · exact .inl (.inr (.inl h))
    · cases h
  · simp only [FO.ids, List.mem_cons, List.mem_append] at hx ⊢
    rcases hx with h | h | h
    · exact .inl (.inl h)
    · simp at h; exact .inr h
    · cases h
theorem off1_nodup {k : Int} {b : Nat} {p : Ent} (h : p.2.ids.Nodup) (hb : ∀ x ∈ p.2.ids, x < b) : (off1 k b p).2.ids.Nodup := by
  have hrf : p.2.rf < b := hb _ (by simp [FO.ids])
  simp only [off1]
  split
  · simp only [FO.ids, List.nodup_cons] at h ⊢
    refine ⟨fun hx => h.1 ?_, ?_⟩
    · simp only [Option.toList, List.append_nil, List.mem_append] at hx ⊢
      exact .inl hx
    · have := (List.nodup_append.1 h.2).1
      simpa using this
  · simp only [FO.ids, Option.toList, List.append_nil, List.nodup_cons, List.mem_singleton]
    exact ⟨by omega, by simp, by simp⟩
theorem offL_ids {k : Int} : ∀ {fs : List Ent} {b : Nat}, ∀ x ∈ (offL k b fs).flatMap (fun p => p.2.ids), x ∈ fs.flatMap (fun p => p.2.ids) ∨ b ≤ x
  | [], b, x, hx => by simp [offL] at hx
  | p :: fs, b, x, hx => by
    simp only [offL, List.flatMap_cons, List.mem_append] at hx ⊢
    rcases hx with h | h
    · rcases off1_ids x h with h | h
      · exact .inl (.inl h)
      · exact .inr (by omega)
    · rcases offL_ids x h with h | h
      · exact .inl (.inr h)
      · exact .inr (by omega)
theorem offL_nodup {k : Int} : ∀ {fs : List Ent} {b : Nat}, (fs.flatMap fun p => p.2.ids).Nodup → (∀ x ∈ fs.flatMap (fun p => p.2.ids), x < b) → ((offL k b fs).flatMap fun p => p.2.ids).Nodup
  | [], b, _, _ => by simp [offL]
  | p :: fs, b, h, hb => by
    simp only [offL, List.flatMap_cons] at h hb ⊢
    rw [List.nodup_append] at h ⊢
    have hb1 : ∀ x ∈ p.2.ids, x < b := fun x hx => hb x (List.mem_append_left _ hx)
    have hb2 : ∀ x ∈ fs.flatMap (fun p => p.2.ids), x < b := fun x hx => hb x (List.mem_append_right _ hx)
    refine ⟨off1_nodup h.1 hb1, offL_nodup h.2.1 fun x hx => by have := hb2 x hx; omega, fun x hx y hy e => ?_⟩
    subst e
    rcases off1_ids x hx with h1 | h1 <;> rcases offL_ids x hy with h2 | h2
    · exact h.2.2 x h1 x h2 rfl
    · have := hb1 x h1; omega
    · have := hb2 x h2; omega
    · omega
theorem bytes_take (l : List UInt8) (n : Nat) : (l.map byteV).take n = (l.take n).map byteV := (List.map_take ..).symm
theorem w1_at {k : Int} {b : Nat} {O : List Ob} {p : Ent} (h : FAt O p) (hn : p.2.ids.Nodup) (hb : ∀ x ∈ p.2.ids, x < b) (hl : b < O.length) :
    FAt (applyW (w1 k b p.2) O) (off1 k b p) ∧ ∀ q, q ∉ p.2.ids → q ≠ b → (applyW (w1 k b p.2) O)[q]? = O[q]? := by
  have hrf : p.2.rf < b := hb _ (by simp [FO.ids])
  have hkm : p.2.kept k = (p.1.wait.take k.toNat).map byteV := by rw [FO.kept, h.ds, bytes_take]
  by_cases hk : p.2.kept k = []
  · have e : w1 k b p.2 = [(p.2.rf, .cells [p.2.s, .nils])] := by unfold w1; rw [if_pos hk]
    have e2 : off1 k b p = (offF k p.1, { p.2 with w := .nils, rw := none, ds := [] }) := by unfold off1; rw [if_pos hk]
    have hw0 : p.1.wait.take k.toNat = [] := by rw [hk] at hkm; exact List.map_eq_nil_iff.1 hkm.symm
    rw [e, e2]
    simp only [applyW, List.foldl_cons, List.foldl_nil]
    refine ⟨⟨by simp only; rw [gA5 (by omega)], ?_, rfl, ?_, rfl⟩, fun q hq _ => ?_⟩
    · simp only [offF, hw0, List.append_nil]
      refine rowOf_eq h.s fun q hq => ?_
      rw [gA3]
      intro e3
      simp only [FO.ids, List.nodup_cons] at hn
      exact hn.1 (by simp [hq, e3])
    · simp only [offF, hw0, List.append_nil]; exact h.cs
    · rw [gA3]
      intro e3
      exact hq (by simp [FO.ids, e3])
  · have e : w1 k b p.2 = p.2.rs.toList.map (·, Ob.dead) ++ [(p.2.rf, .cells [.hslice b 0 1 (p.2.cs.length + (p.2.kept k).length), .nils]), (b, .cells (p.2.cs ++ p.2.kept k))] := by unfold w1; rw [if_neg hk]
    have e2 : off1 k b p = (offF k p.1, { rf := p.2.rf, s := .hslice b 0 1 (p.2.cs.length + (p.2.kept k).length), rs := some b, cs := p.2.cs ++ p.2.kept k, w := .nils, rw := none, ds := [] }) := by unfold off1; rw [if_neg hk]
    have hcat : p.2.cs ++ p.2.kept k = (p.1.safe ++ p.1.wait.take k.toNat).map byteV := by rw [h.cs, hkm, List.map_append]
    rw [e, e2, applyW_append]
    obtain ⟨O1, hO1⟩ : ∃ O1, O1 = applyW (p.2.rs.toList.map (·, Ob.dead)) O := ⟨_, rfl⟩
    have hl1 : O1.length = O.length := by rw [hO1, applyW_len]
    rw [← hO1]
    simp only [applyW, List.foldl_cons, List.foldl_nil]
    refine ⟨⟨?_, ?_, rfl, ?_, rfl⟩, fun q hq hqb => ?_⟩
    · simp only; rw [gA3 (by omega), gA5 (by omega)]
    · simp only [rowOf]
      rw [gA5 (by rw [List.length_set]; omega)]
      simp only [offF, List.length_append, Nat.le_refl, ↓reduceIte]
      rw [List.take_of_length_le (by simp), hcat]
    · simp only [offF]; exact hcat
    · rw [gA3 (Ne.symm hqb), gA3, hO1, applyW_ne]
      · intro hm
        rw [List.map_map, List.mem_map] at hm
        obtain ⟨x, hx, rfl⟩ := hm
        exact hq (by simp only [FO.ids, List.mem_cons, List.mem_append]; exact .inr (.inl hx))
      · intro e3
        exact hq (by simp [FO.ids, e3])
theorem offW {k : Int} : ∀ {fs : List Ent} {b : Nat} {O : List Ob}, (fs.flatMap fun p => p.2.ids).Nodup → (∀ x ∈ fs.flatMap (fun p => p.2.ids), x < b) → b + fs.length ≤ O.length → (∀ p ∈ fs, FAt O p) →
    (∀ p ∈ offL k b fs, FAt (applyW (wAll k b (fs.map (·.2))) O) p) ∧ ∀ q, q ∉ fs.flatMap (fun p => p.2.ids) → q < b → (applyW (wAll k b (fs.map (·.2))) O)[q]? = O[q]?
  | [], b, O, _, _, _, _ => ⟨fun p hp => by simp [offL] at hp, fun q _ _ => rfl⟩
  | p :: fs, b, O, hn, hb, hl, hF => by
    simp only [List.flatMap_cons, List.length_cons] at hn hb hl
    rw [List.nodup_append] at hn
    have hb1 : ∀ x ∈ p.2.ids, x < b := fun x hx => hb x (List.mem_append_left _ hx)
    have hb2 : ∀ x ∈ fs.flatMap (fun p => p.2.ids), x < b := fun x hx => hb x (List.mem_append_right _ hx)
    obtain ⟨g1, g2⟩ := w1_at (k := k) (hF p (List.mem_cons_self ..)) hn.1 hb1 (by omega)
    obtain ⟨O1, hO1⟩ : ∃ O1, O1 = applyW (w1 k b p.2) O := ⟨_, rfl⟩
    have hl1 : O1.length = O.length := by rw [hO1, applyW_len]
    rw [← hO1] at g1 g2
    have hF1 : ∀ q ∈ fs, FAt O1 q := fun q hq => (hF q (List.mem_cons_of_mem _ hq)).frame fun x hx o ho => by
      have hxm : x ∈ fs.flatMap (fun p => p.2.ids) := List.mem_flatMap.2 ⟨q, hq, hx⟩
      have := hb2 x hxm
      rw [g2 x (fun h => hn.2.2 x h x hxm rfl) (by omega)]
      exact ho
    obtain ⟨i1, i2⟩ := offW (k := k) (b := b + 1) (O := O1) hn.2.1 (fun x hx => by have := hb2 x hx; omega) (by omega) hF1
    simp only [List.map_cons, wAll, applyW_append, offL, ← hO1]
    refine ⟨fun q hq => ?_, fun q hq hqb => ?_⟩
    · rcases List.mem_cons.1 hq with rfl | hq
      · refine g1.frame fun x hx o ho => ?_
        rw [i2 x ?_ ?_]
        · exact ho
        · intro hxm
          rcases off1_ids x hx with h | h
          · exact hn.2.2 x h x hxm rfl
          · have := hb2 x hxm; omega
        · rcases off1_ids x hx with h | h
          · have := hb1 x h; omega
          · omega
      · exact i1 q hq
    · rw [List.flatMap_cons, List.mem_append] at hq
      rw [i2 q (fun h => hq (.inr h)) (by omega), g2 q (fun h => hq (.inl h)) (by omega)]
theorem offL_ent {k : Int} : ∀ {fs : List Ent} {b : Nat}, (offL k b fs).map fent = fs.map fent
  | [], b => rfl
  | p :: fs, b => by
    simp only [offL, List.map_cons, offL_ent (k := k) (fs := fs) (b := b + 1)]
    congr 1
    simp only [fent, off1, offF]
    split <;> rfl
theorem offL_fst {k : Int} : ∀ {fs : List Ent} {b : Nat}, (offL k b fs).map (·.1) = (fs.map (·.1)).map (offF k)
  | [], b => rfl
  | p :: fs, b => by
    simp only [offL, List.map_cons, offL_fst (k := k) (fs := fs) (b := b + 1)]
    rfl
theorem off_does {σ : St} {r rm : Nat} {d : Dk} {fs : List Ent} (h : DiskAt σ r d rm fs) (hok : d.Ok) (k : Int) :
    ∃ σ' fs', Does Tryz.prog prims 20 [.optr r 0, .int .i64 k] σ (.ret (.tuple [])) σ' ∧ DiskAt σ' r (offD k d) rm fs' ∧ KS (foot r rm fs) σ σ' ∧ ∀ x ∈ foot r rm fs', x ∈ foot r rm fs ∨ σ.objs.length ≤ x := by
  cases hon : d.on with
  | false =>
    refine ⟨σ, fs, Does.prim (by kernel_rfl) ?_, by simp only [offD, hon]; exact h, KS.refl _ _, fun x hx => .inl hx⟩
    simp only [prims]
    rw [if_neg (by decide +kernel), if_pos trivial]
    simp only [offP, h.hd, dcells, hon, Bool.not_false, ↓reduceIte]
  | true =>
    have hnd := h.nd
    unfold foot at hnd
    rw [List.nodup_cons, List.nodup_cons] at hnd
    have hlt := h.lt
    have hids : ∀ x ∈ fs.flatMap (fun p => p.2.ids), x < σ.objs.length := fun x hx => hlt x (by simp only [foot, List.mem_cons]; exact .inr (.inr hx))
    have hrl := hlt r (by simp [foot])
    have hml := hlt rm (by simp [foot])
    have hne : r ≠ rm := fun e => hnd.1 (by rw [e]; exact List.mem_cons_self ..)
    have hfm : (fs.map (·.2)).flatMap FO.ids = fs.flatMap fun p => p.2.ids := by rw [List.flatMap_map]
    obtain ⟨O, hO⟩ : ∃ O, O = σ.objs ++ [Ob.dead] ++ List.replicate fs.length Ob.unb := ⟨_, rfl⟩
    have hOl : O.length = σ.objs.length + 1 + fs.length := by rw [hO]; simp; omega
    have hOo : ∀ q, q < σ.objs.length → O[q]? = σ.objs[q]? := fun q hq => by
      rw [hO, gA2 (by simp; omega), gA2 hq]
    have hFO : ∀ p ∈ fs, FAt O p := fun p hp => (h.hf p hp).frame fun x hx o ho => by
      rw [hOo x (hids x (List.mem_flatMap.2 ⟨p, hp, hx⟩))]; exact ho
    obtain ⟨i1, i2⟩ := offW (k := k) (b := σ.objs.length + 1) (O := O) hnd.2.2 (fun x hx => by have := hids x hx; omega) (by omega) hFO
    obtain ⟨O1, hO1⟩ : ∃ O1, O1 = applyW (wAll k (σ.objs.length + 1) (fs.map (·.2))) O := ⟨_, rfl⟩
    have hO1l : O1.length = O.length := by rw [hO1, applyW_len]
    rw [← hO1] at i1 i2
    have hrn : r ∉ fs.flatMap fun p => p.2.ids := fun hx => hnd.1 (List.mem_cons_of_mem _ hx)
    have hd2 : offD k d = { d with files := d.files.map (offF k), on := false, armed := 0 } := by simp [offD, hon]
    have hids2 : ∀ x ∈ (offL k (σ.objs.length + 1) fs).flatMap (fun p => p.2.ids), x ∈ fs.flatMap (fun p => p.2.ids) ∨ σ.objs.length + 1 ≤ x := fun x hx => offL_ids x hx
    refine ⟨⟨O1.set r (.cells (dcells rm (offD k d))), σ.toks⟩, offL k (σ.objs.length + 1) fs, Does.prim (by kernel_rfl) ?_, ⟨?_, ?_, fun p hp => (i1 p hp).frame fun x hx o ho => ?_, ?_, ?_⟩, ⟨fun q o hq ho => ?_, ?_, Nat.le_refl _, fun _ h => h⟩, fun x hx => ?_⟩
    · simp only [prims]
      rw [if_neg (by decide +kernel), if_pos trivial]
      have hc : (((fs.map (·.2)).flatMap FO.ids).Nodup ∧ r ∉ (fs.map (·.2)).flatMap FO.ids ∧ ((fs.map (·.2)).all fun f => (f.kept k).all one && decide (f.cs.length + (f.kept k).length ≤ 140737488355328)) = true) := by
        rw [hfm]
        refine ⟨hnd.2.2, hrn, ?_⟩
        rw [List.all_eq_true]
        intro f hf
        obtain ⟨p, hp, rfl⟩ := List.mem_map.1 hf
        have hF := h.hf p hp
        have hsm := hok.sm p.1 (h.pm.mem_iff.1 (List.mem_map_of_mem hp))
        have hkm : p.2.kept k = (p.1.wait.take k.toNat).map byteV := by rw [FO.kept, hF.ds, bytes_take]
        rw [hkm, hF.cs, Bool.and_eq_true, decide_eq_true_eq]
        refine ⟨byteV_one _, ?_⟩
        simp only [Fl.len, List.length_map, List.length_take] at hsm ⊢
        omega
      simp only [offP, h.hd, dcells, hon, Bool.not_true, Bool.false_eq_true, ↓reduceIte, h.hm, files_all h.hf]
      rw [if_pos hc, List.length_map, ← hO]
      have := fwrites_all k (fs.map (·.2)) (σ.objs.length + 1)
      rw [List.length_map] at this
      rw [this, ← hO1, hd2]
      rfl
    · simp only; rw [gA5 (by omega)]
    · simp only
      rw [gA3 hne, i2 rm hnd.2.1 (by omega), hOo rm hml, offL_ent]
      exact h.hm
    · simp only
      rw [gA3]
      · exact ho
      · rintro rfl
        rcases hids2 r (List.mem_flatMap.2 ⟨p, hp, hx⟩) with h | h
        · exact hrn h
        · omega
    · unfold foot
      rw [List.nodup_cons, List.nodup_cons]
      refine ⟨fun hx => ?_, fun hx => ?_, offL_nodup hnd.2.2 fun x hx => by have := hids x hx; omega⟩
      · rcases List.mem_cons.1 hx with e | hx
        · exact hne e
        · rcases hids2 _ hx with h | h
          · exact hrn h
          · omega
      · rcases hids2 _ hx with h | h
        · exact hnd.2.1 h
        · omega
    · rw [offL_fst, hd2]
      exact h.pm.map _
    · have hql := (gA0.1 ho).1
      simp only [foot, List.mem_cons, not_or] at hq
      simp only
      rw [gA3 (Ne.symm hq.1), i2 q hq.2.2 (by omega), hOo q hql]
      exact ho
    · simp only [List.length_set]; omega
    · simp only [foot, List.mem_cons] at hx ⊢
      rcases hx with h | h | h
      · exact .inl (.inl h)
      · exact .inl (.inr (.inl h))
      · rcases hids2 x h with h | h
        · exact .inl (.inr (.inr h))
        · exact .inr (by omega)
theorem ends_does {σ : St} {r rm : Nat} {d : Dk} {fs : List Ent} (h : DiskAt σ r d rm fs) (hok : d.Ok) :
    ∃ σ' fs', Does Tryz.prog prims 40 [.optr r 0] σ (.ret (.int .i64 20)) σ' ∧ DiskAt σ' r (offD d.keep d) rm fs' ∧ KS (foot r rm fs) σ σ' ∧ ∀ x ∈ foot r rm fs', x ∈ foot r rm fs ∨ σ.objs.length ≤ x := by
  obtain ⟨σ', fs', h1, h2, h3, h4⟩ := off_does h hok d.keep
  refine ⟨σ', fs', ?_, h2, h3, h4⟩
  have key : ∃ q s, Does Tryz.prog prims 40 [.optr r 0] σ q s ∧ (q = .ret (.int .i64 20) ∧ s = σ') := by
    apply k40_is.does (by simp)
    have l1 : vload Tryz.prog σ.objs 3 (.optr r 5) = some (.int .i64 d.keep) := by rw [vload_obj h.hd G3]; rfl
    simp only [k40_a, WK, vop, evAll, evOpt, evParts, vbuiltin, vun, vextract, Nat.reduceLT, Nat.reduceEqDiff, ↓reduceIte, reduceCtorEq, Nat.reduceAdd, Int.reduceLT, Int.reduceNeg, valloc_std, noSB, vhot, gD0, pFA r 5 (by omega), l1]
    refine KD.ret h1 ?_
    simp only [k40_a, WK, vop, evAll, evOpt, evParts, vbuiltin, vun, vextract, Nat.reduceLT, Nat.reduceEqDiff, ↓reduceIte, reduceCtorEq, Nat.reduceAdd, Int.reduceLT, Int.reduceNeg, valloc_std, noSB, vhot]
  obtain ⟨q, s, h5, rfl, rfl⟩ := key
  exact h5
theorem IT : IntT Tryz.prog 94 3 := ⟨by kernel_rfl, T3, by kernel_rfl, by kernel_rfl, by kernel_rfl, by kernel_rfl, by kernel_rfl⟩
def HB (σ : St) (v : V) (r : Nat) (bs : List UInt8) : Prop := v = .hslice r 0 1 bs.length ∧ σ.objs[r]? = some (.cells (bs.map byteV))
theorem HB.keep {σ σ' : St} {v : V} {r : Nat} {bs : List UInt8} (h : HB σ v r bs) (hk : Keep σ σ') : HB σ' v r bs := ⟨h.1, hk.1 _ _ h.2⟩
theorem HB.lt {σ : St} {v : V} {r : Nat} {bs : List UInt8} (h : HB σ v r bs) : r < σ.objs.length := (gA0.1 h.2).1
def RB (σ : St) (v : V) (bs : List UInt8) : Prop := BtsV v bs ∨ ∃ r off cs, v = .hslice r off 1 bs.length ∧ σ.objs[r]? = some (.cells cs) ∧ off + bs.length ≤ cs.length ∧ (cs.drop off).take bs.length = bs.map byteV
theorem HB.rb {σ : St} {v : V} {r : Nat} {bs : List UInt8} (h : HB σ v r bs) : RB σ v bs := .inr ⟨r, 0, _, h.1, h.2, by simp, by rw [List.drop_zero]; exact List.take_of_length_le (by simp)⟩
theorem RB.keep {σ σ' : St} {v : V} {bs : List UInt8} (h : RB σ v bs) (hk : Keep σ σ') : RB σ' v bs := by
  rcases h with h | ⟨r, off, cs, h1, h2, h3⟩
  · exact .inl h
  · exact .inr ⟨r, off, cs, h1, hk.1 _ _ h2, h3⟩
theorem RB.len {σ : St} {v : V} {bs : List UInt8} (h : RB σ v bs) : vlen Tryz.prog 30 v = some (.int .i64 (bs.length : Nat)) := by
  rcases h with h | ⟨r, off, cs, rfl, _⟩
  · exact h.len T22
  · simp [vlen, T22]
theorem RB.news {σ : St} {v : V} {bs : List UInt8} (h : RB σ v bs) : vnewsO Tryz.prog σ.objs 30 v 1 = some (bs.map byteV, bs.length) := by
  rcases h with h | ⟨r, off, cs, rfl, h2, h3, h4⟩
  · refine vnewsO_of ?_
    rcases h with ⟨rfl, rfl⟩ | ⟨p, rfl⟩ <;> simp [vnews, T22]
  · simp [vnewsO, vnews, T22, h2, h3, h4]
theorem RB.at {σ : St} {v : V} {bs : List UInt8} (h : RB σ v bs) {i : Nat} (hi : i < bs.length) : ∃ p, vindexAddr Tryz.prog 30 v (.int .i64 (i : Int)) = some p ∧ vload Tryz.prog σ.objs 5 p = some (.int .u8 (bs[i].toNat : Nat)) := by
  have hi' : (i : Int) < bs.length := by omega
  rcases h with h | ⟨r, off, cs, rfl, h2, h3, h4⟩
  · refine ⟨_, h.addr T22 S5 (Int.natCast_nonneg i) hi', ?_⟩
    have := BtsV.load (P := Tryz.prog) (objs := σ.objs) G5 hi
    simpa using this
  · refine ⟨.optr r (off + i), by simp [vindexAddr, T22, S5, hi'], ?_⟩
    have h5 : cs[off + i]? = some (byteV bs[i]) := by
      have := congrArg (·[i]?) h4
      simp only [List.getElem?_take_of_lt hi, List.getElem?_drop, List.getElem?_map, List.getElem?_eq_getElem hi] at this
      simpa using this
    rw [vload_obj h2 G5, h5]
    rfl
theorem HB.slice {σ : St} {v : V} {r : Nat} {bs : List UInt8} (h : HB σ v r bs) {n : Nat} (hn : n ≤ bs.length) (hl : bs.length ≤ 1000000000) : ∃ w, vslice Tryz.prog 30 v none (some (.int .i64 (n : Int))) none = some w ∧ RB σ w (bs.take n) := by
  have hb : vbounds bs.length none (some (.int .i64 (n : Int))) none = some (0, n, none) := vbounds_hi (by omega) (by omega)
  refine ⟨.hslice r 0 1 n, by rw [h.1]; simp [vslice, T22, S5, hb], .inr ⟨r, 0, _, by rw [List.length_take, Nat.min_eq_left hn], h.2, by rw [List.length_take, List.length_map]; omega, ?_⟩⟩
  rw [List.drop_zero, List.length_take, Nat.min_eq_left hn, ← List.map_take]
theorem made {σ : St} (v : V) (bs : List UInt8) (hv : v = .hslice σ.objs.length 0 1 bs.length) : HB ⟨σ.objs ++ [.cells (bs.map byteV)], σ.toks⟩ v σ.objs.length bs := ⟨hv, push_new _ _⟩
theorem HB.append {σ : St} {v y : V} {r : Nat} {bs ys : List UInt8} (h : HB σ v r bs) (hy : RB σ y ys) (hl : bs.length + ys.length ≤ 140737488355328) :
    ∃ v' r' σ', vappendRow Tryz.prog σ 30 30 v y = some (v', σ') ∧ HB σ' v' r' (bs ++ ys) ∧ KeepX r σ σ' ∧ (r' = r ∨ σ.objs.length ≤ r') := by
  have hb := BT.b
  have hz := BT.z
  have hn := hy.news
  rw [h.1]
  by_cases hm : ys.length = 0
  · have : ys = [] := List.length_eq_zero_iff.1 hm
    subst this
    refine ⟨_, r, σ, ?_, by rw [List.append_nil]; exact ⟨rfl, h.2⟩, KeepX.refl _ _, .inl rfl⟩
    simp [vappendRow, T22, hb, S5, hz, vcells, hn]
  · refine ⟨.hslice σ.objs.length 0 1 (bs ++ ys).length, σ.objs.length, ⟨σ.objs.set r .dead ++ [.cells ((bs ++ ys).map byteV)], σ.toks⟩, ?_, ⟨rfl, ?_⟩, ⟨fun q o hq ho => ?_, Nat.le_refl _, fun _ h => h⟩, .inr (Nat.le_refl _)⟩
    · have h1 := byteV_one ys
      have h2 : List.take bs.length (bs.map byteV) = bs.map byteV := List.take_of_length_le (by simp)
      simp [vappendRow, T22, hb, S5, hz, vcells, hn, hm, h.2, hl, h1, h2]
    · have := push_new (σ.objs.set r .dead) (Ob.cells ((bs ++ ys).map byteV))
      rwa [List.length_set] at this
    · have hql : q < σ.objs.length := (gA0.1 ho).1
      simp only
      rw [gA2 (by rw [List.length_set]; exact hql), gA3 (Ne.symm hq)]
      exact ho
end Go.Proofs.YtnegdinonfjdfaaGreatDoor.Q
