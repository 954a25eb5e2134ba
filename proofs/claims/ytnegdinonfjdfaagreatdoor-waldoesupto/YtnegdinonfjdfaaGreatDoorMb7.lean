/- A part of the proof: Rc, Ta, Ka, Kb, Kc. -/
import Derived.Test.YtnegdinonfjdfaaGreatDoorMb4
import Derived.Test.YtnegdinonfjdfaaGreatDoorChecked
import Derived.Test.YtnegdinonfjdfaaGreatDoorMb6
import Derived.Test.YtnegdinonfjdfaaGreatDoorMb5
set_option maxRecDepth 100000
namespace Go.Proofs.YtnegdinonfjdfaaGreatDoor.Q
open Go Go.RowKit Go.Proofs
variable {P : Program} {pr : Prim} {N : Nat} {e : Nat → V} {σ : St} {Q : VX → (Nat → V) → St → Prop} {QQ : QD} {SS : QS} {m : Pn}
def k3_r0 : List COp := [o 4 (pO false)]
def k3_r1 : List COp := [o 20 (.call { callee := .value (.func 5), args := #[], argTypes := #[] }),
o 21 (.unOp .not 4 (.tmp 20))]
def k3_r2 : List COp := [o 4 (pO false)]
def k3_r3 : List COp := [o 22 (pM 0),
o 23 (pM 1),
o 24 (pD 6 22 23 22 23)]
def k3_r4 : List COp := [o 4 (pO true)]
def k3_r5 : List COp := [o 25 (.call { callee := .value (.func 7), args := #[.const (.int .i64 2097152)], argTypes := #[3] }),
o 26 (.call { callee := .value (.func 8), args := #[.const (.int .i64 2097152)], argTypes := #[3] }),
o 5 (pA 25),
o 6 (pA 26)]
def k3_r6 : List COp := [o 27 (pM 0),
o 28 (pN 27 22),
o 29 (pW .i64 0)]
def k3_r7 : List COp := [o 30 (pB .lss 3 29 28 3)]
def k3_r8 : List COp := [o 31 (pI 22 27 29),
o 32 (pL 32 31),
o 8 (.alloc 32),
oS 32 8 32]
def k3_r9 : CC := (.wregion [
(true, oX 33 (pM 5)),
(false, oX 34 (pF 32 8 0)),
(false, oX 35 (pL 9 34)),
(false, oX 36 (pF 32 8 1)),
(false, oX 37 (pL 30 36)),
(false, oX 38 (.call { callee := .value (.func 9), args := #[.tmp 33, .tmp 35, .tmp 37], argTypes := #[26, 9, 30] })),
(true, oX 39 (pM 6)),
(false, oX 40 (pF 32 8 0)),
(true, oX 41 (pL 9 40)),
(false, o 42 (pF 32 8 1)),
(true, o 43 (pL 30 42)),
(false, o 44 (.call { callee := .value (.func 10), args := #[.tmp 39, .tmp 41, .tmp 43], argTypes := #[28, 9, 30] })),
(true, o 45 (pB .neq 33 38 44 33)),
(false, o 46 (pM 45)),
(false, ⟨some 47, .move (.tmp 5), some (46, false), false⟩),
(false, ⟨some 48, .fieldAddr 32 (.tmp 8) 0, some (46, false), false⟩),
(false, ⟨some 49, .load 9 (.tmp 48), some (46, false), false⟩),
(false, ⟨some 50, .call { callee := .value (.func 11), args := #[.tmp 47, .tmp 49], argTypes := #[26, 9] }, some (46, false), false⟩),
(true, ⟨some 51, .move (.tmp 6), some (46, false), false⟩),
(false, oF 52 (pF 32 8 0) 46),
(true, oF 53 (pL 9 52) 46),
(false, oF 54 (pD 12 51 53 28 9) 46),
(false, oF 55 (pB .neq 33 50 54 33) 46),
(false, o 56 (pV 46 55))] false [(8, oX 41 (pL 9 40), [0, 6]), (10, o 43 (pL 30 42), [0, 6]), (20, oF 53 (pL 9 52) 46, [12, 18])])
def k3_r10 : List COp := [o 4 (pO false)]
def k3_r11 : List COp := [o 57 (pK .add 3 29 .i64 1 3),
o 29 (pM 57)]
def k3_l0 : CC := (.seq (.region k3_r7) (.seq (.cond (.tmp 30) .skip (.exit 0)) (.seq (.block 1 (.seq (.region k3_r8) (.seq k3_r9 (.cond (.tmp 56) (.seq (.region k3_r10) .ret) .skip)))) (.region k3_r11))))
def k3_r12 : List COp := [o 58 (pM 1),
o 59 (pN 58 23),
o 60 (pW .i64 0)]
def k3_r13 : List COp := [o 61 (pB .lss 3 60 59 3)]
def k3_r14 : List COp := [o 62 (pI 23 58 60),
o 63 (pL 37 62),
o 10 (.alloc 37),
oS 37 10 63]
def k3_r15 : List COp := [o 11 (pZ .i64 0),
o 12 (pZ .i64 0)]
def k3_r16 : List COp := [o 13 (pZ .i64 0),
o 14 (pZ .i64 0)]
def k3_r17 : List COp := [o 64 (pF 37 10 0),
o 65 (pL 3 64)]
def k3_r18 : List COp := [o 67 (pK .eql 3 65 .i64 0 3),
o 66 (pA 67)]
def k3_r19 : CC := (.wregion [
(true, oX 68 (pM 5)),
(false, oX 69 (pF 37 10 1)),
(false, oX 70 (pL 3 69)),
(false, oX 71 (pF 37 10 3)),
(false, oX 72 (pL 30 71)),
(false, oX 73 (.call { callee := .value (.func 13), args := #[.tmp 68, .tmp 70, .tmp 72], argTypes := #[26, 3, 30] })),
(true, oX 74 (pM 6)),
(false, oX 75 (pF 37 10 1)),
(true, oX 76 (pL 3 75)),
(false, o 77 (pF 37 10 3)),
(true, o 78 (pL 30 77)),
(false, o 79 (.call { callee := .value (.func 14), args := #[.tmp 74, .tmp 76, .tmp 78], argTypes := #[28, 3, 30] })),
(false, o 13 (pA 73)),
(false, o 14 (pA 79))] false [(8, oX 76 (pL 3 75), [0, 6]), (10, o 78 (pL 30 77), [0, 6])])
def k3_r20 : List COp := [o 81 (pK .eql 3 65 .i64 1 3),
o 80 (pA 81)]
def k3_r21 : List COp := [o 15 (.assign (.const (.slice .none 0 0))),
o 16 (.assign (.const (.slice .none 0 0)))]
def k3_r22 : List COp := [o 83 (pM 5),
o 84 (pC 15 83 26),
o 82 (pM 84),
o 85 (pX 82 0),
o 86 (pX 82 1),
o 87 (pX 82 2),
o 11 (pA 85),
o 15 (pA 86),
o 13 (pA 87)]
def k3_r23 : List COp := [o 89 (pM 6),
o 90 (pC 16 89 28),
o 88 (pM 90),
o 91 (pX 88 0),
o 92 (pX 88 1),
o 93 (pX 88 2),
o 12 (pA 91),
o 16 (pA 92),
o 14 (pA 93)]
def k3_r24 : List COp := [o 94 (pM 15),
o 95 (pM 16),
o 96 (pD 17 94 95 30 30),
o 97 (.unOp .not 4 (.tmp 96))]
def k3_r25 : List COp := [o 4 (pO false)]
def k3_r26 : List COp := [o 99 (pK .eql 3 65 .i64 2 3),
o 98 (pA 99)]
def k3_r27 : List COp := [o 100 (pM 5),
o 101 (pF 37 10 1),
o 102 (pL 3 101),
o 103 (pF 37 10 2),
o 104 (pL 3 103),
o 105 (.call { callee := .value (.func 18), args := #[.tmp 100, .tmp 102, .tmp 104], argTypes := #[26, 3, 3] })]
def k3_r28 : List COp := [o 106 (pM 6),
o 107 (pF 37 10 1),
o 108 (pL 3 107),
o 109 (pF 37 10 2),
o 110 (pL 3 109),
o 111 (.call { callee := .value (.func 19), args := #[.tmp 106, .tmp 108, .tmp 110], argTypes := #[28, 3, 3] })]
def k3_r29 : List COp := [o 113 (pK .eql 3 65 .i64 3 3),
o 112 (pA 113)]
def k3_r30 : List COp := [o 114 (pM 5),
o 115 (pF 37 10 2),
o 116 (pL 3 115),
o 117 (pD 20 114 116 26 3)]
def k3_r31 : List COp := [o 118 (pM 6),
o 119 (pF 37 10 2),
o 120 (pL 3 119),
o 121 (pD 21 118 120 28 3)]
def k3_r32 : List COp := [o 123 (pK .eql 3 65 .i64 4 3),
o 122 (pA 123)]
def k3_r33 : List COp := [o 124 (pM 5),
o 125 (pC 22 124 26)]
def k3_r34 : List COp := [o 126 (pM 6),
o 127 (.nilCheck (.tmp 126)),
o 128 (pF 48 127 2),
⟨none, .store 4 (.tmp 128) (.const (.bool true)), none, true⟩]
def k3_r35 : List COp := [o 130 (pK .eql 3 65 .i64 5 3),
o 129 (pA 130)]
def k3_r36 : List COp := [o 131 (pM 5),
o 132 (pF 37 10 1),
o 133 (pL 3 132),
o 134 (pD 23 131 133 26 3)]
def k3_r37 : List COp := [o 135 (pM 6),
o 136 (pF 37 10 1),
o 137 (pL 3 136),
o 138 (.nilCheck (.tmp 135)),
o 139 (pF 48 138 1),
oS 3 139 137]
def k3_r38 : List COp := [o 140 (pM 11),
o 141 (pM 12),
o 142 (pB .neq 3 140 141 3),
o 143 (pM 142),
oF 144 (pM 13) 143,
oF 145 (pM 14) 143,
oF 146 (pB .neq 33 144 145 33) 143,
o 147 (pV 143 146),
o 148 (pM 147),
oF 149 (pM 5) 148,
oF 150 (pM 6) 148,
oF 151 (pD 24 149 150 26 28) 148,
oF 152 (.unOp .not 4 (.tmp 151)) 148,
o 153 (pV 148 152)]
def k3_r39 : List COp := [o 4 (pO false)]
def k3_r40 : List COp := [o 154 (pK .add 3 60 .i64 1 3),
o 60 (pM 154)]
def k3_l1 : CC := (.seq (.region k3_r13) (.seq (.cond (.tmp 61) .skip (.exit 2)) (.seq (.block 3 (.seq (.region k3_r14) (.seq (.region k3_r15) (.seq (.region k3_r16) (.seq (.seq (.region k3_r17) (.block 4 (.seq (.region k3_r18) (.cond (.tmp 66) k3_r19 (.seq (.region k3_r20) (.cond (.tmp 80) (.seq (.region k3_r21) (.seq (.region k3_r22) (.seq (.region k3_r23) (.seq (.region k3_r24) (.cond (.tmp 97) (.seq (.region k3_r25) .ret) .skip))))) (.seq (.region k3_r26) (.cond (.tmp 98) (.seq (.region k3_r27) (.region k3_r28)) (.seq (.region k3_r29) (.cond (.tmp 112) (.seq (.region k3_r30) (.region k3_r31)) (.seq (.region k3_r32) (.cond (.tmp 122) (.seq (.region k3_r33) (.region k3_r34)) (.seq (.region k3_r35) (.cond (.tmp 129) (.seq (.region k3_r36) (.region k3_r37)) .skip)))))))))))))) (.seq (.region k3_r38) (.cond (.tmp 153) (.seq (.region k3_r39) .ret) .skip))))))) (.region k3_r40))))
def k3_r41 : List COp := [o 156 (.call { callee := .value (.func 15), args := #[.const (.pointer .none)], argTypes := #[26] }),
o 155 (pM 156),
o 157 (pX 155 0),
o 158 (pX 155 1),
o 159 (pX 155 2),
o 17 (pA 157),
o 18 (pA 158),
o 19 (pA 159)]
def k3_r42 : List COp := [o 160 (pM 19),
o 161 (pK .eql 33 160 .i64 2 33),
o 162 (pM 161),
oT 163 (.call { callee := .value (.func 13), args := #[.const (.pointer .none), .const (.int .i64 1), .const (.slice .none 0 0)], argTypes := #[26, 3, 30] }) 162,
oT 164 (pK .eql 33 163 .i64 2 33) 162,
o 165 (pU 162 164),
o 4 (pA 165)]
def k3 : CC := (.seq (.region k3_r0) (.seq (.seq (.region k3_r1) (.cond (.tmp 21) (.seq (.region k3_r2) .ret) .skip)) (.seq (.seq (.region k3_r3) (.cond (.tmp 24) (.seq (.region k3_r4) .ret) .skip)) (.seq (.region k3_r5) (.seq (.seq (.region k3_r6) (.block 0 (.loop k3_l0))) (.seq (.seq (.region k3_r12) (.block 2 (.loop k3_l1))) (.seq (.region k3_r41) (.seq (.region k3_r42) .ret))))))))
def k4_r0 : List COp := [o 6 (pO false)]
def k4_r1 : List COp := [o 25 (.call { callee := .value (.func 25), args := #[], argTypes := #[] }),
o 26 (.unOp .not 4 (.tmp 25))]
def k4_r2 : List COp := [o 6 (pO false)]
def k4_r3 : List COp := [o 27 (pM 0),
o 28 (pM 2),
o 29 (pD 26 27 28 50 51)]
def k4_r4 : List COp := [o 6 (pO true)]
def k4_r5 : List COp := [o 30 (.call { callee := .value (.func 7), args := #[.const (.int .i64 1048576)], argTypes := #[3] }),
o 31 (.call { callee := .value (.func 8), args := #[.const (.int .i64 1048576)], argTypes := #[3] }),
o 7 (pA 30),
o 8 (pA 31)]
def k4_r6 : List COp := [o 32 (pM 0),
o 33 (pN 32 50),
o 34 (pW .i64 0)]
def k4_r7 : List COp := [o 35 (pB .lss 3 34 33 3)]
def k4_r8 : List COp := [o 36 (pI 50 32 34),
o 37 (pL 53 36),
o 10 (.alloc 53),
oS 53 10 37]
def k4_r9 : CC := (.wregion [
(true, oX 38 (pM 7)),
(false, oX 39 (pF 53 10 0)),
(false, oX 40 (pL 9 39)),
(false, oX 41 (pF 53 10 1)),
(false, oX 42 (pL 30 41)),
(false, oX 43 (.call { callee := .value (.func 9), args := #[.tmp 38, .tmp 40, .tmp 42], argTypes := #[26, 9, 30] })),
(true, oX 44 (pM 8)),
(false, oX 45 (pF 53 10 0)),
(true, oX 46 (pL 9 45)),
(false, o 47 (pF 53 10 1)),
(true, o 48 (pL 30 47)),
(false, o 49 (.call { callee := .value (.func 10), args := #[.tmp 44, .tmp 46, .tmp 48], argTypes := #[28, 9, 30] })),
(true, o 50 (pB .neq 33 43 49 33)),
(false, o 51 (pM 50)),
(false, ⟨some 52, .move (.tmp 7), some (51, false), false⟩),
(false, ⟨some 53, .fieldAddr 53 (.tmp 10) 0, some (51, false), false⟩),
(false, ⟨some 54, .load 9 (.tmp 53), some (51, false), false⟩),
(false, ⟨some 55, .call { callee := .value (.func 11), args := #[.tmp 52, .tmp 54], argTypes := #[26, 9] }, some (51, false), false⟩),
(true, ⟨some 56, .move (.tmp 8), some (51, false), false⟩),
(false, oF 57 (pF 53 10 0) 51),
(true, oF 58 (pL 9 57) 51),
(false, oF 59 (pD 12 56 58 28 9) 51),
(false, oF 60 (pB .neq 33 55 59 33) 51),
(false, o 61 (pV 51 60))] false [(8, oX 46 (pL 9 45), [0, 6]), (10, o 48 (pL 30 47), [0, 6]), (20, oF 58 (pL 9 57) 51, [12, 18])])
def k4_r10 : List COp := [o 6 (pO false)]
def k4_r11 : List COp := [o 62 (pK .add 3 34 .i64 1 3),
o 34 (pM 62)]
def k4_l0 : CC := (.seq (.region k4_r7) (.seq (.cond (.tmp 35) .skip (.exit 0)) (.seq (.block 1 (.seq (.region k4_r8) (.seq k4_r9 (.cond (.tmp 61) (.seq (.region k4_r10) .ret) .skip)))) (.region k4_r11))))
def k4_r12 : List COp := [o 11 (.assign (.const (.pointer .none)))]
def k4_r13 : List COp := [o 12 (.assign (.const (.pointer .none)))]
def k4_r14 : List COp := [o 63 (pM 2),
o 64 (pN 63 51),
o 65 (pW .i64 0)]
def k4_r15 : List COp := [o 66 (pB .lss 3 65 64 3)]
def k4_r16 : List COp := [o 67 (pI 51 63 65),
o 68 (pL 56 67),
o 14 (.alloc 56),
oS 56 14 68]
def k4_r17 : List COp := [o 15 (pZ .i64 0),
o 16 (pZ .i64 0)]
def k4_r18 : List COp := [o 17 (pZ .i64 0),
o 18 (pZ .i64 0)]
def k4_r19 : List COp := [o 69 (pF 56 14 0),
o 70 (pL 3 69)]
def k4_r20 : List COp := [o 72 (pK .eql 3 70 .i64 0 3),
o 71 (pA 72)]
def k4_r21 : List COp := [o 73 (pM 11),
o 74 (.binOp .neq 54 (.tmp 73) (.const (.pointer .none)) 54),
o 75 (pM 74),
oT 76 (pM 12) 75,
oT 77 (.binOp .neq 55 (.tmp 76) (.const (.pointer .none)) 55) 75,
o 78 (pU 75 77)]
def k4_r22 : List COp := [o 80 (pM 11),
o 81 (pF 56 14 3),
o 82 (pL 30 81),
o 83 (pD 27 80 82 54 30),
o 79 (pM 83),
o 84 (pX 79 0),
o 85 (pX 79 1),
o 15 (pA 84),
o 17 (pA 85)]
def k4_r23 : List COp := [o 87 (pM 12),
o 88 (pF 56 14 3),
o 89 (pL 30 88),
o 90 (pD 28 87 89 55 30),
o 86 (pM 90),
o 91 (pX 86 0),
o 92 (pX 86 1),
o 16 (pA 91),
o 18 (pA 92)]
def k4_r24 : List COp := [o 94 (pK .eql 3 70 .i64 1 3),
o 93 (pA 94)]
def k4_r25 : List COp := [o 95 (pM 11),
o 96 (.binOp .neq 54 (.tmp 95) (.const (.pointer .none)) 54),
o 97 (pM 96),
oT 98 (pM 12) 97,
oT 99 (.binOp .neq 55 (.tmp 98) (.const (.pointer .none)) 55) 97,
o 100 (pU 97 99)]
def k4_r26 : List COp := [o 102 (pM 11),
o 103 (pF 56 14 1),
o 104 (pL 3 103),
o 105 (pD 29 102 104 54 3),
o 101 (pM 105),
o 106 (pX 101 0),
o 107 (pX 101 1),
o 15 (pA 106),
o 17 (pA 107)]
def k4_r27 : List COp := [o 109 (pM 12),
o 110 (pF 56 14 1),
o 111 (pL 3 110),
o 112 (pD 30 109 111 55 3),
o 108 (pM 112),
o 113 (pX 108 0),
o 114 (pX 108 1),
o 16 (pA 113),
o 18 (pA 114)]
def k4_r28 : List COp := [o 116 (pK .eql 3 70 .i64 2 3),
o 115 (pA 116)]
def k4_r29 : List COp := [o 117 (pM 7),
o 118 (pF 56 14 1),
o 119 (pL 3 118),
o 120 (pF 56 14 2),
o 121 (pL 3 120),
o 122 (.call { callee := .value (.func 18), args := #[.tmp 117, .tmp 119, .tmp 121], argTypes := #[26, 3, 3] })]
def k4_r30 : List COp := [o 123 (pM 8),
o 124 (pF 56 14 1),
o 125 (pL 3 124),
o 126 (pF 56 14 2),
o 127 (pL 3 126),
o 128 (.call { callee := .value (.func 19), args := #[.tmp 123, .tmp 125, .tmp 127], argTypes := #[28, 3, 3] })]
def k4_r31 : List COp := [o 130 (pK .eql 3 70 .i64 3 3),
o 129 (pA 130)]
def k4_r32 : List COp := [o 131 (pM 7),
o 132 (pF 56 14 2),
o 133 (pL 3 132),
o 134 (pD 20 131 133 26 3)]
def k4_r33 : List COp := [o 135 (pM 8),
o 136 (pF 56 14 2),
o 137 (pL 3 136),
o 138 (pD 21 135 137 28 3)]
def k4_r34 : List COp := [o 140 (pK .eql 3 70 .i64 4 3),
o 139 (pA 140)]
def k4_r35 : List COp := [o 141 (pK .eql 3 70 .i64 5 3),
o 139 (pA 141)]
def k4_r36 : List COp := [o 142 (pF 56 14 0),
o 143 (pL 3 142),
o 144 (pK .eql 3 143 .i64 4 3)]
def k4_r37 : List COp := [o 145 (pM 7),
o 146 (pC 22 145 26)]
def k4_r38 : List COp := [o 147 (pM 8),
o 148 (.nilCheck (.tmp 147)),
o 149 (pF 48 148 2),
⟨none, .store 4 (.tmp 149) (.const (.bool true)), none, true⟩]
def k4_r39 : List COp := [o 19 (.assign (.const (.slice .none 0 0))),
o 20 (.assign (.const (.slice .none 0 0)))]
def k4_r40 : List COp := [o 151 (pM 7),
o 152 (pM 1),
o 153 (pD 31 151 152 26 3),
o 150 (pM 153),
o 154 (pX 150 0),
o 155 (pX 150 1),
o 156 (pX 150 2),
o 157 (pX 150 3),
o 11 (pA 154),
o 19 (pA 155),
o 15 (pA 156),
o 17 (pA 157)]
def k4_r41 : List COp := [o 159 (pM 8),
o 160 (pM 1),
o 161 (pD 32 159 160 28 3),
o 158 (pM 161),
o 162 (pX 158 0),
o 163 (pX 158 1),
o 164 (pX 158 2),
o 165 (pX 158 3),
o 12 (pA 162),
o 20 (pA 163),
o 16 (pA 164),
o 18 (pA 165)]
def k4_r42 : List COp := [o 166 (pM 19),
o 167 (pM 20),
o 168 (pD 33 166 167 60 60),
o 169 (.unOp .not 4 (.tmp 168)),
o 170 (pM 169),
oF 171 (pM 11) 170,
oF 172 (.binOp .eql 54 (.tmp 171) (.const (.pointer .none)) 54) 170,
oF 173 (pM 12) 170,
oF 174 (.binOp .eql 55 (.tmp 173) (.const (.pointer .none)) 55) 170,
oF 175 (pB .neq 4 172 174 4) 170,
o 176 (pV 170 175)]
def k4_r43 : List COp := [o 6 (pO false)]
def k4_r44 : List COp := [o 178 (pK .eql 3 70 .i64 6 3),
o 177 (pA 178)]
def k4_r45 : List COp := [o 179 (pM 7),
o 180 (pF 56 14 1),
o 181 (pL 3 180),
o 182 (pD 23 179 181 26 3)]
def k4_r46 : List COp := [o 183 (pM 8),
o 184 (pF 56 14 1),
o 185 (pL 3 184),
o 186 (.nilCheck (.tmp 183)),
o 187 (pF 48 186 1),
oS 3 187 185]
def k4_r47 : CC := (.wregion [
(false, oX 188 (pM 15)),
(false, o 189 (pM 16)),
(false, o 190 (pB .neq 3 188 189 3)),
(false, o 191 (pM 190)),
(false, ⟨some 192, .move (.tmp 17), some (191, false), false⟩),
(false, oF 193 (pM 18) 191),
(false, oF 194 (pB .neq 33 192 193 33) 191),
(false, o 195 (pV 191 194)),
(false, o 196 (pM 195)),
(false, ⟨some 197, .move (.tmp 7), some (196, false), false⟩),
(false, oF 198 (pM 8) 196),
(false, oF 199 (pD 34 197 198 26 28) 196),
(true, oF 200 (.unOp .not 4 (.tmp 199)) 196),
(false, o 201 (pV 196 200)),
(false, o 202 (pM 201)),
(false, oF 203 (pM 11) 202),
(false, oF 204 (.binOp .neq 54 (.tmp 203) (.const (.pointer .none)) 54) 202),
(false, oF 205 (pM 204) 202),
(false, oT 206 (pM 12) 205),
(false, oT 207 (.binOp .neq 55 (.tmp 206) (.const (.pointer .none)) 55) 205),
(false, oF 208 (pU 205 207) 202),
(false, oF 209 (pM 208) 202),
(false, ⟨some 210, .move (.tmp 11), some (209, true), false⟩),
(false, ⟨some 211, .call { callee := .value (.func 35), args := #[.tmp 210], argTypes := #[54] }, some (209, true), false⟩),
(true, oT 212 (pM 12) 209),
(false, oT 213 (.nilCheck (.tmp 212)) 209),
(false, oT 214 (pF 68 213 3) 209),
(true, oT 215 (pL 3 214) 209),
(false, oT 216 (pB .neq 3 211 215 3) 209),
(false, oF 217 (pU 209 216) 202),
(false, o 218 (pV 202 217))] false [(27, oT 215 (pL 3 214) 209, [12, 24])])
def k4_r48 : List COp := [o 6 (pO false)]
def k4_r49 : List COp := [o 219 (pK .add 3 65 .i64 1 3),
o 65 (pM 219)]
def k4_l1 : CC := (.seq (.region k4_r15) (.seq (.cond (.tmp 66) .skip (.exit 2)) (.seq (.block 3 (.seq (.region k4_r16) (.seq (.region k4_r17) (.seq (.region k4_r18) (.seq (.seq (.region k4_r19) (.block 4 (.seq (.region k4_r20) (.cond (.tmp 71) (.seq (.region k4_r21) (.cond (.tmp 78) (.seq (.region k4_r22) (.region k4_r23)) .skip)) (.seq (.region k4_r24) (.cond (.tmp 93) (.seq (.region k4_r25) (.cond (.tmp 100) (.seq (.region k4_r26) (.region k4_r27)) .skip)) (.seq (.region k4_r28) (.cond (.tmp 115) (.seq (.region k4_r29) (.region k4_r30)) (.seq (.region k4_r31) (.cond (.tmp 129) (.seq (.region k4_r32) (.region k4_r33)) (.seq (.seq (.region k4_r34) (.cond (.tmp 139) .skip (.region k4_r35))) (.cond (.tmp 139) (.seq (.seq (.region k4_r36) (.cond (.tmp 144) (.seq (.region k4_r37) (.region k4_r38)) .skip)) (.seq (.region k4_r39) (.seq (.region k4_r40) (.seq (.region k4_r41) (.seq (.region k4_r42) (.cond (.tmp 176) (.seq (.region k4_r43) .ret) .skip)))))) (.seq (.region k4_r44) (.cond (.tmp 177) (.seq (.region k4_r45) (.region k4_r46)) .skip)))))))))))))) (.seq k4_r47 (.cond (.tmp 218) (.seq (.region k4_r48) .ret) .skip))))))) (.region k4_r49))))
def k4_r50 : List COp := [o 221 (pM 1),
o 222 (.call { callee := .value (.func 31), args := #[.const (.pointer .none), .tmp 221], argTypes := #[26, 3] }),
o 220 (pM 222),
o 223 (pX 220 0),
o 224 (pX 220 1),
o 225 (pX 220 2),
o 226 (pX 220 3),
o 21 (pA 223),
o 22 (pA 224),
o 23 (pA 225),
o 24 (pA 226)]
def k4_r51 : List COp := [o 227 (pM 24),
o 228 (pK .eql 33 227 .i64 2 33),
o 6 (pA 228)]
def k4 : CC := (.seq (.region k4_r0) (.seq (.seq (.region k4_r1) (.cond (.tmp 26) (.seq (.region k4_r2) .ret) .skip)) (.seq (.seq (.region k4_r3) (.cond (.tmp 29) (.seq (.region k4_r4) .ret) .skip)) (.seq (.region k4_r5) (.seq (.seq (.region k4_r6) (.block 0 (.loop k4_l0))) (.seq (.region k4_r12) (.seq (.region k4_r13) (.seq (.seq (.region k4_r14) (.block 2 (.loop k4_l1))) (.seq (.region k4_r50) (.seq (.region k4_r51) .ret))))))))))
def k4_p := PLift.up <| aI (vE k4.eq_1) <| aO k4_r0.eq_1 <| aO k4_r1.eq_1 <| aO k4_r2.eq_1 <| aO k4_r3.eq_1 <| aO k4_r4.eq_1 <| aO k4_r5.eq_1 <| aO k4_r6.eq_1 <| aO k4_r7.eq_1 <| aO k4_r8.eq_1 <| aI (vE k4_r9.eq_1) <| aO k4_r10.eq_1 <| aO k4_r11.eq_1 <| aI (vE k4_l0.eq_1) <| aO k4_r12.eq_1 <| aO k4_r13.eq_1 <| aO k4_r14.eq_1 <| aO k4_r15.eq_1 <| aO k4_r16.eq_1 <| aO k4_r17.eq_1 <| aO k4_r18.eq_1 <| aO k4_r19.eq_1 <| aO k4_r20.eq_1 <| aO k4_r21.eq_1 <| aO k4_r22.eq_1 <| aO k4_r23.eq_1 <| aO k4_r24.eq_1 <| aO k4_r25.eq_1 <| aO k4_r26.eq_1 <| aO k4_r27.eq_1 <| aO k4_r28.eq_1 <| aO k4_r29.eq_1 <| aO k4_r30.eq_1 <| aO k4_r31.eq_1 <| aO k4_r32.eq_1 <| aO k4_r33.eq_1 <| aO k4_r34.eq_1 <| aO k4_r35.eq_1 <| aO k4_r36.eq_1 <| aO k4_r37.eq_1 <| aO k4_r38.eq_1 <| aO k4_r39.eq_1 <| aO k4_r40.eq_1 <| aO k4_r41.eq_1 <| aO k4_r42.eq_1 <| aO k4_r43.eq_1 <| aO k4_r44.eq_1 <| aO k4_r45.eq_1 <| aO k4_r46.eq_1 <| aI (vE k4_r47.eq_1) <| aO k4_r48.eq_1 <| aO k4_r49.eq_1 <| aI (vE k4_l1.eq_1) <| aI (oE k4_r50.eq_1) (oE k4_r51.eq_1)
theorem k4_a : type_of% k4_p.down := k4_p.down
theorem k4_is : FnIs Tryz.prog prims 4 229 [ResultVar.tmp 6] k4 := FnIs.of_fn Tryz.func4 (by kernel_rfl) rfl
def k5_r0 : List COp := [o 0 (pO false)]
def k5_r1 : List COp := [o 6 (.call { callee := .value (.func 7), args := #[.const (.int .i64 1000)], argTypes := #[3] }),
o 1 (pA 6)]
def k5_r2 : CC := (.hreg [
(false, o 7 (pM 1)),
(true, o 8 (.buildSlice 30 2 #[(0, .const (.int .u8 97)), (1, .const (.int .u8 98))])),
(true, o 9 (.convert 30 30 (.tmp 8))),
(false, o 10 (.call { callee := .value (.func 13), args := #[.tmp 7, .const (.int .i64 7), .tmp 9], argTypes := #[26, 3, 30] })),
(false, o 11 (pK .neq 33 10 .i64 0 33))])
def k5_r3 : List COp := [o 0 (pO false)]
def k5_r4 : List COp := [o 13 (pM 1),
o 14 (pC 15 13 26),
o 12 (pM 14),
o 15 (pX 12 0),
o 16 (pX 12 1),
o 17 (pX 12 2),
o 2 (pA 15),
o 3 (pA 16),
o 4 (pA 17)]
def k5_r5 : List COp := [o 18 (pM 1),
o 19 (pC 36 18 26),
o 5 (pA 19)]
def k5_r6 : List COp := [o 20 (pM 2),
o 21 (pK .eql 3 20 .i64 7 3),
o 22 (pM 21),
oT 23 (pM 3) 22,
oT 24 (.convert 30 9 (.tmp 23)) 22,
oT 25 (.binOp .eql 9 (.tmp 24) (.const (.string { data := #[97, 98] })) 9) 22,
o 26 (pU 22 25),
o 27 (pM 26),
oT 28 (pM 4) 27,
oT 29 (pK .eql 33 28 .i64 0 33) 27,
o 30 (pU 27 29),
o 31 (pM 30),
oT 32 (pM 5) 31,
oT 33 (pN 32 70) 31,
oT 34 (pK .eql 3 33 .i64 1 3) 31,
o 35 (pU 31 34),
o 36 (pM 35),
oT 37 (pM 5) 36,
oT 38 (.indexAddr 70 (.tmp 37) (.const (.int .i64 0))) 36,
oT 39 (pL 9 38) 36,
oT 40 (.binOp .eql 9 (.tmp 39) (.const (.string { data := #[115, 48, 48, 48, 48, 48, 48, 48, 48, 55] })) 9) 36,
o 41 (pU 36 40),
o 0 (pA 41)]
def k5 : CC := (.seq (.region k5_r0) (.seq (.region k5_r1) (.seq (.seq k5_r2 (.cond (.tmp 11) (.seq (.region k5_r3) .ret) .skip)) (.seq (.region k5_r4) (.seq (.region k5_r5) (.seq (.region k5_r6) .ret))))))
def k6_r0 : List COp := [o 4 (pO false)]
def k6_r1 : List COp := [o 5 (pZ .i64 0)]
def k6_r2 : List COp := [o 10 (pM 0),
o 11 (pN 10 22),
o 12 (pW .i64 0)]
def k6_r3 : List COp := [o 13 (pB .lss 3 12 11 3)]
def k6_r4 : List COp := [o 14 (pI 22 10 12),
o 15 (pL 32 14),
o 7 (.alloc 32),
oS 32 7 15]
def k6_r5 : List COp := [o 16 (pM 5),
o 17 (pF 32 7 1),
o 18 (pL 30 17),
o 19 (pN 18 30),
o 20 (pB .add 3 16 19 3),
o 5 (pA 20)]
def k6_r6 : List COp := [o 21 (pM 5),
o 22 (pK .gtr 3 21 .i64 65536 3)]
def k6_r7 : List COp := [o 4 (pO true)]
def k6_r8 : List COp := [o 23 (pK .add 3 12 .i64 1 3),
o 12 (pM 23)]
def k6_l0 : CC := (.seq (.region k6_r3) (.seq (.cond (.tmp 13) .skip (.exit 0)) (.seq (.block 1 (.seq (.region k6_r4) (.seq (.region k6_r5) (.seq (.region k6_r6) (.cond (.tmp 22) (.seq (.region k6_r7) .ret) .skip))))) (.region k6_r8))))
def k6_r9 : CC := (.hreg [
(false, o 24 (pM 1)),
(true, o 25 (pN 24 23)),
(false, o 26 (pW .i64 0))])
def k6_r10 : List COp := [o 27 (pB .lss 3 26 25 3)]
def k6_r11 : List COp := [o 28 (pI 23 24 26),
o 29 (pL 37 28),
o 9 (.alloc 37),
oS 37 9 29]
def k6_r12 : List COp := [o 30 (pM 5),
o 31 (pF 37 9 3),
o 32 (pL 30 31),
o 33 (pN 32 30),
o 34 (pB .add 3 30 33 3),
o 5 (pA 34)]
def k6_r13 : List COp := [o 35 (pM 5),
o 36 (pK .gtr 3 35 .i64 4194304 3)]
def k6_r14 : List COp := [o 4 (pO true)]
def k6_r15 : List COp := [o 37 (pK .add 3 26 .i64 1 3),
o 26 (pM 37)]
def k6_l1 : CC := (.seq (.region k6_r10) (.seq (.cond (.tmp 27) .skip (.exit 2)) (.seq (.block 3 (.seq (.region k6_r11) (.seq (.region k6_r12) (.seq (.region k6_r13) (.cond (.tmp 36) (.seq (.region k6_r14) .ret) .skip))))) (.region k6_r15))))
def k6_r16 : List COp := [o 38 (pM 1),
o 39 (pN 38 23),
o 40 (pK .gtr 3 39 .i64 256 3),
o 41 (pM 40),
oF 42 (pM 0) 41,
oF 43 (pN 42 22) 41,
oF 44 (pK .gtr 3 43 .i64 16 3) 41,
o 45 (pV 41 44),
o 4 (pA 45)]
def k6 : CC := (.seq (.region k6_r0) (.seq (.region k6_r1) (.seq (.seq (.region k6_r2) (.block 0 (.loop k6_l0))) (.seq (.seq k6_r9 (.block 2 (.loop k6_l1))) (.seq (.region k6_r16) .ret)))))
def k7_r0 : List COp := [o 2 (.assign (.const (.pointer .none)))]
def k7_r1 : List COp := [o 3 (.makeMap 72 .none),
o 4 (pM 0),
o 5 (.build 74 #[(0, .tmp 3), (1, .tmp 4)]),
o 6 (.box 74 (.tmp 5)),
o 2 (pA 6)]
def k7 : CC := (.seq (.region k7_r0) (.seq (.region k7_r1) .ret))
def k7_p := PLift.up <| aI (vE k7.eq_1) <| aI (oE k7_r0.eq_1) (oE k7_r1.eq_1)
theorem k7_a : type_of% k7_p.down := k7_p.down
theorem k7_is : FnIs Tryz.prog prims 7 7 [ResultVar.tmp 2] k7 := FnIs.of_fn Tryz.func7 (by kernel_rfl) rfl
def k8_r0 : List COp := [o 2 (.assign (.const (.pointer .none)))]
def k8_r1 : List COp := [o 3 (pM 0),
o 4 (.build 48 #[(1, .tmp 3), (2, .const (.bool true))]),
o 5 (.box 48 (.tmp 4)),
o 2 (pA 5)]
def k8 : CC := (.seq (.region k8_r0) (.seq (.region k8_r1) .ret))
def k8_p := PLift.up <| aI (vE k8.eq_1) <| aI (oE k8_r0.eq_1) (oE k8_r1.eq_1)
theorem k8_a : type_of% k8_p.down := k8_p.down
theorem k8_is : FnIs Tryz.prog prims 8 6 [ResultVar.tmp 2] k8 := FnIs.of_fn Tryz.func8 (by kernel_rfl) rfl
def k9_r0 : List COp := [o 6 (pZ .i64 0)]
def k9_r1 : List COp := [o 9 (pM 0),
o 10 (pM 1),
o 11 (pD 37 9 10 26 9),
o 7 (pA 11)]
def k9_r2 : List COp := [o 12 (pM 7),
o 13 (pK .neq 33 12 .i64 0 33)]
def k9_r3 : List COp := [o 14 (pM 7),
o 6 (pA 14)]
def k9_r4 : List COp := [o 15 (pM 0),
o 16 (.nilCheck (.tmp 15)),
o 17 (pF 74 16 0),
o 18 (pL 72 17),
o 19 (pM 1),
o 20 (.lookup 72 (.tmp 18) (.tmp 19) false),
o 8 (pA 20)]
def k9_r5 : List COp := [o 22 (pM 8),
o 23 (.binOp .neq 75 (.tmp 22) (.const (.pointer .none)) 75),
o 24 (pM 23),
⟨some 25, .move (.tmp 2), some (24, true), false⟩,
⟨some 26, .call { callee := .builtin .len, args := #[.tmp 25], argTypes := #[30] }, some (24, true), false⟩,
⟨some 27, .move (.tmp 8), some (24, true), false⟩,
⟨some 28, .nilCheck (.tmp 27), some (24, true), false⟩,
⟨some 29, .fieldAddr 77 (.tmp 28) 0, some (24, true), false⟩,
⟨some 30, .load 30 (.tmp 29), some (24, true), false⟩,
⟨some 31, .call { callee := .builtin .len, args := #[.tmp 30], argTypes := #[30] }, some (24, true), false⟩,
⟨some 32, .binOp .sub 3 (.const (.int .i64 1048576)) (.tmp 31) 3, some (24, true), false⟩,
oT 33 (pM 8) 24,
oT 34 (.nilCheck (.tmp 33)) 24,
oT 35 (pF 77 34 1) 24,
oT 36 (pL 30 35) 24,
oT 37 (pN 36 30) 24,
oT 38 (pB .sub 3 32 37 3) 24,
oT 39 (pB .gtr 3 26 38 3) 24,
o 40 (pU 24 39),
o 21 (pA 40)]
def k9_r6 : List COp := [o 41 (pM 2),
o 42 (pN 41 30),
o 43 (pK .gtr 3 42 .i64 1048576 3),
o 21 (pA 43)]
def k9_r7 : List COp := [o 6 (pZ .i64 3)]
def k9_r8 : CC := (.hreg [
(false, o 45 (pM 8)),
(false, o 46 (.binOp .eql 75 (.tmp 45) (.const (.pointer .none)) 75)),
(false, o 47 (pM 46)),
(false, oT 48 (pM 0) 47),
(false, oT 49 (.nilCheck (.tmp 48)) 47),
(false, oT 50 (pF 74 49 0) 47),
(false, oT 51 (pL 72 50) 47),
(true, oT 52 (pN 51 72) 47),
(false, oT 53 (pK .geq 3 52 .i64 16 3) 47),
(false, o 54 (pU 47 53)),
(false, o 44 (pA 54))])
def k9_r9 : CC := (.wregion [
(true, oX 55 (pM 0)),
(false, oX 56 (pC 38 55 26)),
(true, oX 57 (pM 2)),
(false, oX 58 (pN 57 30)),
(false, oX 59 (pB .add 3 56 58 3)),
(false, o 60 (pM 0)),
(false, o 61 (.nilCheck (.tmp 60))),
(false, o 62 (pF 74 61 1)),
(true, o 63 (pL 3 62)),
(false, o 64 (pB .gtr 3 59 63 3)),
(false, o 44 (pA 64))] false [(8, o 63 (pL 3 62), [0, 2])])
def k9_r10 : List COp := [o 6 (pZ .i64 22)]
def k9_r11 : List COp := [o 65 (pM 8),
o 66 (.binOp .eql 75 (.tmp 65) (.const (.pointer .none)) 75)]
def k9_r12 : List COp := [o 67 (.build 77 #[]),
o 68 (.box 77 (.tmp 67)),
o 8 (pA 68)]
def k9_r13 : List COp := [o 69 (pM 0),
o 70 (.nilCheck (.tmp 69)),
o 71 (pF 74 70 0),
o 72 (pL 72 71),
o 73 (pM 1),
o 74 (pM 8),
⟨none, .mapUpdate 72 (.tmp 72) (.tmp 73) (.tmp 74), none, true⟩]
def k9_r14 : CC := (.hreg [
(false, o 75 (pM 8)),
(false, o 76 (pM 8)),
(false, o 77 (.nilCheck (.tmp 76))),
(false, o 78 (pF 77 77 1)),
(false, o 79 (pL 30 78)),
(false, o 80 (pM 2)),
(true, o 81 (pQ 79 80 30 30)),
(false, o 82 (.nilCheck (.tmp 75))),
(false, o 83 (pF 77 82 1)),
(false, oS 30 83 81)])
def k9_r15 : List COp := [o 84 (pM 0),
o 85 (pC 39 84 26)]
def k9_r16 : List COp := [o 86 (pM 0),
o 87 (pC 40 86 26),
o 6 (pA 87)]
def k9_r17 : List COp := [o 6 (pZ .i64 0)]
def k9 : CC := (.seq (.region k9_r0) (.seq (.seq (.region k9_r1) (.seq (.region k9_r2) (.cond (.tmp 13) (.seq (.region k9_r3) .ret) .skip))) (.seq (.region k9_r4) (.seq (.block 0 (.seq (.seq (.region k9_r5) (.cond (.tmp 21) .skip (.region k9_r6))) (.cond (.tmp 21) (.seq (.region k9_r7) .ret) (.seq (.seq k9_r8 (.cond (.tmp 44) .skip k9_r9)) (.cond (.tmp 44) (.seq (.region k9_r10) .ret) .skip))))) (.seq (.seq (.region k9_r11) (.cond (.tmp 66) (.seq (.region k9_r12) (.region k9_r13)) .skip)) (.seq k9_r14 (.seq (.seq (.region k9_r15) (.cond (.tmp 85) (.seq (.region k9_r16) .ret) .skip)) (.seq (.region k9_r17) .ret))))))))
def k9_p := PLift.up <| aI (vE k9.eq_1) <| aO k9_r0.eq_1 <| aO k9_r1.eq_1 <| aO k9_r2.eq_1 <| aO k9_r3.eq_1 <| aO k9_r4.eq_1 <| aO k9_r5.eq_1 <| aO k9_r6.eq_1 <| aO k9_r7.eq_1 <| aI (vE k9_r8.eq_1) <| aI (vE k9_r9.eq_1) <| aO k9_r10.eq_1 <| aO k9_r11.eq_1 <| aO k9_r12.eq_1 <| aO k9_r13.eq_1 <| aI (vE k9_r14.eq_1) <| aO k9_r15.eq_1 <| aI (oE k9_r16.eq_1) (oE k9_r17.eq_1)
theorem k9_a : type_of% k9_p.down := k9_p.down
theorem k9_is : FnIs Tryz.prog prims 9 88 [ResultVar.tmp 6] k9 := FnIs.of_fn Tryz.func9 (by kernel_rfl) rfl
def k10_r0 : List COp := [o 6 (pZ .i64 0)]
def k10_r1 : List COp := [o 10 (pM 0),
o 11 (pM 1),
o 12 (pD 41 10 11 28 9),
o 7 (pA 12)]
def k10_r2 : List COp := [o 13 (pM 7),
o 14 (pK .neq 33 13 .i64 0 33)]
def k10_r3 : List COp := [o 15 (pM 7),
o 6 (pA 15)]
def k10_r4 : List COp := [o 16 (pM 0),
o 17 (pM 1),
o 18 (pD 42 16 17 28 9),
o 8 (pA 18)]
def k10_r5 : List COp := [o 19 (pM 1),
o 20 (.build 81 #[(0, .tmp 19)]),
o 9 (.alloc 81),
oS 81 9 20]
def k10_r6 : List COp := [o 21 (pM 8),
o 22 (pK .geq 3 21 .i64 0 3)]
def k10_r7 : List COp := [o 23 (pM 0),
o 24 (.nilCheck (.tmp 23)),
o 25 (pF 48 24 0),
o 26 (pL 46 25),
o 27 (pM 8),
o 28 (pI 46 26 27),
o 29 (pL 81 28),
oS 81 9 29]
def k10_r8 : List COp := [o 30 (pF 81 9 1),
o 31 (pL 30 30),
o 32 (pN 31 30),
o 33 (pF 81 9 2),
o 34 (pL 30 33),
o 35 (pN 34 30),
o 36 (pB .add 3 32 35 3),
o 37 (pM 2),
o 38 (pN 37 30),
o 39 (pB .add 3 36 38 3),
o 40 (pK .gtr 3 39 .i64 1048576 3)]
def k10_r9 : List COp := [o 6 (pZ .i64 3)]
def k10_r10 : CC := (.wregion [
(true, o 41 (pM 8)),
(false, o 42 (pK .lss 3 41 .i64 0 3)),
(false, o 43 (pM 42)),
(false, oT 44 (pM 0) 43),
(false, oT 45 (.nilCheck (.tmp 44)) 43),
(false, oT 46 (pF 48 45 0) 43),
(false, oT 47 (pL 46 46) 43),
(false, oT 48 (pN 47 46) 43),
(false, oT 49 (pK .geq 3 48 .i64 16 3) 43),
(false, o 50 (pU 43 49)),
(false, o 51 (pM 50)),
(false, ⟨some 52, .move (.tmp 0), some (51, false), false⟩),
(false, ⟨some 53, .call { callee := .value (.func 43), args := #[.tmp 52], argTypes := #[28] }, some (51, false), false⟩),
(true, ⟨some 54, .move (.tmp 2), some (51, false), false⟩),
(false, ⟨some 55, .call { callee := .builtin .len, args := #[.tmp 54], argTypes := #[30] }, some (51, false), false⟩),
(false, ⟨some 56, .binOp .add 3 (.tmp 53) (.tmp 55) 3, some (51, false), false⟩),
(false, oF 57 (pM 0) 51),
(false, oF 58 (.nilCheck (.tmp 57)) 51),
(false, oF 59 (pF 48 58 1) 51),
(true, oF 60 (pL 3 59) 51),
(false, oF 61 (pB .gtr 3 56 60 3) 51),
(false, o 62 (pV 51 61))] false [(19, oF 60 (pL 3 59) 51, [0, 13])])
def k10_r11 : List COp := [o 6 (pZ .i64 22)]
def k10_r12 : List COp := [o 63 (.buildSlice 30 0 #[]),
o 64 (pF 81 9 2),
o 65 (pL 30 64),
o 66 (pQ 63 65 30 30),
o 67 (pM 2),
o 68 (pQ 66 67 30 30),
o 69 (pF 81 9 2),
oS 30 69 68]
def k10_r13 : List COp := [o 70 (pM 0),
o 71 (pL 81 9),
o 72 (pD 44 70 71 28 81)]
def k10_r14 : List COp := [o 73 (pM 0),
o 74 (pC 45 73 28)]
def k10_r15 : List COp := [o 75 (pM 0),
o 76 (pM 0),
o 77 (.nilCheck (.tmp 76)),
o 78 (pF 48 77 5),
o 79 (pL 3 78),
o 80 (pD 21 75 79 28 3)]
def k10_r16 : List COp := [o 6 (pZ .i64 20)]
def k10_r17 : List COp := [o 6 (pZ .i64 0)]
def k10 : CC := (.seq (.region k10_r0) (.seq (.region k10_r1) (.seq (.seq (.region k10_r2) (.cond (.tmp 14) (.seq (.region k10_r3) .ret) .skip)) (.seq (.region k10_r4) (.seq (.region k10_r5) (.seq (.seq (.region k10_r6) (.cond (.tmp 22) (.region k10_r7) .skip)) (.seq (.seq (.region k10_r8) (.cond (.tmp 40) (.seq (.region k10_r9) .ret) .skip)) (.seq (.seq k10_r10 (.cond (.tmp 62) (.seq (.region k10_r11) .ret) .skip)) (.seq (.region k10_r12) (.seq (.region k10_r13) (.seq (.seq (.region k10_r14) (.cond (.tmp 74) (.seq (.region k10_r15) (.seq (.region k10_r16) .ret)) .skip)) (.seq (.region k10_r17) .ret))))))))))))
def k10_p := PLift.up <| aI (vE k10.eq_1) <| aO k10_r0.eq_1 <| aO k10_r1.eq_1 <| aO k10_r2.eq_1 <| aO k10_r3.eq_1 <| aO k10_r4.eq_1 <| aO k10_r5.eq_1 <| aO k10_r6.eq_1 <| aO k10_r7.eq_1 <| aO k10_r8.eq_1 <| aO k10_r9.eq_1 <| aI (vE k10_r10.eq_1) <| aO k10_r11.eq_1 <| aO k10_r12.eq_1 <| aO k10_r13.eq_1 <| aO k10_r14.eq_1 <| aO k10_r15.eq_1 <| aI (oE k10_r16.eq_1) (oE k10_r17.eq_1)
theorem k10_a : type_of% k10_p.down := k10_p.down
theorem k10_is : FnIs Tryz.prog prims 10 81 [ResultVar.tmp 6] k10 := FnIs.of_fn Tryz.func10 (by kernel_rfl) rfl
def k11_r0 : List COp := [o 4 (pZ .i64 0)]
def k11_r1 : List COp := [o 8 (pM 0),
o 9 (pM 1),
o 10 (pD 46 8 9 26 9),
o 7 (pM 10),
o 11 (pX 7 0),
o 12 (pX 7 1),
o 5 (pA 11),
o 6 (pA 12)]
def k11_r2 : List COp := [o 13 (pM 6),
o 14 (pK .neq 33 13 .i64 0 33)]
def k11_r3 : List COp := [o 15 (pM 6),
o 4 (pA 15)]
def k11_r4 : List COp := [o 16 (pM 0),
o 17 (pC 39 16 26)]
def k11_r5 : List COp := [o 18 (pM 0),
o 19 (pC 40 18 26),
o 4 (pA 19)]
def k11_r6 : List COp := [oX 20 (pM 5),
oX 21 (pM 5),
oX 22 (pM 5),
oX 23 (.nilCheck (.tmp 22)),
oX 24 (pF 77 23 0),
oX 25 (pL 30 24),
o 26 (pM 5),
o 27 (.nilCheck (.tmp 26)),
o 28 (pF 77 27 1),
o 29 (pL 30 28),
o 30 (.call { callee := .builtin .append, args := #[.tmp 25, .tmp 29], argTypes := #[30, 30, 0] }),
o 31 (.nilCheck (.tmp 20)),
o 32 (pF 77 31 0),
oS 30 32 30,
o 33 (.nilCheck (.tmp 21)),
o 34 (pF 77 33 1),
⟨none, .store 30 (.tmp 34) (.const (.slice .none 0 0)), none, true⟩]
def k11_r7 : List COp := [o 4 (pZ .i64 0)]
def k11 : CC := (.seq (.region k11_r0) (.seq (.region k11_r1) (.seq (.seq (.region k11_r2) (.cond (.tmp 14) (.seq (.region k11_r3) .ret) .skip)) (.seq (.seq (.region k11_r4) (.cond (.tmp 17) (.seq (.region k11_r5) .ret) .skip)) (.seq (.region k11_r6) (.seq (.region k11_r7) .ret))))))
def k11_p := PLift.up <| aI (vE k11.eq_1) <| aO k11_r0.eq_1 <| aO k11_r1.eq_1 <| aO k11_r2.eq_1 <| aO k11_r3.eq_1 <| aO k11_r4.eq_1 <| aO k11_r5.eq_1 <| aI (oE k11_r6.eq_1) (oE k11_r7.eq_1)
theorem k11_a : type_of% k11_p.down := k11_p.down
theorem k11_is : FnIs Tryz.prog prims 11 35 [ResultVar.tmp 4] k11 := FnIs.of_fn Tryz.func11 (by kernel_rfl) rfl
def k12_r0 : List COp := [o 4 (pZ .i64 0)]
def k12_r1 : List COp := [o 8 (pM 0),
o 9 (pM 1),
o 10 (pD 41 8 9 28 9),
o 5 (pA 10)]
def k12_r2 : List COp := [o 11 (pM 5),
o 12 (pK .neq 33 11 .i64 0 33)]
def k12_r3 : List COp := [o 13 (pM 5),
o 4 (pA 13)]
def k12_r4 : List COp := [o 14 (pM 0),
o 15 (pM 1),
o 16 (pD 42 14 15 28 9),
o 6 (pA 16)]
def k12_r5 : List COp := [o 17 (pM 6),
o 18 (pK .lss 3 17 .i64 0 3)]
def k12_r6 : List COp := [o 4 (pZ .i64 21)]
def k12_r7 : List COp := [o 19 (pM 0),
o 20 (pC 45 19 28)]
def k12_r8 : List COp := [o 21 (pM 0),
o 22 (pM 0),
o 23 (.nilCheck (.tmp 22)),
o 24 (pF 48 23 5),
o 25 (pL 3 24),
o 26 (pD 21 21 25 28 3)]
def k12_r9 : List COp := [o 4 (pZ .i64 20)]
def k12_r10 : List COp := [o 27 (pM 0),
o 28 (.nilCheck (.tmp 27)),
o 29 (pF 48 28 0),
o 30 (pL 46 29),
o 31 (pM 6),
o 32 (pI 46 30 31),
o 33 (pL 81 32),
o 7 (.alloc 81),
oS 81 7 33]
def k12_r11 : CC := (.wregion [
(true, oX 34 (pM 0)),
(false, oX 35 (.nilCheck (.tmp 34))),
(false, oX 36 (pF 48 35 0)),
(true, oX 37 (pL 46 36)),
(false, oX 38 (pM 6)),
(false, oX 39 (pM 1)),
(false, oX 40 (.buildSlice 30 0 #[])),
(false, oX 41 (pF 81 7 1)),
(false, oX 42 (pL 30 41)),
(false, oX 43 (pQ 40 42 30 30)),
(true, o 44 (pF 81 7 2)),
(true, o 45 (pL 30 44)),
(false, o 46 (pQ 43 45 30 30)),
(true, o 47 (.build 81 #[(0, .tmp 39), (1, .tmp 46)])),
(false, o 48 (pI 46 37 38)),
(false, oS 81 48 47)] false [(3, oX 37 (pL 46 36), [0, 10, 13]), (11, o 45 (pL 30 44), [0, 10])])
def k12_r12 : List COp := [o 4 (pZ .i64 0)]
def k12 : CC := (.seq (.region k12_r0) (.seq (.region k12_r1) (.seq (.seq (.region k12_r2) (.cond (.tmp 12) (.seq (.region k12_r3) .ret) .skip)) (.seq (.region k12_r4) (.seq (.seq (.region k12_r5) (.cond (.tmp 18) (.seq (.region k12_r6) .ret) .skip)) (.seq (.seq (.region k12_r7) (.cond (.tmp 20) (.seq (.region k12_r8) (.seq (.region k12_r9) .ret)) .skip)) (.seq (.region k12_r10) (.seq k12_r11 (.seq (.region k12_r12) .ret)))))))))
def k12_p := PLift.up <| aI (vE k12.eq_1) <| aO k12_r0.eq_1 <| aO k12_r1.eq_1 <| aO k12_r2.eq_1 <| aO k12_r3.eq_1 <| aO k12_r4.eq_1 <| aO k12_r5.eq_1 <| aO k12_r6.eq_1 <| aO k12_r7.eq_1 <| aO k12_r8.eq_1 <| aO k12_r9.eq_1 <| aO k12_r10.eq_1 <| aI (vE k12_r11.eq_1) (oE k12_r12.eq_1)
theorem k12_a : type_of% k12_p.down := k12_p.down
theorem k12_is : FnIs Tryz.prog prims 12 49 [ResultVar.tmp 4] k12 := FnIs.of_fn Tryz.func12 (by kernel_rfl) rfl
def k16_r0 : List COp := [o 2 (pZ .i64 0),
o 3 (.assign (.const (.slice .none 0 0))),
o 4 (pZ .i64 0)]
def k16_r1 : List COp := [o 14 (pM 0),
o 15 (.nilCheck (.tmp 14)),
o 16 (pF 48 15 2),
o 17 (pL 4 16),
o 18 (.unOp .not 4 (.tmp 17))]
def k16_r2 : List COp := [o 2 (pZ .i64 0),
o 3 (.assign (.const (.slice .none 0 0))),
o 4 (pZ .i64 20)]
def k16_r3 : List COp := [o 5 (pZ .i64 (-1))]
def k16_r4 : List COp := [o 6 (.assign (.const (.slice .none 0 0)))]
def k16_r5 : List COp := [o 19 (pM 0),
o 20 (pC 59 19 28),
o 21 (pN 20 70),
o 22 (pW .i64 0)]
def k16_r6 : List COp := [o 23 (pB .lss 3 22 21 3)]
def k16_r7 : List COp := [o 24 (pI 70 20 22),
o 25 (pL 9 24),
o 8 (pA 25)]
def k16_r8 : List COp := [o 26 (pM 8),
o 27 (pC 60 26 9),
o 9 (pA 27)]
def k16_r9 : List COp := [o 28 (pM 9),
o 29 (pK .lss 3 28 .i64 0 3)]
def k16_r10 : List COp := [o 31 (pM 0),
o 32 (pM 8),
o 33 (pD 55 31 32 28 9),
o 30 (pM 33),
o 34 (pX 30 0),
o 35 (pX 30 1),
o 10 (pA 34),
o 11 (pA 35)]
def k16_r11 : List COp := [o 37 (pM 9),
o 38 (pM 10),
o 39 (pD 62 37 38 3 30),
o 36 (pM 39),
o 40 (pX 36 0),
o 41 (pX 36 1),
o 12 (pA 40),
o 13 (pA 41)]
def k16_r12 : List COp := [o 42 (pM 13),
o 43 (pK .eql 33 42 .i64 0 33)]
def k16_r13 : List COp := [o 44 (pM 9),
o 5 (pA 44)]
def k16_r14 : List COp := [o 45 (pM 12),
o 6 (pA 45)]
def k16_r15 : List COp := [o 46 (pK .add 3 22 .i64 1 3),
o 22 (pM 46)]
def k16_l0 : CC := (.seq (.region k16_r6) (.seq (.cond (.tmp 23) .skip (.exit 0)) (.seq (.block 1 (.seq (.region k16_r7) (.seq (.region k16_r8) (.seq (.seq (.region k16_r9) (.cond (.tmp 29) (.exit 1) .skip)) (.seq (.region k16_r10) (.seq (.region k16_r11) (.seq (.region k16_r12) (.cond (.tmp 43) (.seq (.region k16_r13) (.region k16_r14)) .skip)))))))) (.region k16_r15))))
def k16_r16 : List COp := [o 47 (pM 5),
o 48 (pM 6),
o 2 (pA 47),
o 3 (pA 48),
o 4 (pZ .i64 0)]
def k16 : CC := (.seq (.region k16_r0) (.seq (.seq (.region k16_r1) (.cond (.tmp 18) (.seq (.region k16_r2) .ret) .skip)) (.seq (.region k16_r3) (.seq (.region k16_r4) (.seq (.seq (.region k16_r5) (.block 0 (.loop k16_l0))) (.seq (.region k16_r16) .ret))))))
def k17_r0 : List COp := [o 4 (pO false)]
def k17_r1 : List COp := [o 6 (pM 0),
o 7 (pN 6 30),
o 8 (pM 1),
o 9 (pN 8 30),
o 10 (pB .neq 3 7 9 3)]
def k17_r2 : List COp := [o 4 (pO false)]
def k17_r3 : List COp := [o 11 (pM 0),
o 12 (pN 11 30),
o 13 (pW .i64 0)]
def k17_r4 : List COp := [o 14 (pB .lss 3 13 12 3)]
def k17_r5 : List COp := [o 15 (pM 13),
o 5 (pA 15)]
def k17_r6 : List COp := [oX 16 (pM 0),
oX 17 (pM 5),
oX 18 (pI 30 16 17),
oX 19 (pL 5 18),
oX 20 (pM 1),
o 21 (pM 5),
o 22 (pI 30 20 21),
o 23 (pL 5 22),
o 24 (pB .neq 5 19 23 5)]
def k17_r7 : List COp := [o 4 (pO false)]
def k17_r8 : List COp := [o 25 (pK .add 3 13 .i64 1 3),
o 13 (pM 25)]
def k17_l0 : CC := (.seq (.region k17_r4) (.seq (.cond (.tmp 14) .skip (.exit 0)) (.seq (.block 1 (.seq (.region k17_r5) (.seq (.region k17_r6) (.cond (.tmp 24) (.seq (.region k17_r7) .ret) .skip)))) (.region k17_r8))))
def k17_r9 : List COp := [o 4 (pO true)]
def k17 : CC := (.seq (.region k17_r0) (.seq (.seq (.region k17_r1) (.cond (.tmp 10) (.seq (.region k17_r2) .ret) .skip)) (.seq (.seq (.region k17_r3) (.block 0 (.loop k17_l0))) (.seq (.region k17_r9) .ret))))
def k18_r0 : List COp := [o 6 (pM 0),
o 7 (.binOp .neq 26 (.tmp 6) (.const (.pointer .none)) 26)]
def k18_r1 : List COp := [o 8 (pM 0),
o 9 (pM 0),
o 10 (pM 1),
o 11 (.call { callee := .builtin .max, args := #[.tmp 10, .const (.int .i64 0)], argTypes := #[3, 3] }),
o 12 (pM 2),
o 13 (.nilCheck (.tmp 8)),
o 14 (pF 74 13 4),
oS 3 14 11,
o 15 (.nilCheck (.tmp 9)),
o 16 (pF 74 15 5),
oS 3 16 12]
def k18 : CC := (.seq (.region k18_r0) (.cond (.tmp 7) (.region k18_r1) .skip))
def k18_p := PLift.up <| aI (vE k18.eq_1) <| aI (oE k18_r0.eq_1) (oE k18_r1.eq_1)
theorem k18_a : type_of% k18_p.down := k18_p.down
theorem k18_is : FnIs Tryz.prog prims 18 17 [] k18 := FnIs.of_fn Tryz.func18 (by kernel_rfl) rfl
def k19_r0 : List COp := [o 6 (pM 0),
o 7 (pM 1),
o 8 (.nilCheck (.tmp 6)),
o 9 (pF 48 8 4),
oS 3 9 7]
def k19_r1 : List COp := [o 10 (pM 1),
o 11 (pK .lss 3 10 .i64 0 3)]
def k19_r2 : List COp := [o 12 (pM 0),
o 13 (.nilCheck (.tmp 12)),
o 14 (pF 48 13 4),
⟨none, .store 3 (.tmp 14) (.const (.int .i64 0)), none, true⟩]
def k19_r3 : List COp := [o 15 (pM 0),
o 16 (pM 2),
o 17 (.nilCheck (.tmp 15)),
o 18 (pF 48 17 5),
oS 3 18 16]
def k19 : CC := (.seq (.region k19_r0) (.seq (.seq (.region k19_r1) (.cond (.tmp 11) (.region k19_r2) .skip)) (.region k19_r3)))
def k19_p := PLift.up <| aI (vE k19.eq_1) <| aO k19_r0.eq_1 <| aO k19_r1.eq_1 <| aI (oE k19_r2.eq_1) (oE k19_r3.eq_1)
theorem k19_a : type_of% k19_p.down := k19_p.down
theorem k19_is : FnIs Tryz.prog prims 19 19 [] k19 := FnIs.of_fn Tryz.func19 (by kernel_rfl) rfl
def k21_r0 : List COp := [o 7 (pM 0),
o 8 (.nilCheck (.tmp 7)),
o 9 (pF 48 8 2),
o 10 (pL 4 9),
o 11 (.unOp .not 4 (.tmp 10))]
def k21_r1 : List COp := [o 12 (pM 0),
o 13 (.nilCheck (.tmp 12)),
o 14 (pF 48 13 0),
o 15 (pL 46 14),
o 16 (pN 15 46),
o 17 (pW .i64 0)]
def k21_r2 : List COp := [o 18 (pB .lss 3 17 16 3)]
def k21_r3 : List COp := [o 19 (pM 17),
o 4 (pA 19)]
def k21_r4 : List COp := [o 20 (pM 0),
o 21 (.nilCheck (.tmp 20)),
o 22 (pF 48 21 0),
o 23 (pL 46 22),
o 24 (pM 4),
o 25 (pI 46 23 24),
o 26 (pL 81 25),
o 5 (.alloc 81),
oS 81 5 26]
def k21_r5 : List COp := [o 6 (pZ .i64 0)]
def k21_r6 : List COp := [o 27 (pM 6),
o 28 (pF 81 5 2),
o 29 (pL 30 28),
o 30 (pN 29 30),
o 31 (pB .lss 3 27 30 3),
o 32 (pM 31),
oT 33 (pM 6) 32,
oT 34 (pM 1) 32,
oT 35 (pB .lss 3 33 34 3) 32,
o 36 (pU 32 35)]
def k21_r8 : CC := (.wregion [
(true, oX 39 (.buildSlice 30 0 #[])),
(false, oX 40 (pF 81 5 1)),
(false, oX 41 (pL 30 40)),
(false, oX 42 (pQ 39 41 30 30)),
(true, oX 43 (pF 81 5 2)),
(true, oX 44 (pL 30 43)),
(false, o 45 (pM 6)),
(false, o 46 (pI 30 44 45)),
(true, o 47 (pL 5 46)),
(false, o 48 (.buildSlice 30 1 #[(0, .tmp 47)])),
(false, o 49 (pQ 42 48 30 30)),
(false, o 50 (pF 81 5 1)),
(false, oS 30 50 49)] false [(5, oX 44 (pL 30 43), [0, 4]), (8, o 47 (pL 5 46), [0, 4])])
def k21_r7 : List COp := [o 37 (pM 6),
o 38 (pK .add 3 37 .i64 1 3),
o 6 (pA 38)]
def k21_l1 : CC := (.seq (.seq (.region k21_r6) (.cond (.tmp 36) .skip (.exit 2))) (.seq (.block 3 k21_r8) (.region k21_r7)))
def k21_r9 : List COp := [oX 51 (pM 0),
oX 52 (.nilCheck (.tmp 51)),
oX 53 (pF 48 52 0),
oX 54 (pL 46 53),
oX 55 (pM 4),
oX 56 (pF 81 5 0),
oX 57 (pL 9 56),
o 58 (pF 81 5 1),
o 59 (pL 30 58),
o 60 (.build 81 #[(0, .tmp 57), (1, .tmp 59)]),
o 61 (pI 46 54 55),
oS 81 61 60]
def k21_r10 : List COp := [o 62 (pK .add 3 17 .i64 1 3),
o 17 (pM 62)]
def k21_l0 : CC := (.seq (.region k21_r2) (.seq (.cond (.tmp 18) .skip (.exit 0)) (.seq (.block 1 (.seq (.region k21_r3) (.seq (.region k21_r4) (.seq (.seq (.region k21_r5) (.block 2 (.loop k21_l1))) (.region k21_r9))))) (.region k21_r10))))
def k21_r11 : List COp := [o 63 (pM 0),
o 64 (.nilCheck (.tmp 63)),
o 65 (pF 48 64 2),
⟨none, .store 4 (.tmp 65) (.const (.bool false)), none, true⟩]
def k21_r12 : List COp := [o 66 (pM 0),
o 67 (.nilCheck (.tmp 66)),
o 68 (pF 48 67 4),
⟨none, .store 3 (.tmp 68) (.const (.int .i64 0)), none, true⟩]
def k21 : CC := (.seq (.seq (.region k21_r0) (.cond (.tmp 11) .ret .skip)) (.seq (.seq (.region k21_r1) (.block 0 (.loop k21_l0))) (.seq (.region k21_r11) (.region k21_r12))))
def k21_p := PLift.up <| aI (vE k21.eq_1) <| aO k21_r0.eq_1 <| aO k21_r1.eq_1 <| aO k21_r2.eq_1 <| aO k21_r3.eq_1 <| aO k21_r4.eq_1 <| aO k21_r5.eq_1 <| aO k21_r6.eq_1 <| aI (vE k21_r8.eq_1) <| aO k21_r7.eq_1 <| aI (vE k21_l1.eq_1) <| aO k21_r9.eq_1 <| aO k21_r10.eq_1 <| aI (vE k21_l0.eq_1) <| aI (oE k21_r11.eq_1) (oE k21_r12.eq_1)
theorem k21_a : type_of% k21_p.down := k21_p.down
theorem k21_is : FnIs Tryz.prog prims 21 69 [] k21 := FnIs.of_fn Tryz.func21 (by kernel_rfl) rfl
def k22_r0 : List COp := [o 2 (pM 0),
o 3 (.binOp .neq 26 (.tmp 2) (.const (.pointer .none)) 26)]
def k22_r1 : List COp := [o 4 (pM 0),
o 5 (.nilCheck (.tmp 4)),
o 6 (pF 74 5 2),
⟨none, .store 4 (.tmp 6) (.const (.bool false)), none, true⟩]
def k22 : CC := (.seq (.region k22_r0) (.cond (.tmp 3) (.region k22_r1) .skip))
def k22_p := PLift.up <| aI (vE k22.eq_1) <| aI (oE k22_r0.eq_1) (oE k22_r1.eq_1)
theorem k22_a : type_of% k22_p.down := k22_p.down
theorem k22_is : FnIs Tryz.prog prims 22 7 [] k22 := FnIs.of_fn Tryz.func22 (by kernel_rfl) rfl
def k23_r0 : List COp := [o 4 (pM 0),
o 5 (.binOp .neq 26 (.tmp 4) (.const (.pointer .none)) 26)]
def k23_r1 : List COp := [o 6 (pM 0),
o 7 (pM 1),
o 8 (.nilCheck (.tmp 6)),
o 9 (pF 74 8 1),
oS 3 9 7]
def k23 : CC := (.seq (.region k23_r0) (.cond (.tmp 5) (.region k23_r1) .skip))
def k23_p := PLift.up <| aI (vE k23.eq_1) <| aI (oE k23_r0.eq_1) (oE k23_r1.eq_1)
theorem k23_a : type_of% k23_p.down := k23_p.down
theorem k23_is : FnIs Tryz.prog prims 23 10 [] k23 := FnIs.of_fn Tryz.func23 (by kernel_rfl) rfl
def k25_r0 : List COp := [o 0 (pO false)]
def k25_r1 : List COp := [o 7 (.call { callee := .value (.func 7), args := #[.const (.int .i64 1000)], argTypes := #[3] }),
o 1 (pA 7)]
def k25_r2 : List COp := [o 9 (pM 1),
o 10 (.call { callee := .value (.func 31), args := #[.tmp 9, .const (.int .i64 2)], argTypes := #[26, 3] }),
o 8 (pM 10),
o 11 (pX 8 0),
o 12 (pX 8 1),
o 13 (pX 8 2),
o 14 (pX 8 3),
o 2 (pA 11),
o 3 (pA 12),
o 4 (pA 13),
o 5 (pA 14)]
def k25_r3 : List COp := [o 15 (pM 5),
o 16 (pK .neq 33 15 .i64 0 33),
o 17 (pM 16),
oF 18 (pM 2) 17,
oF 19 (.binOp .eql 54 (.tmp 18) (.const (.pointer .none)) 54) 17,
o 20 (pV 17 19),
o 21 (pM 20),
oF 22 (pM 3) 21,
oF 23 (pN 22 60) 21,
oF 24 (pK .neq 3 23 .i64 0 3) 21,
o 25 (pV 21 24),
o 26 (pM 25),
oF 27 (pM 4) 26,
oF 28 (pK .neq 3 27 .i64 1 3) 26,
o 29 (pV 26 28)]
def k25_r4 : List COp := [o 0 (pO false)]
def k25_r5 : CC := (.hreg [
(false, o 31 (pM 2)),
(true, o 32 (.buildSlice 30 1 #[(0, .const (.int .u8 97))])),
(true, o 33 (.convert 30 30 (.tmp 32))),
(false, o 34 (pD 27 31 33 54 30)),
(false, o 30 (pM 34)),
(false, o 35 (pX 30 0)),
(false, o 36 (pX 30 1)),
(false, o 6 (pA 35)),
(false, o 5 (pA 36))])
def k25_r6 : List COp := [o 37 (pM 6),
o 38 (pK .neq 3 37 .i64 1 3),
o 39 (pM 38),
oF 40 (pM 5) 39,
oF 41 (pK .neq 33 40 .i64 0 33) 39,
o 42 (pV 39 41)]
def k25_r7 : List COp := [o 0 (pO false)]
def k25_r8 : List COp := [o 44 (pM 1),
o 45 (.call { callee := .value (.func 31), args := #[.tmp 44, .const (.int .i64 2)], argTypes := #[26, 3] }),
o 43 (pM 45),
o 46 (pX 43 0),
o 47 (pX 43 1),
o 48 (pX 43 2),
o 49 (pX 43 3),
o 3 (pA 47),
o 4 (pA 48),
o 5 (pA 49)]
def k25_r9 : List COp := [o 50 (pM 5),
o 51 (pK .eql 33 50 .i64 0 33),
o 52 (pM 51),
oT 53 (pM 4) 52,
oT 54 (pK .eql 3 53 .i64 1 3) 52,
o 55 (pU 52 54),
o 56 (pM 55),
oT 57 (pM 3) 56,
oT 58 (pN 57 60) 56,
oT 59 (pK .eql 3 58 .i64 1 3) 56,
o 60 (pU 56 59),
o 61 (pM 60),
oT 62 (pM 3) 61,
oT 63 (.indexAddr 60 (.tmp 62) (.const (.int .i64 0))) 61,
oT 64 (pL 30 63) 61,
oT 65 (.convert 30 9 (.tmp 64)) 61,
oT 66 (.binOp .eql 9 (.tmp 65) (.const (.string { data := #[97] })) 9) 61,
o 67 (pU 61 66),
o 0 (pA 67)]
def k25 : CC := (.seq (.region k25_r0) (.seq (.region k25_r1) (.seq (.region k25_r2) (.seq (.seq (.region k25_r3) (.cond (.tmp 29) (.seq (.region k25_r4) .ret) .skip)) (.seq k25_r5 (.seq (.seq (.region k25_r6) (.cond (.tmp 42) (.seq (.region k25_r7) .ret) .skip)) (.seq (.region k25_r8) (.seq (.region k25_r9) .ret))))))))
def k26_r0 : List COp := [o 4 (pO false)]
def k26_r1 : List COp := [o 5 (pZ .i64 0)]
def k26_r2 : List COp := [o 10 (pM 0),
o 11 (pN 10 50),
o 12 (pW .i64 0)]
def k26_r3 : List COp := [o 13 (pB .lss 3 12 11 3)]
def k26_r4 : List COp := [o 14 (pI 50 10 12),
o 15 (pL 53 14),
o 7 (.alloc 53),
oS 53 7 15]
def k26_r5 : List COp := [o 16 (pM 5),
o 17 (pF 53 7 1),
o 18 (pL 30 17),
o 19 (pN 18 30),
o 20 (pB .add 3 16 19 3),
o 5 (pA 20)]
def k26_r6 : List COp := [o 21 (pM 5),
o 22 (pK .gtr 3 21 .i64 65536 3)]
def k26_r7 : List COp := [o 4 (pO true)]
def k26_r8 : List COp := [o 23 (pK .add 3 12 .i64 1 3),
o 12 (pM 23)]
def k26_l0 : CC := (.seq (.region k26_r3) (.seq (.cond (.tmp 13) .skip (.exit 0)) (.seq (.block 1 (.seq (.region k26_r4) (.seq (.region k26_r5) (.seq (.region k26_r6) (.cond (.tmp 22) (.seq (.region k26_r7) .ret) .skip))))) (.region k26_r8))))
def k26_r9 : List COp := [o 24 (pM 1),
o 25 (pN 24 51),
o 26 (pW .i64 0)]
def k26_r10 : List COp := [o 27 (pB .lss 3 26 25 3)]
def k26_r11 : List COp := [o 28 (pI 51 24 26),
o 29 (pL 56 28),
o 9 (.alloc 56),
oS 56 9 29]
def k26_r12 : List COp := [o 30 (pM 5),
o 31 (pF 56 9 3),
o 32 (pL 30 31),
o 33 (pN 32 30),
o 34 (pB .add 3 30 33 3),
o 5 (pA 34)]
def k26_r13 : List COp := [o 35 (pM 5),
o 36 (pK .gtr 3 35 .i64 262144 3)]
def k26_r14 : List COp := [o 4 (pO true)]
def k26_r15 : List COp := [o 37 (pK .add 3 26 .i64 1 3),
o 26 (pM 37)]
def k26_l1 : CC := (.seq (.region k26_r10) (.seq (.cond (.tmp 27) .skip (.exit 2)) (.seq (.block 3 (.seq (.region k26_r11) (.seq (.region k26_r12) (.seq (.region k26_r13) (.cond (.tmp 36) (.seq (.region k26_r14) .ret) .skip))))) (.region k26_r15))))
def k26_r16 : List COp := [o 38 (pM 1),
o 39 (pN 38 51),
o 40 (pK .gtr 3 39 .i64 512 3),
o 41 (pM 40),
oF 42 (pM 0) 41,
oF 43 (pN 42 50) 41,
oF 44 (pK .gtr 3 43 .i64 16 3) 41,
o 45 (pV 41 44),
o 4 (pA 45)]
def k26 : CC := (.seq (.region k26_r0) (.seq (.region k26_r1) (.seq (.seq (.region k26_r2) (.block 0 (.loop k26_l0))) (.seq (.seq (.region k26_r9) (.block 2 (.loop k26_l1))) (.seq (.region k26_r16) .ret)))))
def k26_p := PLift.up <| aI (vE k26.eq_1) <| aO k26_r0.eq_1 <| aO k26_r1.eq_1 <| aO k26_r2.eq_1 <| aO k26_r3.eq_1 <| aO k26_r4.eq_1 <| aO k26_r5.eq_1 <| aO k26_r6.eq_1 <| aO k26_r7.eq_1 <| aO k26_r8.eq_1 <| aI (vE k26_l0.eq_1) <| aO k26_r9.eq_1 <| aO k26_r10.eq_1 <| aO k26_r11.eq_1 <| aO k26_r12.eq_1 <| aO k26_r13.eq_1 <| aO k26_r14.eq_1 <| aO k26_r15.eq_1 <| aI (vE k26_l1.eq_1) (oE k26_r16.eq_1)
theorem k26_a : type_of% k26_p.down := k26_p.down
theorem k26_is : FnIs Tryz.prog prims 26 46 [ResultVar.tmp 4] k26 := FnIs.of_fn Tryz.func26 (by kernel_rfl) rfl
def k27_r0 : List COp := [o 4 (pZ .i64 0),
o 5 (pZ .i64 0)]
def k27_r1 : List COp := [o 10 (pM 0),
o 11 (.binOp .eql 54 (.tmp 10) (.const (.pointer .none)) 54)]
def k27_r2 : List COp := [o 4 (pZ .i64 0),
o 5 (pZ .i64 2)]
def k27_r3 : List COp := [o 13 (pM 1),
o 14 (pC 64 13 30),
o 12 (pM 14),
o 15 (pX 12 0),
o 16 (pX 12 1),
o 6 (pA 15),
o 7 (pA 16)]
def k27_r4 : List COp := [o 17 (pM 7),
o 18 (pK .neq 33 17 .i64 0 33)]
def k27_r5 : List COp := [o 19 (pM 7),
o 4 (pZ .i64 0),
o 5 (pA 19)]
def k27_r6 : List COp := [o 20 (pM 0),
o 21 (.nilCheck (.tmp 20)),
o 22 (pF 93 21 4),
o 23 (pL 33 22),
o 24 (pK .neq 33 23 .i64 0 33)]
def k27_r7 : List COp := [oX 25 (pM 0),
oX 26 (.nilCheck (.tmp 25)),
oX 27 (pF 93 26 4),
oX 28 (pL 33 27),
o 4 (pZ .i64 0),
o 5 (pA 28)]
def k27_r8 : List COp := [o 29 (pM 0),
o 30 (.nilCheck (.tmp 29)),
o 31 (pF 93 30 2),
o 32 (pL 3 31),
o 8 (pA 32)]
def k27_r9 : List COp := [oX 33 (pM 0),
oX 34 (.nilCheck (.tmp 33)),
oX 35 (pF 93 34 3),
oX 36 (pL 3 35),
oX 37 (pM 8),
oX 38 (pB .sub 3 36 37 3),
o 39 (pM 0),
o 40 (.nilCheck (.tmp 39)),
o 41 (pF 93 40 1),
o 42 (pL 3 41),
o 43 (pB .geq 3 38 42 3)]
def k27_r10 : List COp := [o 44 (pM 0),
o 45 (.nilCheck (.tmp 44)),
o 46 (pF 93 45 3),
o 47 (pL 3 46),
o 8 (pA 47)]
def k27_r11 : List COp := [o 48 (pM 8),
o 49 (pC 65 48 3),
o 9 (pA 49)]
def k27_r12 : List COp := [o 50 (pM 9),
o 51 (.binOp .eql 9 (.tmp 50) (.const (.string { data := #[] })) 9)]
def k27_r13 : List COp := [o 4 (pZ .i64 0),
o 5 (pZ .i64 22)]
def k27_r14 : List COp := [o 52 (pM 0),
o 53 (.nilCheck (.tmp 52)),
o 54 (pF 93 53 0),
o 55 (pL 26 54),
o 56 (pM 9),
o 57 (pM 6),
o 58 (.call { callee := .value (.func 9), args := #[.tmp 55, .tmp 56, .tmp 57], argTypes := #[26, 9, 30] }),
o 7 (pA 58)]
def k27_r15 : List COp := [o 59 (pM 7),
o 60 (pK .eql 33 59 .i64 3 33),
o 61 (pM 60),
oF 62 (pM 7) 61,
oF 63 (pK .eql 33 62 .i64 22 33) 61,
o 64 (pV 61 63)]
def k27_r16 : List COp := [o 4 (pZ .i64 0),
o 5 (pZ .i64 22)]
def k27_r17 : List COp := [o 65 (pM 7),
o 66 (pK .eql 33 65 .i64 0 33)]
def k27_r18 : List COp := [o 67 (pM 0),
o 68 (.nilCheck (.tmp 67)),
o 69 (pF 93 68 0),
o 70 (pL 26 69),
o 71 (pM 9),
o 72 (pD 11 70 71 26 9),
o 7 (pA 72)]
def k27_r19 : List COp := [o 73 (pM 7),
o 74 (pK .neq 33 73 .i64 0 33)]
def k27_r20 : List COp := [o 75 (pM 0),
o 76 (pM 7),
o 77 (.nilCheck (.tmp 75)),
o 78 (pF 93 77 4),
oS 33 78 76]
def k27_r21 : List COp := [o 79 (pM 7),
o 4 (pZ .i64 0),
o 5 (pA 79)]
def k27_r22 : List COp := [o 80 (pM 0),
o 81 (pM 0),
o 82 (pM 8),
o 83 (pM 0),
o 84 (.nilCheck (.tmp 83)),
o 85 (pF 93 84 3),
o 86 (pL 3 85),
o 87 (pK .add 3 86 .i64 1 3),
o 88 (.nilCheck (.tmp 80)),
o 89 (pF 93 88 2),
oS 3 89 82,
o 90 (.nilCheck (.tmp 81)),
o 91 (pF 93 90 3),
oS 3 91 87]
def k27_r23 : List COp := [o 92 (pM 0),
o 93 (.nilCheck (.tmp 92)),
o 94 (pF 93 93 3),
o 95 (pL 3 94),
o 96 (pK .sub 3 95 .i64 1 3),
o 4 (pA 96),
o 5 (pZ .i64 0)]
def k27 : CC := (.seq (.region k27_r0) (.seq (.seq (.region k27_r1) (.cond (.tmp 11) (.seq (.region k27_r2) .ret) .skip)) (.seq (.region k27_r3) (.seq (.seq (.region k27_r4) (.cond (.tmp 18) (.seq (.region k27_r5) .ret) .skip)) (.seq (.seq (.region k27_r6) (.cond (.tmp 24) (.seq (.region k27_r7) .ret) .skip)) (.seq (.region k27_r8) (.seq (.seq (.region k27_r9) (.cond (.tmp 43) (.region k27_r10) .skip)) (.seq (.region k27_r11) (.seq (.seq (.region k27_r12) (.cond (.tmp 51) (.seq (.region k27_r13) .ret) .skip)) (.seq (.region k27_r14) (.seq (.seq (.region k27_r15) (.cond (.tmp 64) (.seq (.region k27_r16) .ret) .skip)) (.seq (.seq (.region k27_r17) (.cond (.tmp 66) (.region k27_r18) .skip)) (.seq (.seq (.region k27_r19) (.cond (.tmp 74) (.seq (.region k27_r20) (.seq (.region k27_r21) .ret)) .skip)) (.seq (.region k27_r22) (.seq (.region k27_r23) .ret)))))))))))))))
def k27_p := PLift.up <| aI (vE k27.eq_1) <| aO k27_r0.eq_1 <| aO k27_r1.eq_1 <| aO k27_r2.eq_1 <| aO k27_r3.eq_1 <| aO k27_r4.eq_1 <| aO k27_r5.eq_1 <| aO k27_r6.eq_1 <| aO k27_r7.eq_1 <| aO k27_r8.eq_1 <| aO k27_r9.eq_1 <| aO k27_r10.eq_1 <| aO k27_r11.eq_1 <| aO k27_r12.eq_1 <| aO k27_r13.eq_1 <| aO k27_r14.eq_1 <| aO k27_r15.eq_1 <| aO k27_r16.eq_1 <| aO k27_r17.eq_1 <| aO k27_r18.eq_1 <| aO k27_r19.eq_1 <| aO k27_r20.eq_1 <| aO k27_r21.eq_1 <| aI (oE k27_r22.eq_1) (oE k27_r23.eq_1)
theorem k27_a : type_of% k27_p.down := k27_p.down
theorem k27_is : FnIs Tryz.prog prims 27 97 [ResultVar.tmp 4, ResultVar.tmp 5] k27 := FnIs.of_fn Tryz.func27 (by kernel_rfl) rfl
def k28_r0 : List COp := [o 4 (pZ .i64 0),
o 5 (pZ .i64 0)]
def k28_r1 : List COp := [o 11 (pM 1),
o 12 (pC 66 11 30),
o 10 (pM 12),
o 13 (pX 10 0),
o 14 (pX 10 1),
o 6 (pA 13),
o 7 (pA 14)]
def k28_r2 : List COp := [o 15 (pM 7),
o 16 (pK .neq 33 15 .i64 0 33)]
def k28_r3 : List COp := [o 17 (pM 7),
o 4 (pZ .i64 0),
o 5 (pA 17)]
def k28_r4 : List COp := [o 18 (pM 0),
o 19 (.nilCheck (.tmp 18)),
o 20 (pF 68 19 4),
o 21 (pL 33 20),
o 22 (pK .neq 33 21 .i64 0 33)]
def k28_r5 : List COp := [oX 23 (pM 0),
oX 24 (.nilCheck (.tmp 23)),
oX 25 (pF 68 24 4),
oX 26 (pL 33 25),
o 4 (pZ .i64 0),
o 5 (pA 26)]
def k28_r6 : List COp := [o 27 (pM 0),
o 28 (.nilCheck (.tmp 27)),
o 29 (pF 68 28 2),
o 30 (pL 3 29),
o 8 (pA 30)]
def k28_r7 : List COp := [oX 31 (pM 0),
oX 32 (.nilCheck (.tmp 31)),
oX 33 (pF 68 32 3),
oX 34 (pL 3 33),
oX 35 (pM 8),
oX 36 (pB .sub 3 34 35 3),
o 37 (pM 0),
o 38 (.nilCheck (.tmp 37)),
o 39 (pF 68 38 1),
o 40 (pL 3 39),
o 41 (pB .geq 3 36 40 3)]
def k28_r8 : List COp := [o 42 (pM 0),
o 43 (.nilCheck (.tmp 42)),
o 44 (pF 68 43 3),
o 45 (pL 3 44),
o 8 (pA 45)]
def k28_r9 : List COp := [o 46 (pM 8),
o 47 (pC 67 46 3),
o 9 (pA 47)]
def k28_r10 : List COp := [o 48 (pM 9),
o 49 (.binOp .eql 9 (.tmp 48) (.const (.string { data := #[] })) 9)]
def k28_r11 : List COp := [o 4 (pZ .i64 0),
o 5 (pZ .i64 22)]
def k28_r12 : List COp := [o 50 (pM 0),
o 51 (.nilCheck (.tmp 50)),
o 52 (pF 68 51 0),
o 53 (pL 28 52),
o 54 (pM 9),
o 55 (pM 6),
o 56 (.call { callee := .value (.func 10), args := #[.tmp 53, .tmp 54, .tmp 55], argTypes := #[28, 9, 30] }),
o 7 (pA 56)]
def k28_r13 : List COp := [o 57 (pM 7),
o 58 (pK .eql 33 57 .i64 3 33),
o 59 (pM 58),
oF 60 (pM 7) 59,
oF 61 (pK .eql 33 60 .i64 22 33) 59,
o 62 (pV 59 61)]
def k28_r14 : List COp := [o 4 (pZ .i64 0),
o 5 (pZ .i64 22)]
def k28_r15 : List COp := [o 63 (pM 7),
o 64 (pK .eql 33 63 .i64 0 33)]
def k28_r16 : List COp := [o 65 (pM 0),
o 66 (.nilCheck (.tmp 65)),
o 67 (pF 68 66 0),
o 68 (pL 28 67),
o 69 (pM 9),
o 70 (pD 12 68 69 28 9),
o 7 (pA 70)]
def k28_r17 : List COp := [o 71 (pM 7),
o 72 (pK .neq 33 71 .i64 0 33)]
def k28_r18 : List COp := [o 73 (pM 0),
o 74 (pM 7),
o 75 (.nilCheck (.tmp 73)),
o 76 (pF 68 75 4),
oS 33 76 74]
def k28_r19 : List COp := [o 77 (pM 7),
o 4 (pZ .i64 0),
o 5 (pA 77)]
def k28_r20 : List COp := [o 78 (pM 0),
o 79 (pM 8),
o 80 (.nilCheck (.tmp 78)),
o 81 (pF 68 80 2),
oS 3 81 79]
def k28_r21 : List COp := [o 82 (pM 0),
o 83 (.nilCheck (.tmp 82)),
o 84 (pF 68 83 3),
o 85 (pL 3 84),
o 86 (pK .add 3 85 .i64 1 3),
o 87 (.nilCheck (.tmp 82)),
o 88 (pF 68 87 3),
oS 3 88 86]
def k28_r22 : List COp := [o 89 (pM 0),
o 90 (.nilCheck (.tmp 89)),
o 91 (pF 68 90 3),
o 92 (pL 3 91),
o 93 (pK .sub 3 92 .i64 1 3),
o 4 (pA 93),
o 5 (pZ .i64 0)]
def k28 : CC := (.seq (.region k28_r0) (.seq (.region k28_r1) (.seq (.seq (.region k28_r2) (.cond (.tmp 16) (.seq (.region k28_r3) .ret) .skip)) (.seq (.seq (.region k28_r4) (.cond (.tmp 22) (.seq (.region k28_r5) .ret) .skip)) (.seq (.region k28_r6) (.seq (.seq (.region k28_r7) (.cond (.tmp 41) (.region k28_r8) .skip)) (.seq (.region k28_r9) (.seq (.seq (.region k28_r10) (.cond (.tmp 49) (.seq (.region k28_r11) .ret) .skip)) (.seq (.region k28_r12) (.seq (.seq (.region k28_r13) (.cond (.tmp 62) (.seq (.region k28_r14) .ret) .skip)) (.seq (.seq (.region k28_r15) (.cond (.tmp 64) (.region k28_r16) .skip)) (.seq (.seq (.region k28_r17) (.cond (.tmp 72) (.seq (.region k28_r18) (.seq (.region k28_r19) .ret)) .skip)) (.seq (.region k28_r20) (.seq (.region k28_r21) (.seq (.region k28_r22) .ret)))))))))))))))
def k28_p := PLift.up <| aI (vE k28.eq_1) <| aO k28_r0.eq_1 <| aO k28_r1.eq_1 <| aO k28_r2.eq_1 <| aO k28_r3.eq_1 <| aO k28_r4.eq_1 <| aO k28_r5.eq_1 <| aO k28_r6.eq_1 <| aO k28_r7.eq_1 <| aO k28_r8.eq_1 <| aO k28_r9.eq_1 <| aO k28_r10.eq_1 <| aO k28_r11.eq_1 <| aO k28_r12.eq_1 <| aO k28_r13.eq_1 <| aO k28_r14.eq_1 <| aO k28_r15.eq_1 <| aO k28_r16.eq_1 <| aO k28_r17.eq_1 <| aO k28_r18.eq_1 <| aO k28_r19.eq_1 <| aO k28_r20.eq_1 <| aI (oE k28_r21.eq_1) (oE k28_r22.eq_1)
theorem k28_a : type_of% k28_p.down := k28_p.down
theorem k28_is : FnIs Tryz.prog prims 28 94 [ResultVar.tmp 4, ResultVar.tmp 5] k28 := FnIs.of_fn Tryz.func28 (by kernel_rfl) rfl
def k29_r0 : List COp := [o 4 (pZ .i64 0),
o 5 (pZ .i64 0)]
def k29_r1 : List COp := [o 13 (pM 0),
o 14 (.binOp .eql 54 (.tmp 13) (.const (.pointer .none)) 54)]
def k29_r2 : List COp := [o 4 (pZ .i64 0),
o 5 (pZ .i64 2)]
def k29_r3 : List COp := [o 15 (pM 0),
o 16 (.nilCheck (.tmp 15)),
o 17 (pF 93 16 4),
o 18 (pL 33 17),
o 19 (pK .neq 33 18 .i64 0 33)]
def k29_r4 : List COp := [oX 20 (pM 0),
oX 21 (.nilCheck (.tmp 20)),
oX 22 (pF 93 21 4),
oX 23 (pL 33 22),
o 4 (pZ .i64 0),
o 5 (pA 23)]
def k29_r5 : List COp := [o 6 (.assign (.const (.slice .none 0 0)))]
def k29_r6 : List COp := [o 24 (pM 0),
o 25 (.nilCheck (.tmp 24)),
o 26 (pF 93 25 0),
o 27 (pL 26 26),
o 28 (pC 36 27 26),
o 29 (pN 28 70),
o 30 (pW .i64 0)]
def k29_r7 : List COp := [o 31 (pB .lss 3 30 29 3)]
def k29_r8 : List COp := [o 32 (pI 70 28 30),
o 33 (pL 9 32),
o 8 (pA 33)]
def k29_r9 : List COp := [o 34 (pM 8),
o 35 (pC 68 34 9),
o 9 (pA 35)]
def k29_r10 : List COp := [o 36 (pM 9),
o 37 (pK .gtr 3 36 .i64 0 3)]
def k29_r11 : List COp := [o 38 (pM 6),
o 39 (pM 9),
o 40 (.buildSlice 94 1 #[(0, .tmp 39)]),
o 41 (pQ 38 40 94 94),
o 6 (pA 41)]
def k29_r12 : List COp := [o 42 (pK .add 3 30 .i64 1 3),
o 30 (pM 42)]
def k29_l0 : CC := (.seq (.region k29_r7) (.seq (.cond (.tmp 31) .skip (.exit 0)) (.seq (.block 1 (.seq (.region k29_r8) (.seq (.region k29_r9) (.seq (.region k29_r10) (.cond (.tmp 37) (.region k29_r11) .skip))))) (.region k29_r12))))
def k29_r13 : List COp := [o 10 (pZ .i64 0)]
def k29_r14 : List COp := [o 11 (pZ .i64 0)]
def k29_r15 : List COp := [o 43 (pM 11),
o 44 (pK .add 3 43 .i64 1 3),
o 45 (pM 6),
o 46 (pN 45 94),
o 47 (pB .lss 3 44 46 3),
o 48 (pM 47),
oT 49 (pM 6) 48,
oT 50 (pM 11) 48,
oT 51 (pK .add 3 50 .i64 1 3) 48,
oT 52 (pI 94 49 51) 48,
oT 53 (pL 3 52) 48,
oT 54 (pM 1) 48,
oT 55 (pB .leq 3 53 54 3) 48,
o 56 (pU 48 55)]
def k29_r17 : CC := (.wregion [
(true, oX 59 (pM 0)),
(false, oX 60 (.nilCheck (.tmp 59))),
(false, oX 61 (pF 93 60 0)),
(true, oX 62 (pL 26 61)),
(false, oX 63 (pM 6)),
(false, o 64 (pM 11)),
(false, o 65 (pI 94 63 64)),
(false, o 66 (pL 3 65)),
(false, o 67 (pC 65 66 3)),
(true, o 68 (pD 50 62 67 26 9)),
(false, o 12 (pA 68))] false [(3, oX 62 (pL 26 61), [0, 9])])
def k29_r18 : List COp := [o 69 (pM 12),
o 70 (pK .neq 33 69 .i64 0 33)]
def k29_r19 : List COp := [o 71 (pM 0),
o 72 (pM 12),
o 73 (.nilCheck (.tmp 71)),
o 74 (pF 93 73 4),
oS 33 74 72]
def k29_r20 : List COp := [o 75 (pM 12),
o 4 (pZ .i64 0),
o 5 (pA 75)]
def k29_r21 : List COp := [o 76 (pM 10),
o 77 (pK .add 3 76 .i64 1 3),
o 10 (pA 77)]
def k29_r16 : List COp := [o 57 (pM 11),
o 58 (pK .add 3 57 .i64 1 3),
o 11 (pA 58)]
def k29_l1 : CC := (.seq (.seq (.region k29_r15) (.cond (.tmp 56) .skip (.exit 2))) (.seq (.block 3 (.seq (.seq k29_r17 (.seq (.region k29_r18) (.cond (.tmp 70) (.seq (.region k29_r19) (.seq (.region k29_r20) .ret)) .skip))) (.region k29_r21))) (.region k29_r16)))
def k29_r22 : List COp := [o 78 (pM 10),
o 4 (pA 78),
o 5 (pZ .i64 0)]
def k29 : CC := (.seq (.region k29_r0) (.seq (.seq (.region k29_r1) (.cond (.tmp 14) (.seq (.region k29_r2) .ret) .skip)) (.seq (.seq (.region k29_r3) (.cond (.tmp 19) (.seq (.region k29_r4) .ret) .skip)) (.seq (.region k29_r5) (.seq (.seq (.region k29_r6) (.block 0 (.loop k29_l0))) (.seq (.region k29_r13) (.seq (.seq (.region k29_r14) (.block 2 (.loop k29_l1))) (.seq (.region k29_r22) .ret))))))))
def k29_p := PLift.up <| aI (vE k29.eq_1) <| aO k29_r0.eq_1 <| aO k29_r1.eq_1 <| aO k29_r2.eq_1 <| aO k29_r3.eq_1 <| aO k29_r4.eq_1 <| aO k29_r5.eq_1 <| aO k29_r6.eq_1 <| aO k29_r7.eq_1 <| aO k29_r8.eq_1 <| aO k29_r9.eq_1 <| aO k29_r10.eq_1 <| aO k29_r11.eq_1 <| aO k29_r12.eq_1 <| aI (vE k29_l0.eq_1) <| aO k29_r13.eq_1 <| aO k29_r14.eq_1 <| aO k29_r15.eq_1 <| aI (vE k29_r17.eq_1) <| aO k29_r18.eq_1 <| aO k29_r19.eq_1 <| aO k29_r20.eq_1 <| aO k29_r21.eq_1 <| aO k29_r16.eq_1 <| aI (vE k29_l1.eq_1) (oE k29_r22.eq_1)
theorem k29_a : type_of% k29_p.down := k29_p.down
theorem k29_is : FnIs Tryz.prog prims 29 79 [ResultVar.tmp 4, ResultVar.tmp 5] k29 := FnIs.of_fn Tryz.func29 (by kernel_rfl) rfl
def k30_r0 : List COp := [o 4 (pZ .i64 0),
o 5 (pZ .i64 0)]
def k30_r1 : List COp := [o 12 (pM 0),
o 13 (.nilCheck (.tmp 12)),
o 14 (pF 68 13 4),
o 15 (pL 33 14),
o 16 (pK .neq 33 15 .i64 0 33)]
def k30_r2 : List COp := [oX 17 (pM 0),
oX 18 (.nilCheck (.tmp 17)),
oX 19 (pF 68 18 4),
oX 20 (pL 33 19),
o 4 (pZ .i64 0),
o 5 (pA 20)]
def k30_r3 : List COp := [o 6 (pZ .i64 0)]
def k30_r4 : List COp := [o 7 (.assign (.const (.string { data := #[] })))]
def k30_r5 : List COp := [o 21 (pM 0),
o 22 (.nilCheck (.tmp 21)),
o 23 (pF 68 22 0),
o 24 (pL 28 23),
o 25 (pC 59 24 28),
o 26 (pN 25 70),
o 27 (pW .i64 0)]
def k30_r6 : List COp := [o 28 (pB .lss 3 27 26 3)]
def k30_r7 : List COp := [o 29 (pI 70 25 27),
o 30 (pL 9 29),
o 9 (pA 30)]
def k30_r8 : List COp := [o 31 (pM 9),
o 32 (pC 69 31 9),
o 10 (pA 32)]
def k30_r9 : List COp := [o 33 (pM 10),
o 34 (pK .eql 3 33 .i64 0 3)]
def k30_r10 : List COp := [o 35 (pM 7),
o 36 (.binOp .neq 9 (.tmp 35) (.const (.string { data := #[] })) 9)]
def k30_r11 : List COp := [o 37 (pM 10),
o 38 (pM 1),
o 39 (pB .gtr 3 37 38 3)]
def k30_r12 : List COp := [o 40 (pM 6),
o 4 (pA 40),
o 5 (pZ .i64 0)]
def k30_r13 : List COp := [o 41 (pM 0),
o 42 (.nilCheck (.tmp 41)),
o 43 (pF 68 42 0),
o 44 (pL 28 43),
o 45 (pM 7),
o 46 (pD 56 44 45 28 9),
o 11 (pA 46)]
def k30_r14 : List COp := [o 47 (pM 11),
o 48 (pK .neq 33 47 .i64 0 33)]
def k30_r15 : List COp := [o 49 (pM 0),
o 50 (pM 11),
o 51 (.nilCheck (.tmp 49)),
o 52 (pF 68 51 4),
oS 33 52 50]
def k30_r16 : List COp := [o 53 (pM 11),
o 4 (pZ .i64 0),
o 5 (pA 53)]
def k30_r17 : List COp := [o 54 (pM 6),
o 55 (pK .add 3 54 .i64 1 3),
o 6 (pA 55)]
def k30_r18 : List COp := [o 56 (pM 9),
o 7 (pA 56)]
def k30_r19 : List COp := [o 57 (pK .add 3 27 .i64 1 3),
o 27 (pM 57)]
def k30_l0 : CC := (.seq (.region k30_r6) (.seq (.cond (.tmp 28) .skip (.exit 0)) (.seq (.block 1 (.seq (.region k30_r7) (.seq (.region k30_r8) (.seq (.seq (.region k30_r9) (.cond (.tmp 34) (.exit 1) .skip)) (.seq (.seq (.region k30_r10) (.cond (.tmp 36) (.seq (.seq (.region k30_r11) (.cond (.tmp 39) (.seq (.region k30_r12) .ret) .skip)) (.seq (.region k30_r13) (.seq (.seq (.region k30_r14) (.cond (.tmp 48) (.seq (.region k30_r15) (.seq (.region k30_r16) .ret)) .skip)) (.region k30_r17)))) .skip)) (.region k30_r18)))))) (.region k30_r19))))
def k30_r20 : List COp := [o 58 (pM 6),
o 4 (pA 58),
o 5 (pZ .i64 0)]
def k30 : CC := (.seq (.region k30_r0) (.seq (.seq (.region k30_r1) (.cond (.tmp 16) (.seq (.region k30_r2) .ret) .skip)) (.seq (.region k30_r3) (.seq (.region k30_r4) (.seq (.seq (.region k30_r5) (.block 0 (.loop k30_l0))) (.seq (.region k30_r20) .ret))))))
def k30_p := PLift.up <| aI (vE k30.eq_1) <| aO k30_r0.eq_1 <| aO k30_r1.eq_1 <| aO k30_r2.eq_1 <| aO k30_r3.eq_1 <| aO k30_r4.eq_1 <| aO k30_r5.eq_1 <| aO k30_r6.eq_1 <| aO k30_r7.eq_1 <| aO k30_r8.eq_1 <| aO k30_r9.eq_1 <| aO k30_r10.eq_1 <| aO k30_r11.eq_1 <| aO k30_r12.eq_1 <| aO k30_r13.eq_1 <| aO k30_r14.eq_1 <| aO k30_r15.eq_1 <| aO k30_r16.eq_1 <| aO k30_r17.eq_1 <| aO k30_r18.eq_1 <| aO k30_r19.eq_1 <| aI (vE k30_l0.eq_1) (oE k30_r20.eq_1)
theorem k30_a : type_of% k30_p.down := k30_p.down
theorem k30_is : FnIs Tryz.prog prims 30 59 [ResultVar.tmp 4, ResultVar.tmp 5] k30 := FnIs.of_fn Tryz.func30 (by kernel_rfl) rfl
def k31_r0 : List COp := [o 4 (.alloc 54),
o 5 (.alloc 60),
o 6 (.alloc 3),
o 7 (.alloc 33)]
def k31_r1 : List COp := [o 14 (pM 0),
o 15 (.binOp .eql 26 (.tmp 14) (.const (.pointer .none)) 26),
o 13 (pA 15)]
def k31_r2 : List COp := [⟨none, .store 54 (.tmp 4) (.const (.pointer .none)), none, true⟩,
⟨none, .store 60 (.tmp 5) (.const (.slice .none 0 0)), none, true⟩,
⟨none, .store 3 (.tmp 6) (.const (.int .i64 0)), none, true⟩,
⟨none, .store 33 (.tmp 7) (.const (.int .i64 2)), none, true⟩]
def k31_r3 : List COp := [o 17 (pM 1),
o 18 (pK .lss 3 17 .i64 1 3),
o 16 (pA 18)]
def k31_r4 : List COp := [⟨none, .store 54 (.tmp 4) (.const (.pointer .none)), none, true⟩,
⟨none, .store 60 (.tmp 5) (.const (.slice .none 0 0)), none, true⟩,
⟨none, .store 3 (.tmp 6) (.const (.int .i64 0)), none, true⟩,
⟨none, .store 33 (.tmp 7) (.const (.int .i64 1)), none, true⟩]
def k31_r5 : List COp := [o 20 (pM 0),
o 21 (pC 48 20 26),
o 19 (pA 21)]
def k31_r6 : List COp := [⟨none, .store 54 (.tmp 4) (.const (.pointer .none)), none, true⟩,
⟨none, .store 60 (.tmp 5) (.const (.slice .none 0 0)), none, true⟩,
⟨none, .store 3 (.tmp 6) (.const (.int .i64 0)), none, true⟩,
⟨none, .store 33 (.tmp 7) (.const (.int .i64 20)), none, true⟩]
def k31_r7 : List COp := [o 22 (.makeFunc (.func 70) #[] #[.tmp 7, .tmp 4, .tmp 5, .tmp 6])]
def k31_r8 : List COp := [o 23 (pM 0),
o 24 (pM 1),
o 25 (.build 93 #[(0, .tmp 23), (1, .tmp 24), (2, .const (.int .i64 1)), (3, .const (.int .i64 1))]),
o 26 (.box 93 (.tmp 25)),
oS 54 4 26]
def k31_r9 : List COp := [o 8 (pO false)]
def k31_r10 : List COp := [o 27 (pM 0),
o 28 (pC 36 27 26),
o 29 (pN 28 70),
o 30 (pW .i64 0)]
def k31_r11 : List COp := [o 31 (pB .lss 3 30 29 3)]
def k31_r12 : List COp := [o 32 (pI 70 28 30),
o 33 (pL 9 32),
o 10 (pA 33)]
def k31_r13 : List COp := [o 34 (pM 10),
o 35 (pC 68 34 9),
o 11 (pA 35)]
def k31_r14 : List COp := [o 37 (pM 11),
o 38 (pK .eql 3 37 .i64 0 3),
o 36 (pA 38)]
def k31_r15 : List COp := [o 40 (pL 3 6),
o 41 (pK .gtr 3 40 .i64 0 3),
o 42 (pM 41),
oT 43 (pM 8) 42,
oT 44 (pM 43) 42,
oF 45 (pM 11) 44,
oF 46 (pL 54 4) 44,
oF 47 (.nilCheck (.tmp 46)) 44,
oF 48 (pF 93 47 3) 44,
oF 49 (pL 3 48) 44,
oF 50 (pB .neq 3 45 49 3) 44,
oT 51 (pV 44 50) 42,
o 52 (pU 42 51),
o 39 (pA 52)]
def k31_r16 : List COp := [o 53 (pM 0),
o 54 (pM 10),
o 55 (pD 50 53 54 26 9),
o 56 (pC 72 55 33)]
def k31_r17 : List COp := [o 8 (pO true)]
def k31_r18 : List COp := [o 58 (pL 3 6),
o 59 (pK .eql 3 58 .i64 0 3),
o 57 (pA 59)]
def k31_r19 : List COp := [o 60 (pM 11),
oS 3 6 60]
def k31_r20 : List COp := [o 61 (pM 0),
o 62 (pM 10),
o 63 (pD 73 61 62 26 9),
o 12 (pA 63)]
def k31_r21 : List COp := [o 64 (pL 60 5),
o 65 (pM 12),
o 66 (pQ 64 65 60 60),
oS 60 5 66]
def k31_r22 : CC := (.wregion [
(true, oX 67 (pL 54 4)),
(true, oX 68 (pL 54 4)),
(false, oX 69 (pM 11)),
(false, oX 70 (pM 11)),
(false, oX 71 (pM 12)),
(false, oX 72 (pN 71 60)),
(false, oX 73 (pB .add 3 70 72 3)),
(false, o 74 (.nilCheck (.tmp 67))),
(false, o 75 (pF 93 74 2)),
(false, oS 3 75 69),
(true, o 76 (.nilCheck (.tmp 68))),
(false, o 77 (pF 93 76 3)),
(false, oS 3 77 73)] false [(1, oX 68 (pL 54 4), [0, 10])])
def k31_r23 : List COp := [o 78 (pK .add 3 30 .i64 1 3),
o 30 (pM 78)]
def k31_l0 : CC := (.seq (.region k31_r11) (.seq (.cond (.tmp 31) .skip (.exit 1)) (.seq (.block 2 (.seq (.region k31_r12) (.seq (.region k31_r13) (.seq (.block 3 (.seq (.region k31_r14) (.cond (.tmp 36) (.exit 2) (.seq (.region k31_r15) (.cond (.tmp 39) (.seq (.region k31_r16) (.seq (.region k31_r17) (.exit 2))) (.seq (.region k31_r18) (.cond (.tmp 57) (.region k31_r19) .skip))))))) (.seq (.region k31_r20) (.seq (.region k31_r21) k31_r22)))))) (.region k31_r23))))
def k31_r24 : List COp := [o 79 (pL 3 6),
o 80 (pK .eql 3 79 .i64 0 3)]
def k31_r25 : List COp := [⟨none, .store 3 (.tmp 6) (.const (.int .i64 1)), none, true⟩]
def k31_r26 : CC := (.wregion [
(true, oX 81 (pL 54 4)),
(true, oX 82 (pL 60 5)),
(true, oX 83 (pL 3 6)),
(false, oS 54 4 81),
(true, oS 60 5 82),
(true, oS 3 6 83),
(false, ⟨none, .store 33 (.tmp 7) (.const (.int .i64 0)), none, true⟩)] false [(1, oX 82 (pL 60 5), [0, 4]), (2, oX 83 (pL 3 6), [0, 4, 5])])
def k31 : CD := (.seq (.code (.region k31_r0)) (.seq (.code (.block 0 (.seq (.region k31_r1) (.cond (.tmp 13) (.seq (.region k31_r2) .ret) (.seq (.region k31_r3) (.cond (.tmp 16) (.seq (.region k31_r4) .ret) (.seq (.region k31_r5) (.cond (.tmp 19) (.seq (.region k31_r6) .ret) .skip)))))))) (.seq (.reg k31_r7 (.tmp 22) []) (.seq (.code (.region k31_r8)) (.seq (.code (.region k31_r9)) (.seq (.seq (.code (.region k31_r10)) (.code (.block 1 (.loop k31_l0)))) (.seq (.seq (.code (.region k31_r24)) (.cond (.tmp 80) (.code (.region k31_r25)) (.code .skip))) (.seq (.code k31_r26) (.code .ret)))))))))
theorem k31_e : type_of% (@ypz P pr N e σ QQ _ _ k31.eq_1) := ypz k31.eq_1
def k31_p := PLift.up <| aI @k31_e <| aO k31_r0.eq_1 <| aO k31_r1.eq_1 <| aO k31_r2.eq_1 <| aO k31_r3.eq_1 <| aO k31_r4.eq_1 <| aO k31_r5.eq_1 <| aO k31_r6.eq_1 <| aO k31_r7.eq_1 <| aO k31_r8.eq_1 <| aO k31_r9.eq_1 <| aO k31_r10.eq_1 <| aO k31_r11.eq_1 <| aO k31_r12.eq_1 <| aO k31_r13.eq_1 <| aO k31_r14.eq_1 <| aO k31_r15.eq_1 <| aO k31_r16.eq_1 <| aO k31_r17.eq_1 <| aO k31_r18.eq_1 <| aO k31_r19.eq_1 <| aO k31_r20.eq_1 <| aO k31_r21.eq_1 <| aI (vE k31_r22.eq_1) <| aO k31_r23.eq_1 <| aI (vE k31_l0.eq_1) <| aO k31_r24.eq_1 <| aI (oE k31_r25.eq_1) (vE k31_r26.eq_1)
theorem k31_a : type_of% k31_p.down := k31_p.down
theorem k31_is : FnD Tryz.prog prims 31 84 [ResultVar.cell 4 54, ResultVar.cell 5 60, ResultVar.cell 6 3, ResultVar.cell 7 33] k31 := FnD.of_fn Tryz.func31 (by kernel_rfl) rfl
def k32_r0 : List COp := [o 4 (.assign (.const (.pointer .none))),
o 5 (.assign (.const (.slice .none 0 0))),
o 6 (pZ .i64 0),
o 7 (pZ .i64 0)]
def k32_r1 : List COp := [o 8 (.assign (.const (.pointer .none)))]
def k32_r2 : List COp := [o 23 (pM 1),
o 24 (pK .lss 3 23 .i64 1 3)]
def k32_r3 : List COp := [o 25 (pM 8),
o 4 (pA 25),
o 5 (.assign (.const (.slice .none 0 0))),
o 6 (pZ .i64 0),
o 7 (pZ .i64 1)]
def k32_r4 : List COp := [o 26 (pM 0),
o 27 (.nilCheck (.tmp 26)),
o 28 (pF 48 27 2),
o 29 (pL 4 28),
o 30 (.unOp .not 4 (.tmp 29))]
def k32_r5 : List COp := [o 31 (pM 8),
o 4 (pA 31),
o 5 (.assign (.const (.slice .none 0 0))),
o 6 (pZ .i64 0),
o 7 (pZ .i64 20)]
def k32_r6 : List COp := [o 32 (pM 0),
o 33 (pM 1),
o 34 (.build 68 #[(0, .tmp 32), (1, .tmp 33), (2, .const (.int .i64 1)), (3, .const (.int .i64 1))]),
o 35 (.box 68 (.tmp 34)),
o 9 (pA 35)]
def k32_r7 : List COp := [o 10 (.assign (.const (.slice .none 0 0)))]
def k32_r8 : List COp := [o 11 (pZ .i64 0)]
def k32_r9 : List COp := [o 12 (pO false)]
def k32_r10 : List COp := [o 36 (pM 0),
o 37 (pC 59 36 28),
o 38 (pN 37 70),
o 39 (pW .i64 0)]
def k32_r11 : List COp := [o 40 (pB .lss 3 39 38 3)]
def k32_r12 : List COp := [o 41 (pI 70 37 39),
o 42 (pL 9 41),
o 14 (pA 42)]
def k32_r13 : List COp := [o 43 (pM 14),
o 44 (pC 69 43 9),
o 15 (pA 44)]
def k32_r14 : List COp := [o 45 (pM 15),
o 46 (pK .eql 3 45 .i64 0 3)]
def k32_r15 : List COp := [o 47 (pM 11),
o 48 (pK .gtr 3 47 .i64 0 3),
o 49 (pM 48),
oT 50 (pM 12) 49,
oT 51 (pM 50) 49,
oF 52 (pM 15) 51,
oF 53 (pM 9) 51,
oF 54 (.nilCheck (.tmp 53)) 51,
oF 55 (pF 68 54 3) 51,
oF 56 (pL 3 55) 51,
oF 57 (pB .neq 3 52 56 3) 51,
oT 58 (pV 51 57) 49,
o 59 (pU 49 58)]
def k32_r16 : List COp := [o 60 (pM 0),
o 61 (pM 14),
o 62 (pD 56 60 61 28 9),
o 16 (pA 62)]
def k32_r17 : List COp := [o 63 (pM 16),
o 64 (pK .neq 33 63 .i64 0 33)]
def k32_r18 : List COp := [o 65 (pM 8),
o 66 (pM 16),
o 4 (pA 65),
o 5 (.assign (.const (.slice .none 0 0))),
o 6 (pZ .i64 0),
o 7 (pA 66)]
def k32_r19 : List COp := [o 12 (pO true)]
def k32_r20 : List COp := [o 67 (pM 11),
o 68 (pK .eql 3 67 .i64 0 3)]
def k32_r21 : List COp := [o 69 (pM 15),
o 11 (pA 69)]
def k32_r22 : List COp := [o 71 (pM 0),
o 72 (pM 14),
o 73 (pD 55 71 72 28 9),
o 70 (pM 73),
o 74 (pX 70 0),
o 75 (pX 70 1),
o 17 (pA 74),
o 18 (pA 75)]
def k32_r23 : List COp := [o 77 (pM 17),
o 78 (pC 74 77 30),
o 76 (pM 78),
o 79 (pX 76 0),
o 80 (pX 76 1),
o 19 (pA 79),
o 20 (pA 80)]
def k32_r24 : List COp := [o 81 (pM 20),
o 82 (pM 17),
o 83 (pN 82 30),
o 84 (pB .lss 3 81 83 3)]
def k32_r25 : List COp := [o 85 (pM 0),
o 86 (pM 14),
o 87 (pM 20),
o 88 (.call { callee := .value (.func 75), args := #[.tmp 85, .tmp 86, .tmp 87], argTypes := #[28, 9, 3] }),
o 21 (pA 88)]
def k32_r26 : List COp := [o 89 (pM 21),
o 90 (pK .neq 33 89 .i64 0 33)]
def k32_r27 : List COp := [o 91 (pM 8),
o 92 (pM 21),
o 4 (pA 91),
o 5 (.assign (.const (.slice .none 0 0))),
o 6 (pZ .i64 0),
o 7 (pA 92)]
def k32_r28 : List COp := [o 93 (pM 0),
o 94 (pM 14),
o 95 (pD 12 93 94 28 9),
o 22 (pA 95)]
def k32_r29 : List COp := [o 96 (pM 22),
o 97 (pK .neq 33 96 .i64 0 33)]
def k32_r30 : List COp := [o 98 (pM 8),
o 99 (pM 22),
o 4 (pA 98),
o 5 (.assign (.const (.slice .none 0 0))),
o 6 (pZ .i64 0),
o 7 (pA 99)]
def k32_r31 : List COp := [o 100 (pM 10),
o 101 (pM 19),
o 102 (pQ 100 101 60 60),
o 10 (pA 102)]
def k32_r32 : List COp := [o 103 (pM 9),
o 104 (pM 15),
o 105 (.nilCheck (.tmp 103)),
o 106 (pF 68 105 2),
oS 3 106 104]
def k32_r33 : List COp := [o 107 (pM 9),
o 108 (pM 15),
o 109 (pM 19),
o 110 (pN 109 60),
o 111 (pB .add 3 108 110 3),
o 112 (.nilCheck (.tmp 107)),
o 113 (pF 68 112 3),
oS 3 113 111]
def k32_r34 : List COp := [o 114 (pK .add 3 39 .i64 1 3),
o 39 (pM 114)]
def k32_l0 : CC := (.seq (.region k32_r11) (.seq (.cond (.tmp 40) .skip (.exit 0)) (.seq (.block 1 (.seq (.region k32_r12) (.seq (.region k32_r13) (.seq (.seq (.region k32_r14) (.cond (.tmp 46) (.exit 1) .skip)) (.seq (.seq (.region k32_r15) (.cond (.tmp 59) (.seq (.region k32_r16) (.seq (.seq (.region k32_r17) (.cond (.tmp 64) (.seq (.region k32_r18) .ret) .skip)) (.seq (.region k32_r19) (.exit 1)))) .skip)) (.seq (.seq (.region k32_r20) (.cond (.tmp 68) (.region k32_r21) .skip)) (.seq (.region k32_r22) (.seq (.region k32_r23) (.seq (.seq (.region k32_r24) (.cond (.tmp 84) (.seq (.region k32_r25) (.seq (.region k32_r26) (.cond (.tmp 90) (.seq (.region k32_r27) .ret) .skip))) .skip)) (.seq (.region k32_r28) (.seq (.seq (.region k32_r29) (.cond (.tmp 97) (.seq (.region k32_r30) .ret) .skip)) (.seq (.region k32_r31) (.seq (.region k32_r32) (.region k32_r33)))))))))))))) (.region k32_r34))))
def k32_r35 : List COp := [o 115 (pM 11),
o 116 (pK .eql 3 115 .i64 0 3)]
def k32_r36 : List COp := [o 11 (pZ .i64 1)]
def k32_r37 : List COp := [o 117 (pM 9),
o 118 (pM 10),
o 119 (pM 11),
o 4 (pA 117),
o 5 (pA 118),
o 6 (pA 119),
o 7 (pZ .i64 0)]
def k32 : CC := (.seq (.region k32_r0) (.seq (.region k32_r1) (.seq (.seq (.region k32_r2) (.cond (.tmp 24) (.seq (.region k32_r3) .ret) .skip)) (.seq (.seq (.region k32_r4) (.cond (.tmp 30) (.seq (.region k32_r5) .ret) .skip)) (.seq (.region k32_r6) (.seq (.region k32_r7) (.seq (.region k32_r8) (.seq (.region k32_r9) (.seq (.seq (.region k32_r10) (.block 0 (.loop k32_l0))) (.seq (.seq (.region k32_r35) (.cond (.tmp 116) (.region k32_r36) .skip)) (.seq (.region k32_r37) .ret)))))))))))
def k32_p := PLift.up <| aI (vE k32.eq_1) <| aO k32_r0.eq_1 <| aO k32_r1.eq_1 <| aO k32_r2.eq_1 <| aO k32_r3.eq_1 <| aO k32_r4.eq_1 <| aO k32_r5.eq_1 <| aO k32_r6.eq_1 <| aO k32_r7.eq_1 <| aO k32_r8.eq_1 <| aO k32_r9.eq_1 <| aO k32_r10.eq_1 <| aO k32_r11.eq_1 <| aO k32_r12.eq_1 <| aO k32_r13.eq_1 <| aO k32_r14.eq_1 <| aO k32_r15.eq_1 <| aO k32_r16.eq_1 <| aO k32_r17.eq_1 <| aO k32_r18.eq_1 <| aO k32_r19.eq_1 <| aO k32_r20.eq_1 <| aO k32_r21.eq_1 <| aO k32_r22.eq_1 <| aO k32_r23.eq_1 <| aO k32_r24.eq_1 <| aO k32_r25.eq_1 <| aO k32_r26.eq_1 <| aO k32_r27.eq_1 <| aO k32_r28.eq_1 <| aO k32_r29.eq_1 <| aO k32_r30.eq_1 <| aO k32_r31.eq_1 <| aO k32_r32.eq_1 <| aO k32_r33.eq_1 <| aO k32_r34.eq_1 <| aI (vE k32_l0.eq_1) <| aO k32_r35.eq_1 <| aI (oE k32_r36.eq_1) (oE k32_r37.eq_1)
theorem k32_a : type_of% k32_p.down := k32_p.down
theorem k32_is : FnIs Tryz.prog prims 32 120 [ResultVar.tmp 4, ResultVar.tmp 5, ResultVar.tmp 6, ResultVar.tmp 7] k32 := FnIs.of_fn Tryz.func32 (by kernel_rfl) rfl
def k33_r0 : List COp := [o 4 (pO false)]
def k33_r1 : List COp := [o 6 (pM 0),
o 7 (pN 6 60),
o 8 (pM 1),
o 9 (pN 8 60),
o 10 (pB .neq 3 7 9 3)]
def k33_r2 : List COp := [o 4 (pO false)]
def k33_r3 : List COp := [o 11 (pM 0),
o 12 (pN 11 60),
o 13 (pW .i64 0)]
def k33_r4 : List COp := [o 14 (pB .lss 3 13 12 3)]
def k33_r5 : List COp := [o 15 (pM 13),
o 5 (pA 15)]
def k33_r6 : List COp := [oX 16 (pM 0),
oX 17 (pM 5),
oX 18 (pI 60 16 17),
oX 19 (pL 30 18),
oX 20 (pM 1),
o 21 (pM 5),
o 22 (pI 60 20 21),
o 23 (pL 30 22),
o 24 (pD 76 19 23 30 30),
o 25 (.unOp .not 4 (.tmp 24))]
def k33_r7 : List COp := [o 4 (pO false)]
def k33_r8 : List COp := [o 26 (pK .add 3 13 .i64 1 3),
o 13 (pM 26)]
def k33_l0 : CC := (.seq (.region k33_r4) (.seq (.cond (.tmp 14) .skip (.exit 0)) (.seq (.block 1 (.seq (.region k33_r5) (.seq (.region k33_r6) (.cond (.tmp 25) (.seq (.region k33_r7) .ret) .skip)))) (.region k33_r8))))
def k33_r9 : List COp := [o 4 (pO true)]
def k33 : CC := (.seq (.region k33_r0) (.seq (.seq (.region k33_r1) (.cond (.tmp 10) (.seq (.region k33_r2) .ret) .skip)) (.seq (.seq (.region k33_r3) (.block 0 (.loop k33_l0))) (.seq (.region k33_r9) .ret))))
def k33_p := PLift.up <| aI (vE k33.eq_1) <| aO k33_r0.eq_1 <| aO k33_r1.eq_1 <| aO k33_r2.eq_1 <| aO k33_r3.eq_1 <| aO k33_r4.eq_1 <| aO k33_r5.eq_1 <| aO k33_r6.eq_1 <| aO k33_r7.eq_1 <| aO k33_r8.eq_1 <| aI (vE k33_l0.eq_1) (oE k33_r9.eq_1)
theorem k33_a : type_of% k33_p.down := k33_p.down
theorem k33_is : FnIs Tryz.prog prims 33 27 [ResultVar.tmp 4] k33 := FnIs.of_fn Tryz.func33 (by kernel_rfl) rfl
def k34_r0 : List COp := [o 4 (pO false)]
def k34_r1 : List COp := [o 12 (pM 0),
o 13 (pC 36 12 26),
o 14 (pM 1),
o 15 (pC 59 14 28),
o 5 (pA 13),
o 6 (pA 15)]
def k34_r2 : CC := (.wregion [
(true, oX 16 (pM 5)),
(false, oX 17 (pN 16 70)),
(false, o 18 (pM 6)),
(false, o 19 (pN 18 70)),
(false, o 20 (pB .neq 3 17 19 3)),
(false, o 21 (pM 20)),
(false, ⟨some 22, .move (.tmp 0), some (21, false), false⟩),
(false, ⟨some 23, .call { callee := .value (.func 48), args := #[.tmp 22], argTypes := #[26] }, some (21, false), false⟩),
(true, oF 24 (pM 1) 21),
(false, oF 25 (.nilCheck (.tmp 24)) 21),
(false, oF 26 (pF 48 25 2) 21),
(true, oF 27 (pL 4 26) 21),
(false, oF 28 (pB .eql 4 23 27 4) 21),
(false, o 29 (pV 21 28)),
(false, o 30 (pM 29)),
(false, ⟨some 31, .move (.tmp 0), some (30, false), false⟩),
(false, ⟨some 32, .call { callee := .value (.func 63), args := #[.tmp 31], argTypes := #[26] }, some (30, false), false⟩),
(true, oF 33 (pM 1) 30),
(false, oF 34 (.nilCheck (.tmp 33)) 30),
(false, oF 35 (pF 48 34 3) 30),
(true, oF 36 (pL 3 35) 30),
(false, oF 37 (pB .neq 3 32 36 3) 30),
(false, o 38 (pV 30 37))] false [(11, oF 27 (pL 4 26) 21, [0, 8]), (20, oF 36 (pL 3 35) 30, [8, 17])])
def k34_r3 : List COp := [o 4 (pO false)]
def k34_r4 : List COp := [o 39 (pM 5),
o 40 (pN 39 70),
o 41 (pW .i64 0)]
def k34_r5 : List COp := [o 42 (pB .lss 3 41 40 3)]
def k34_r6 : List COp := [o 43 (pM 41),
o 7 (pA 43)]
def k34_r7 : List COp := [o 45 (pM 0),
o 46 (pM 5),
o 47 (pM 7),
o 48 (pI 70 46 47),
o 49 (pL 9 48),
o 50 (pD 49 45 49 26 9),
o 44 (pM 50),
o 51 (pX 44 0),
o 52 (pX 44 1),
o 8 (pA 51),
o 9 (pA 52)]
def k34_r8 : List COp := [o 54 (pM 1),
o 55 (pM 6),
o 56 (pM 7),
o 57 (pI 70 55 56),
o 58 (pL 9 57),
o 59 (pD 55 54 58 28 9),
o 53 (pM 59),
o 60 (pX 53 0),
o 61 (pX 53 1),
o 10 (pA 60),
o 11 (pA 61)]
def k34_r9 : List COp := [oX 62 (pM 5),
oX 63 (pM 7),
oX 64 (pI 70 62 63),
oX 65 (pL 9 64),
oX 66 (pM 6),
o 67 (pM 7),
o 68 (pI 70 66 67),
o 69 (pL 9 68),
o 70 (pB .neq 9 65 69 9),
o 71 (pM 70),
⟨some 72, .move (.tmp 9), some (71, false), false⟩,
oF 73 (pM 11) 71,
oF 74 (pB .neq 33 72 73 33) 71,
o 75 (pV 71 74),
o 76 (pM 75),
⟨some 77, .move (.tmp 8), some (76, false), false⟩,
oF 78 (pM 10) 76,
oF 79 (pD 76 77 78 30 30) 76,
oF 80 (.unOp .not 4 (.tmp 79)) 76,
o 81 (pV 76 80)]
def k34_r10 : List COp := [o 4 (pO false)]
def k34_r11 : List COp := [o 82 (pK .add 3 41 .i64 1 3),
o 41 (pM 82)]
def k34_l0 : CC := (.seq (.region k34_r5) (.seq (.cond (.tmp 42) .skip (.exit 0)) (.seq (.block 1 (.seq (.region k34_r6) (.seq (.region k34_r7) (.seq (.region k34_r8) (.seq (.region k34_r9) (.cond (.tmp 81) (.seq (.region k34_r10) .ret) .skip)))))) (.region k34_r11))))
def k34_r12 : List COp := [o 4 (pO true)]
def k34 : CC := (.seq (.region k34_r0) (.seq (.region k34_r1) (.seq (.seq k34_r2 (.cond (.tmp 38) (.seq (.region k34_r3) .ret) .skip)) (.seq (.seq (.region k34_r4) (.block 0 (.loop k34_l0))) (.seq (.region k34_r12) .ret)))))
def k34_p := PLift.up <| aI (vE k34.eq_1) <| aO k34_r0.eq_1 <| aO k34_r1.eq_1 <| aI (vE k34_r2.eq_1) <| aO k34_r3.eq_1 <| aO k34_r4.eq_1 <| aO k34_r5.eq_1 <| aO k34_r6.eq_1 <| aO k34_r7.eq_1 <| aO k34_r8.eq_1 <| aO k34_r9.eq_1 <| aO k34_r10.eq_1 <| aO k34_r11.eq_1 <| aI (vE k34_l0.eq_1) (oE k34_r12.eq_1)
theorem k34_a : type_of% k34_p.down := k34_p.down
theorem k34_is : FnIs Tryz.prog prims 34 83 [ResultVar.tmp 4] k34 := FnIs.of_fn Tryz.func34 (by kernel_rfl) rfl
def k35_r0 : List COp := [o 2 (pZ .i64 0)]
def k35_r1 : List COp := [o 3 (pM 0),
o 4 (.binOp .eql 54 (.tmp 3) (.const (.pointer .none)) 54)]
def k35_r2 : List COp := [o 2 (pZ .i64 0)]
def k35_r3 : List COp := [o 5 (pM 0),
o 6 (.nilCheck (.tmp 5)),
o 7 (pF 93 6 3),
o 8 (pL 3 7),
o 2 (pA 8)]
def k35 : CC := (.seq (.region k35_r0) (.seq (.seq (.region k35_r1) (.cond (.tmp 4) (.seq (.region k35_r2) .ret) .skip)) (.seq (.region k35_r3) .ret)))
def k35_p := PLift.up <| aI (vE k35.eq_1) <| aO k35_r0.eq_1 <| aO k35_r1.eq_1 <| aI (oE k35_r2.eq_1) (oE k35_r3.eq_1)
theorem k35_a : type_of% k35_p.down := k35_p.down
theorem k35_is : FnIs Tryz.prog prims 35 9 [ResultVar.tmp 2] k35 := FnIs.of_fn Tryz.func35 (by kernel_rfl) rfl
def k36_r0 : List COp := [o 2 (.assign (.const (.slice .none 0 0)))]
def k36_r1 : List COp := [o 3 (pM 0),
o 4 (.binOp .eql 26 (.tmp 3) (.const (.pointer .none)) 26),
o 5 (pM 4),
oF 6 (pM 0) 5,
oF 7 (.nilCheck (.tmp 6)) 5,
oF 8 (pF 74 7 2) 5,
oF 9 (pL 4 8) 5,
o 10 (pV 5 9)]
def k36_r2 : List COp := [o 2 (.assign (.const (.slice .none 0 0)))]
def k36_r3 : List COp := [o 11 (pM 0),
o 12 (.nilCheck (.tmp 11)),
o 13 (pF 74 12 0),
o 14 (pL 72 13),
o 15 (pC 78 14 72),
o 16 (pC 77 15 104),
o 2 (pA 16)]
def k36 : CC := (.seq (.region k36_r0) (.seq (.seq (.region k36_r1) (.cond (.tmp 10) (.seq (.region k36_r2) .ret) .skip)) (.seq (.region k36_r3) .ret)))
def k36_p := PLift.up <| aI (vE k36.eq_1) <| aO k36_r0.eq_1 <| aO k36_r1.eq_1 <| aI (oE k36_r2.eq_1) (oE k36_r3.eq_1)
theorem k36_a : type_of% k36_p.down := k36_p.down
theorem k36_is : FnIs Tryz.prog prims 36 17 [ResultVar.tmp 2] k36 := FnIs.of_fn Tryz.func36 (by kernel_rfl) rfl
def k37_r0 : List COp := [o 4 (pZ .i64 0)]
def k37_r1 : List COp := [o 6 (pM 0),
o 7 (.binOp .eql 26 (.tmp 6) (.const (.pointer .none)) 26),
o 5 (pA 7)]
def k37_r2 : List COp := [o 4 (pZ .i64 2)]
def k37_r3 : List COp := [o 9 (pM 1),
o 10 (pC 79 9 9),
o 11 (.unOp .not 4 (.tmp 10)),
o 8 (pA 11)]
def k37_r4 : List COp := [o 4 (pZ .i64 1)]
def k37_r5 : List COp := [o 13 (pM 0),
o 14 (.nilCheck (.tmp 13)),
o 15 (pF 74 14 2),
o 16 (pL 4 15),
o 12 (pA 16)]
def k37_r6 : List COp := [o 4 (pZ .i64 20)]
def k37_r7 : List COp := [o 4 (pZ .i64 0)]
def k37 : CC := (.seq (.region k37_r0) (.seq (.block 0 (.seq (.region k37_r1) (.cond (.tmp 5) (.seq (.region k37_r2) .ret) (.seq (.region k37_r3) (.cond (.tmp 8) (.seq (.region k37_r4) .ret) (.seq (.region k37_r5) (.cond (.tmp 12) (.seq (.region k37_r6) .ret) .skip))))))) (.seq (.region k37_r7) .ret)))
def k37_p := PLift.up <| aI (vE k37.eq_1) <| aO k37_r0.eq_1 <| aO k37_r1.eq_1 <| aO k37_r2.eq_1 <| aO k37_r3.eq_1 <| aO k37_r4.eq_1 <| aO k37_r5.eq_1 <| aI (oE k37_r6.eq_1) (oE k37_r7.eq_1)
theorem k37_a : type_of% k37_p.down := k37_p.down
theorem k37_is : FnIs Tryz.prog prims 37 17 [ResultVar.tmp 4] k37 := FnIs.of_fn Tryz.func37 (by kernel_rfl) rfl
def k39_r0 : List COp := [o 2 (pO false)]
def k39_r1 : List COp := [o 3 (pM 0),
o 4 (.nilCheck (.tmp 3)),
o 5 (pF 74 4 3),
o 6 (pL 3 5),
o 7 (pK .add 3 6 .i64 1 3),
o 8 (.nilCheck (.tmp 3)),
o 9 (pF 74 8 3),
oS 3 9 7]
def k39_r2 : List COp := [o 10 (pM 0),
o 11 (.nilCheck (.tmp 10)),
o 12 (pF 74 11 4),
o 13 (pL 3 12),
o 14 (pK .eql 3 13 .i64 0 3)]
def k39_r3 : List COp := [o 2 (pO false)]
def k39_r4 : List COp := [o 15 (pM 0),
o 16 (.nilCheck (.tmp 15)),
o 17 (pF 74 16 4),
o 18 (pL 3 17),
o 19 (pK .sub 3 18 .i64 1 3),
o 20 (.nilCheck (.tmp 15)),
o 21 (pF 74 20 4),
oS 3 21 19]
def k39_r5 : List COp := [o 22 (pM 0),
o 23 (.nilCheck (.tmp 22)),
o 24 (pF 74 23 4),
o 25 (pL 3 24),
o 26 (pK .eql 3 25 .i64 0 3),
o 2 (pA 26)]
def k39 : CC := (.seq (.region k39_r0) (.seq (.region k39_r1) (.seq (.seq (.region k39_r2) (.cond (.tmp 14) (.seq (.region k39_r3) .ret) .skip)) (.seq (.region k39_r4) (.seq (.region k39_r5) .ret)))))
def k39_p := PLift.up <| aI (vE k39.eq_1) <| aO k39_r0.eq_1 <| aO k39_r1.eq_1 <| aO k39_r2.eq_1 <| aO k39_r3.eq_1 <| aI (oE k39_r4.eq_1) (oE k39_r5.eq_1)
theorem k39_a : type_of% k39_p.down := k39_p.down
theorem k39_is : FnIs Tryz.prog prims 39 27 [ResultVar.tmp 2] k39 := FnIs.of_fn Tryz.func39 (by kernel_rfl) rfl
def k40_r0 : List COp := [o 2 (pZ .i64 0)]
def k40_r1 : List COp := [o 3 (pM 0),
o 4 (pM 0),
o 5 (.nilCheck (.tmp 4)),
o 6 (pF 74 5 5),
o 7 (pL 3 6),
o 8 (pD 20 3 7 26 3)]
def k40_r2 : List COp := [o 2 (pZ .i64 20)]
def k40 : CC := (.seq (.region k40_r0) (.seq (.region k40_r1) (.seq (.region k40_r2) .ret)))
def k40_p := PLift.up <| aI (vE k40.eq_1) <| aO k40_r0.eq_1 <| aI (oE k40_r1.eq_1) (oE k40_r2.eq_1)
theorem k40_a : type_of% k40_p.down := k40_p.down
theorem k40_is : FnIs Tryz.prog prims 40 9 [ResultVar.tmp 2] k40 := FnIs.of_fn Tryz.func40 (by kernel_rfl) rfl
def k41_r0 : List COp := [o 4 (pZ .i64 0)]
def k41_r1 : List COp := [o 5 (pM 1),
o 6 (pN 5 9),
o 7 (pK .lss 3 6 .i64 1 3),
o 8 (pM 7),
oF 9 (pM 1) 8,
oF 10 (pN 9 9) 8,
oF 11 (pK .gtr 3 10 .i64 16 3) 8,
o 12 (pV 8 11)]
def k41_r2 : List COp := [o 4 (pZ .i64 1)]
def k41_r3 : List COp := [o 13 (pM 0),
o 14 (.nilCheck (.tmp 13)),
o 15 (pF 48 14 2),
o 16 (pL 4 15),
o 17 (.unOp .not 4 (.tmp 16))]
def k41_r4 : List COp := [o 4 (pZ .i64 20)]
def k41_r5 : List COp := [o 4 (pZ .i64 0)]
def k41 : CC := (.seq (.region k41_r0) (.seq (.seq (.region k41_r1) (.cond (.tmp 12) (.seq (.region k41_r2) .ret) .skip)) (.seq (.seq (.region k41_r3) (.cond (.tmp 17) (.seq (.region k41_r4) .ret) .skip)) (.seq (.region k41_r5) .ret))))
def k41_p := PLift.up <| aI (vE k41.eq_1) <| aO k41_r0.eq_1 <| aO k41_r1.eq_1 <| aO k41_r2.eq_1 <| aO k41_r3.eq_1 <| aI (oE k41_r4.eq_1) (oE k41_r5.eq_1)
theorem k41_a : type_of% k41_p.down := k41_p.down
theorem k41_is : FnIs Tryz.prog prims 41 18 [ResultVar.tmp 4] k41 := FnIs.of_fn Tryz.func41 (by kernel_rfl) rfl
def k42_r0 : List COp := [o 4 (pZ .i64 0)]
def k42_r1 : List COp := [o 7 (pM 0),
o 8 (.nilCheck (.tmp 7)),
o 9 (pF 48 8 0),
o 10 (pL 46 9),
o 11 (pN 10 46),
o 12 (pW .i64 0)]
def k42_r2 : List COp := [o 13 (pB .lss 3 12 11 3)]
def k42_r3 : List COp := [o 14 (pM 12),
o 15 (pI 46 10 12),
o 16 (pL 81 15),
o 6 (.alloc 81),
o 5 (pA 14),
oS 81 6 16]
def k42_r4 : List COp := [o 17 (pF 81 6 0),
o 18 (pL 9 17),
o 19 (pM 1),
o 20 (pB .eql 9 18 19 9)]
def k42_r5 : List COp := [o 21 (pM 5),
o 4 (pA 21)]
def k42_r6 : List COp := [o 22 (pK .add 3 12 .i64 1 3),
o 12 (pM 22)]
def k42_l0 : CC := (.seq (.region k42_r2) (.seq (.cond (.tmp 13) .skip (.exit 0)) (.seq (.block 1 (.seq (.region k42_r3) (.seq (.region k42_r4) (.cond (.tmp 20) (.seq (.region k42_r5) .ret) .skip)))) (.region k42_r6))))
def k42_r7 : List COp := [o 4 (pZ .i64 (-1))]
def k42 : CC := (.seq (.region k42_r0) (.seq (.seq (.region k42_r1) (.block 0 (.loop k42_l0))) (.seq (.region k42_r7) .ret)))
def k42_p := PLift.up <| aI (vE k42.eq_1) <| aO k42_r0.eq_1 <| aO k42_r1.eq_1 <| aO k42_r2.eq_1 <| aO k42_r3.eq_1 <| aO k42_r4.eq_1 <| aO k42_r5.eq_1 <| aO k42_r6.eq_1 <| aI (vE k42_l0.eq_1) (oE k42_r7.eq_1)
theorem k42_a : type_of% k42_p.down := k42_p.down
theorem k42_is : FnIs Tryz.prog prims 42 23 [ResultVar.tmp 4] k42 := FnIs.of_fn Tryz.func42 (by kernel_rfl) rfl
def k43_r0 : List COp := [o 2 (pZ .i64 0)]
def k43_r1 : List COp := [o 3 (pZ .i64 0)]
def k43_r2 : List COp := [o 6 (pM 0),
o 7 (.nilCheck (.tmp 6)),
o 8 (pF 48 7 0),
o 9 (pL 46 8),
o 10 (pN 9 46),
o 11 (pW .i64 0)]
def k43_r3 : List COp := [o 12 (pB .lss 3 11 10 3)]
def k43_r4 : List COp := [o 13 (pI 46 9 11),
o 14 (pL 81 13),
o 5 (.alloc 81),
oS 81 5 14]
def k43_r5 : List COp := [o 15 (pM 3),
o 16 (pF 81 5 1),
o 17 (pL 30 16),
o 18 (pN 17 30),
o 19 (pB .add 3 15 18 3),
o 20 (pF 81 5 2),
o 21 (pL 30 20),
o 22 (pN 21 30),
o 23 (pB .add 3 19 22 3),
o 3 (pA 23)]
def k43_r6 : List COp := [o 24 (pK .add 3 11 .i64 1 3),
o 11 (pM 24)]
def k43_l0 : CC := (.seq (.region k43_r3) (.seq (.cond (.tmp 12) .skip (.exit 0)) (.seq (.block 1 (.seq (.region k43_r4) (.region k43_r5))) (.region k43_r6))))
def k43_r7 : List COp := [o 25 (pM 3),
o 2 (pA 25)]
def k43 : CC := (.seq (.region k43_r0) (.seq (.region k43_r1) (.seq (.seq (.region k43_r2) (.block 0 (.loop k43_l0))) (.seq (.region k43_r7) .ret))))
def k43_p := PLift.up <| aI (vE k43.eq_1) <| aO k43_r0.eq_1 <| aO k43_r1.eq_1 <| aO k43_r2.eq_1 <| aO k43_r3.eq_1 <| aO k43_r4.eq_1 <| aO k43_r5.eq_1 <| aO k43_r6.eq_1 <| aI (vE k43_l0.eq_1) (oE k43_r7.eq_1)
theorem k43_a : type_of% k43_p.down := k43_p.down
theorem k43_is : FnIs Tryz.prog prims 43 26 [ResultVar.tmp 2] k43 := FnIs.of_fn Tryz.func43 (by kernel_rfl) rfl
def k44_r0 : List COp := [o 3 (.box 81 (.tmp 1))]
def k44_r1 : List COp := [o 4 (.assign (.const (.slice .none 0 0)))]
def k44_r2 : List COp := [o 5 (pO false)]
def k44_r3 : List COp := [o 8 (pM 0),
o 9 (.nilCheck (.tmp 8)),
o 10 (pF 48 9 0),
o 11 (pL 46 10),
o 12 (pN 11 46),
o 13 (pW .i64 0)]
def k44_r4 : List COp := [o 14 (pB .lss 3 13 12 3)]
def k44_r5 : List COp := [o 15 (pI 46 11 13),
o 16 (pL 81 15),
o 7 (.alloc 81),
oS 81 7 16]
def k44_r6 : List COp := [o 17 (pM 5),
o 18 (.unOp .not 4 (.tmp 17)),
o 19 (pM 18),
oT 20 (pF 81 3 0) 19,
oT 21 (pL 9 20) 19,
oT 22 (pF 81 7 0) 19,
oT 23 (pL 9 22) 19,
oT 24 (pB .lss 9 21 23 9) 19,
o 25 (pU 19 24)]
def k44_r7 : CC := (.hreg [
(false, o 26 (pM 4)),
(false, o 27 (pL 81 3)),
(true, o 28 (.buildSlice 46 1 #[(0, .tmp 27)])),
(true, o 29 (pQ 26 28 46 46)),
(false, o 4 (pA 29))])
def k44_r8 : List COp := [o 5 (pO true)]
def k44_r9 : List COp := [o 30 (pF 81 7 0),
o 31 (pL 9 30),
o 32 (pF 81 3 0),
o 33 (pL 9 32),
o 34 (pB .neq 9 31 33 9)]
def k44_r10 : CC := (.hreg [
(false, o 35 (pM 4)),
(false, o 36 (pL 81 7)),
(true, o 37 (.buildSlice 46 1 #[(0, .tmp 36)])),
(true, o 38 (pQ 35 37 46 46)),
(false, o 4 (pA 38))])
def k44_r11 : List COp := [o 39 (pK .add 3 13 .i64 1 3),
o 13 (pM 39)]
def k44_l0 : CC := (.seq (.region k44_r4) (.seq (.cond (.tmp 14) .skip (.exit 0)) (.seq (.block 1 (.seq (.region k44_r5) (.seq (.seq (.region k44_r6) (.cond (.tmp 25) (.seq k44_r7 (.region k44_r8)) .skip)) (.seq (.region k44_r9) (.cond (.tmp 34) k44_r10 .skip))))) (.region k44_r11))))
def k44_r12 : List COp := [o 40 (pM 5),
o 41 (.unOp .not 4 (.tmp 40))]
def k44_r13 : CC := (.hreg [
(false, o 42 (pM 4)),
(false, o 43 (pL 81 3)),
(true, o 44 (.buildSlice 46 1 #[(0, .tmp 43)])),
(true, o 45 (pQ 42 44 46 46)),
(false, o 4 (pA 45))])
def k44_r14 : List COp := [o 46 (pM 0),
o 47 (pM 4),
o 48 (.nilCheck (.tmp 46)),
o 49 (pF 48 48 0),
oS 46 49 47]
def k44 : CC := (.seq (.region k44_r0) (.seq (.region k44_r1) (.seq (.region k44_r2) (.seq (.seq (.region k44_r3) (.block 0 (.loop k44_l0))) (.seq (.seq (.region k44_r12) (.cond (.tmp 41) k44_r13 .skip)) (.region k44_r14))))))
def k44_p := PLift.up <| aI (vE k44.eq_1) <| aO k44_r0.eq_1 <| aO k44_r1.eq_1 <| aO k44_r2.eq_1 <| aO k44_r3.eq_1 <| aO k44_r4.eq_1 <| aO k44_r5.eq_1 <| aO k44_r6.eq_1 <| aI (vE k44_r7.eq_1) <| aO k44_r8.eq_1 <| aO k44_r9.eq_1 <| aI (vE k44_r10.eq_1) <| aO k44_r11.eq_1 <| aI (vE k44_l0.eq_1) <| aO k44_r12.eq_1 <| aI (vE k44_r13.eq_1) (oE k44_r14.eq_1)
theorem k44_a : type_of% k44_p.down := k44_p.down
theorem k44_is : FnIs Tryz.prog prims 44 50 [] k44 := FnIs.of_fn Tryz.func44 (by kernel_rfl) rfl
def k45_r0 : List COp := [o 2 (pO false)]
def k45_r1 : List COp := [o 3 (pM 0),
o 4 (.nilCheck (.tmp 3)),
o 5 (pF 48 4 3),
o 6 (pL 3 5),
o 7 (pK .add 3 6 .i64 1 3),
o 8 (.nilCheck (.tmp 3)),
o 9 (pF 48 8 3),
oS 3 9 7]
def k45_r2 : List COp := [o 10 (pM 0),
o 11 (.nilCheck (.tmp 10)),
o 12 (pF 48 11 4),
o 13 (pL 3 12),
o 14 (pK .eql 3 13 .i64 0 3)]
def k45_r3 : List COp := [o 2 (pO false)]
def k45_r4 : List COp := [o 15 (pM 0),
o 16 (.nilCheck (.tmp 15)),
o 17 (pF 48 16 4),
o 18 (pL 3 17),
o 19 (pK .sub 3 18 .i64 1 3),
o 20 (.nilCheck (.tmp 15)),
o 21 (pF 48 20 4),
oS 3 21 19]
def k45_r5 : List COp := [o 22 (pM 0),
o 23 (.nilCheck (.tmp 22)),
o 24 (pF 48 23 4),
o 25 (pL 3 24),
o 26 (pK .eql 3 25 .i64 0 3),
o 2 (pA 26)]
def k45 : CC := (.seq (.region k45_r0) (.seq (.region k45_r1) (.seq (.seq (.region k45_r2) (.cond (.tmp 14) (.seq (.region k45_r3) .ret) .skip)) (.seq (.region k45_r4) (.seq (.region k45_r5) .ret)))))
def k45_p := PLift.up <| aI (vE k45.eq_1) <| aO k45_r0.eq_1 <| aO k45_r1.eq_1 <| aO k45_r2.eq_1 <| aO k45_r3.eq_1 <| aI (oE k45_r4.eq_1) (oE k45_r5.eq_1)
theorem k45_a : type_of% k45_p.down := k45_p.down
theorem k45_is : FnIs Tryz.prog prims 45 27 [ResultVar.tmp 2] k45 := FnIs.of_fn Tryz.func45 (by kernel_rfl) rfl
def k46_r0 : List COp := [o 4 (.assign (.const (.pointer .none))),
o 5 (pZ .i64 0)]
def k46_r1 : List COp := [o 8 (pM 0),
o 9 (pM 1),
o 10 (pD 37 8 9 26 9),
o 6 (pA 10)]
def k46_r2 : List COp := [o 11 (pM 6),
o 12 (pK .neq 33 11 .i64 0 33)]
def k46_r3 : List COp := [o 13 (pM 6),
o 4 (.assign (.const (.pointer .none))),
o 5 (pA 13)]
def k46_r4 : List COp := [o 14 (pM 0),
o 15 (.nilCheck (.tmp 14)),
o 16 (pF 74 15 0),
o 17 (pL 72 16),
o 18 (pM 1),
o 19 (.lookup 72 (.tmp 17) (.tmp 18) false),
o 7 (pA 19)]
def k46_r5 : List COp := [o 20 (pM 7),
o 21 (.binOp .eql 75 (.tmp 20) (.const (.pointer .none)) 75)]
def k46_r6 : List COp := [o 4 (.assign (.const (.pointer .none))),
o 5 (pZ .i64 21)]
def k46_r7 : List COp := [o 22 (pM 7),
o 4 (pA 22),
o 5 (pZ .i64 0)]
def k46 : CC := (.seq (.region k46_r0) (.seq (.seq (.region k46_r1) (.seq (.region k46_r2) (.cond (.tmp 12) (.seq (.region k46_r3) .ret) .skip))) (.seq (.region k46_r4) (.seq (.seq (.region k46_r5) (.cond (.tmp 21) (.seq (.region k46_r6) .ret) .skip)) (.seq (.region k46_r7) .ret)))))
def k46_p := PLift.up <| aI (vE k46.eq_1) <| aO k46_r0.eq_1 <| aO k46_r1.eq_1 <| aO k46_r2.eq_1 <| aO k46_r3.eq_1 <| aO k46_r4.eq_1 <| aO k46_r5.eq_1 <| aI (oE k46_r6.eq_1) (oE k46_r7.eq_1)
theorem k46_a : type_of% k46_p.down := k46_p.down
theorem k46_is : FnIs Tryz.prog prims 46 23 [ResultVar.tmp 4, ResultVar.tmp 5] k46 := FnIs.of_fn Tryz.func46 (by kernel_rfl) rfl
def k48_r0 : List COp := [o 2 (pO false)]
def k48_r1 : List COp := [o 3 (pM 0),
o 4 (.binOp .neq 26 (.tmp 3) (.const (.pointer .none)) 26),
o 5 (pM 4),
oT 6 (pM 0) 5,
oT 7 (.nilCheck (.tmp 6)) 5,
oT 8 (pF 74 7 2) 5,
oT 9 (pL 4 8) 5,
o 10 (pU 5 9),
o 2 (pA 10)]
def k48 : CC := (.seq (.region k48_r0) (.seq (.region k48_r1) .ret))
def k48_p := PLift.up <| aI (vE k48.eq_1) <| aI (oE k48_r0.eq_1) (oE k48_r1.eq_1)
theorem k48_a : type_of% k48_p.down := k48_p.down
theorem k48_is : FnIs Tryz.prog prims 48 11 [ResultVar.tmp 2] k48 := FnIs.of_fn Tryz.func48 (by kernel_rfl) rfl
def k49_r0 : List COp := [o 4 (.assign (.const (.slice .none 0 0))),
o 5 (pZ .i64 0)]
def k49_r1 : List COp := [o 9 (pM 0),
o 10 (pM 1),
o 11 (pD 46 9 10 26 9),
o 8 (pM 11),
o 12 (pX 8 0),
o 13 (pX 8 1),
o 6 (pA 12),
o 7 (pA 13)]
def k49_r2 : List COp := [o 14 (pM 7),
o 15 (pK .neq 33 14 .i64 0 33)]
def k49_r3 : List COp := [o 16 (pM 7),
o 4 (.assign (.const (.slice .none 0 0))),
o 5 (pA 16)]
def k49_r4 : List COp := [oX 17 (pM 6),
oX 18 (.nilCheck (.tmp 17)),
oX 19 (pF 77 18 0),
oX 20 (pL 30 19),
o 21 (pM 6),
o 22 (.nilCheck (.tmp 21)),
o 23 (pF 77 22 1),
o 24 (pL 30 23),
o 25 (.buildSlice 60 2 #[(0, .tmp 20), (1, .tmp 24)]),
o 26 (pC 81 25 60),
o 4 (pA 26),
o 5 (pZ .i64 0)]
def k49 : CC := (.seq (.region k49_r0) (.seq (.region k49_r1) (.seq (.seq (.region k49_r2) (.cond (.tmp 15) (.seq (.region k49_r3) .ret) .skip)) (.seq (.region k49_r4) .ret))))
def k49_p := PLift.up <| aI (vE k49.eq_1) <| aO k49_r0.eq_1 <| aO k49_r1.eq_1 <| aO k49_r2.eq_1 <| aI (oE k49_r3.eq_1) (oE k49_r4.eq_1)
theorem k49_a : type_of% k49_p.down := k49_p.down
theorem k49_is : FnIs Tryz.prog prims 49 27 [ResultVar.tmp 4, ResultVar.tmp 5] k49 := FnIs.of_fn Tryz.func49 (by kernel_rfl) rfl
def k50_r0 : List COp := [o 4 (pZ .i64 0)]
def k50_r1 : List COp := [o 8 (pM 0),
o 9 (pM 1),
o 10 (pD 46 8 9 26 9),
o 7 (pM 10),
o 11 (pX 7 0),
o 12 (pX 7 1),
o 5 (pA 11),
o 6 (pA 12)]
def k50_r2 : List COp := [o 13 (pM 6),
o 14 (pK .neq 33 13 .i64 0 33)]
def k50_r3 : List COp := [o 15 (pM 6),
o 4 (pA 15)]
def k50_r4 : List COp := [o 16 (pM 0),
o 17 (pC 39 16 26)]
def k50_r5 : List COp := [o 18 (pM 0),
o 19 (pC 40 18 26),
o 4 (pA 19)]
def k50_r6 : CC := (.hreg [
(false, o 20 (pM 0)),
(false, o 21 (.nilCheck (.tmp 20))),
(false, o 22 (pF 74 21 0)),
(false, o 23 (pL 72 22)),
(false, o 24 (pM 1)),
(true, ⟨none, .call { callee := .builtin .delete, args := #[.tmp 23, .tmp 24], argTypes := #[72, 9] }, none, true⟩)])
def k50_r7 : List COp := [o 4 (pZ .i64 0)]
def k50 : CC := (.seq (.region k50_r0) (.seq (.seq (.region k50_r1) (.seq (.region k50_r2) (.cond (.tmp 14) (.seq (.region k50_r3) .ret) .skip))) (.seq (.seq (.region k50_r4) (.cond (.tmp 17) (.seq (.region k50_r5) .ret) .skip)) (.seq k50_r6 (.seq (.region k50_r7) .ret)))))
def k50_p := PLift.up <| aI (vE k50.eq_1) <| aO k50_r0.eq_1 <| aO k50_r1.eq_1 <| aO k50_r2.eq_1 <| aO k50_r3.eq_1 <| aO k50_r4.eq_1 <| aO k50_r5.eq_1 <| aI (vE k50_r6.eq_1) (oE k50_r7.eq_1)
theorem k50_a : type_of% k50_p.down := k50_p.down
theorem k50_is : FnIs Tryz.prog prims 50 25 [ResultVar.tmp 4] k50 := FnIs.of_fn Tryz.func50 (by kernel_rfl) rfl
def k55_r0 : List COp := [o 4 (.assign (.const (.slice .none 0 0))),
o 5 (pZ .i64 0)]
def k55_r1 : List COp := [o 8 (pM 0),
o 9 (pM 1),
o 10 (pD 41 8 9 28 9),
o 6 (pA 10)]
def k55_r2 : List COp := [o 11 (pM 6),
o 12 (pK .neq 33 11 .i64 0 33)]
def k55_r3 : List COp := [o 13 (pM 6),
o 4 (.assign (.const (.slice .none 0 0))),
o 5 (pA 13)]
def k55_r4 : List COp := [o 14 (pM 0),
o 15 (pM 1),
o 16 (pD 42 14 15 28 9),
o 7 (pA 16)]
def k55_r5 : List COp := [o 17 (pM 7),
o 18 (pK .lss 3 17 .i64 0 3)]
def k55_r6 : List COp := [o 4 (.assign (.const (.slice .none 0 0))),
o 5 (pZ .i64 21)]
def k55_r7 : CC := (.wregion [
(true, oX 19 (.buildSlice 30 0 #[])),
(false, oX 20 (pM 0)),
(false, oX 21 (.nilCheck (.tmp 20))),
(false, oX 22 (pF 48 21 0)),
(false, oX 23 (pL 46 22)),
(false, oX 24 (pM 7)),
(false, oX 25 (pI 46 23 24)),
(false, oX 26 (pF 81 25 1)),
(false, oX 27 (pL 30 26)),
(false, oX 28 (pQ 19 27 30 30)),
(true, oX 29 (pM 0)),
(false, oX 30 (.nilCheck (.tmp 29))),
(false, oX 31 (pF 48 30 0)),
(true, oX 32 (pL 46 31)),
(false, o 33 (pM 7)),
(false, o 34 (pI 46 32 33)),
(false, o 35 (pF 81 34 2)),
(true, o 36 (pL 30 35)),
(false, o 37 (pQ 28 36 30 30)),
(false, o 4 (pA 37)),
(false, o 5 (pZ .i64 0))] false [(13, oX 32 (pL 46 31), [0, 10]), (17, o 36 (pL 30 35), [0, 10])])
def k55 : CC := (.seq (.region k55_r0) (.seq (.region k55_r1) (.seq (.seq (.region k55_r2) (.cond (.tmp 12) (.seq (.region k55_r3) .ret) .skip)) (.seq (.region k55_r4) (.seq (.seq (.region k55_r5) (.cond (.tmp 18) (.seq (.region k55_r6) .ret) .skip)) (.seq k55_r7 .ret))))))
def k55_p := PLift.up <| aI (vE k55.eq_1) <| aO k55_r0.eq_1 <| aO k55_r1.eq_1 <| aO k55_r2.eq_1 <| aO k55_r3.eq_1 <| aO k55_r4.eq_1 <| aO k55_r5.eq_1 <| aI (oE k55_r6.eq_1) (vE k55_r7.eq_1)
theorem k55_a : type_of% k55_p.down := k55_p.down
theorem k55_is : FnIs Tryz.prog prims 55 38 [ResultVar.tmp 4, ResultVar.tmp 5] k55 := FnIs.of_fn Tryz.func55 (by kernel_rfl) rfl
def k56_r0 : List COp := [o 4 (pZ .i64 0)]
def k56_r1 : List COp := [o 6 (pM 0),
o 7 (pM 1),
o 8 (pD 41 6 7 28 9),
o 5 (pA 8)]
def k56_r2 : List COp := [o 9 (pM 5),
o 10 (pK .neq 33 9 .i64 0 33)]
def k56_r3 : List COp := [o 11 (pM 5),
o 4 (pA 11)]
def k56_r4 : List COp := [o 12 (pM 0),
o 13 (pM 1),
o 14 (pD 42 12 13 28 9),
o 15 (pK .lss 3 14 .i64 0 3)]
def k56_r5 : List COp := [o 4 (pZ .i64 21)]
def k56_r6 : List COp := [o 16 (pM 0),
o 17 (pC 45 16 28)]
def k56_r7 : List COp := [o 18 (pM 0),
o 19 (pM 0),
o 20 (.nilCheck (.tmp 19)),
o 21 (pF 48 20 5),
o 22 (pL 3 21),
o 23 (pD 21 18 22 28 3)]
def k56_r8 : List COp := [o 4 (pZ .i64 20)]
def k56_r9 : List COp := [o 24 (pM 0),
o 25 (pM 1),
o 26 (pD 84 24 25 28 9)]
def k56_r10 : List COp := [o 4 (pZ .i64 0)]
def k56 : CC := (.seq (.region k56_r0) (.seq (.region k56_r1) (.seq (.seq (.region k56_r2) (.cond (.tmp 10) (.seq (.region k56_r3) .ret) .skip)) (.seq (.seq (.region k56_r4) (.cond (.tmp 15) (.seq (.region k56_r5) .ret) .skip)) (.seq (.seq (.region k56_r6) (.cond (.tmp 17) (.seq (.region k56_r7) (.seq (.region k56_r8) .ret)) .skip)) (.seq (.region k56_r9) (.seq (.region k56_r10) .ret)))))))
def k56_p := PLift.up <| aI (vE k56.eq_1) <| aO k56_r0.eq_1 <| aO k56_r1.eq_1 <| aO k56_r2.eq_1 <| aO k56_r3.eq_1 <| aO k56_r4.eq_1 <| aO k56_r5.eq_1 <| aO k56_r6.eq_1 <| aO k56_r7.eq_1 <| aO k56_r8.eq_1 <| aI (oE k56_r9.eq_1) (oE k56_r10.eq_1)
theorem k56_a : type_of% k56_p.down := k56_p.down
theorem k56_is : FnIs Tryz.prog prims 56 27 [ResultVar.tmp 4] k56 := FnIs.of_fn Tryz.func56 (by kernel_rfl) rfl
def k59_r0 : List COp := [o 2 (.assign (.const (.slice .none 0 0)))]
def k59_r1 : List COp := [o 3 (.assign (.const (.slice .none 0 0)))]
def k59_r2 : List COp := [o 6 (pM 0),
o 7 (.nilCheck (.tmp 6)),
o 8 (pF 48 7 0),
o 9 (pL 46 8),
o 10 (pN 9 46),
o 11 (pW .i64 0)]
def k59_r3 : List COp := [o 12 (pB .lss 3 11 10 3)]
def k59_r4 : List COp := [o 13 (pI 46 9 11),
o 14 (pL 81 13),
o 5 (.alloc 81),
oS 81 5 14]
def k59_r5 : List COp := [o 15 (pM 0),
o 16 (.nilCheck (.tmp 15)),
o 17 (pF 48 16 2),
o 18 (pL 4 17)]
def k59_r6 : List COp := [o 19 (pM 3),
o 20 (pF 81 5 0),
o 21 (pL 9 20),
o 22 (.buildSlice 70 1 #[(0, .tmp 21)]),
o 23 (pQ 19 22 70 70),
o 3 (pA 23)]
def k59_r7 : List COp := [o 24 (pK .add 3 11 .i64 1 3),
o 11 (pM 24)]
def k59_l0 : CC := (.seq (.region k59_r3) (.seq (.cond (.tmp 12) .skip (.exit 0)) (.seq (.block 1 (.seq (.region k59_r4) (.seq (.region k59_r5) (.cond (.tmp 18) (.region k59_r6) .skip)))) (.region k59_r7))))
def k59_r8 : List COp := [o 25 (pM 3),
o 2 (pA 25)]
def k59 : CC := (.seq (.region k59_r0) (.seq (.region k59_r1) (.seq (.seq (.region k59_r2) (.block 0 (.loop k59_l0))) (.seq (.region k59_r8) .ret))))
def k59_p := PLift.up <| aI (vE k59.eq_1) <| aO k59_r0.eq_1 <| aO k59_r1.eq_1 <| aO k59_r2.eq_1 <| aO k59_r3.eq_1 <| aO k59_r4.eq_1 <| aO k59_r5.eq_1 <| aO k59_r6.eq_1 <| aO k59_r7.eq_1 <| aI (vE k59_l0.eq_1) (oE k59_r8.eq_1)
theorem k59_a : type_of% k59_p.down := k59_p.down
theorem k59_is : FnIs Tryz.prog prims 59 26 [ResultVar.tmp 2] k59 := FnIs.of_fn Tryz.func59 (by kernel_rfl) rfl
def k63_r0 : List COp := [o 2 (pZ .i64 0)]
def k63_r1 : List COp := [o 3 (pM 0),
o 4 (.binOp .eql 26 (.tmp 3) (.const (.pointer .none)) 26)]
def k63_r2 : List COp := [o 2 (pZ .i64 0)]
def k63_r3 : List COp := [o 5 (pM 0),
o 6 (.nilCheck (.tmp 5)),
o 7 (pF 74 6 3),
o 8 (pL 3 7),
o 2 (pA 8)]
def k63 : CC := (.seq (.region k63_r0) (.seq (.seq (.region k63_r1) (.cond (.tmp 4) (.seq (.region k63_r2) .ret) .skip)) (.seq (.region k63_r3) .ret)))
def k63_p := PLift.up <| aI (vE k63.eq_1) <| aO k63_r0.eq_1 <| aO k63_r1.eq_1 <| aI (oE k63_r2.eq_1) (oE k63_r3.eq_1)
theorem k63_a : type_of% k63_p.down := k63_p.down
theorem k63_is : FnIs Tryz.prog prims 63 9 [ResultVar.tmp 2] k63 := FnIs.of_fn Tryz.func63 (by kernel_rfl) rfl
def k64_r0 : List COp := [o 2 (.assign (.const (.slice .none 0 0))),
o 3 (pZ .i64 0)]
def k64_r1 : List COp := [o 7 (pM 0),
o 8 (pN 7 30),
o 9 (pK .gtr 3 8 .i64 65536 3)]
def k64_r2 : List COp := [o 2 (.assign (.const (.slice .none 0 0))),
o 3 (pZ .i64 3)]
def k64_r3 : List COp := [o 10 (pM 0),
o 11 (pN 10 30),
o 12 (.convert 3 108 (.tmp 11)),
o 13 (pM 0),
o 14 (pC 82 13 30),
o 4 (pA 12),
o 5 (pA 14)]
def k64_r4 : List COp := [o 15 (pM 4),
o 16 (.convert 108 5 (.tmp 15)),
o 17 (pM 4),
o 18 (pK .shr 108 17 .u64 8 110),
o 19 (.convert 108 5 (.tmp 18)),
o 20 (pM 4),
o 21 (pK .shr 108 20 .u64 16 110),
o 22 (.convert 108 5 (.tmp 21)),
o 23 (pM 4),
o 24 (pK .shr 108 23 .u64 24 110),
o 25 (.convert 108 5 (.tmp 24)),
o 26 (pM 5),
o 27 (.convert 108 5 (.tmp 26)),
o 28 (pM 5),
o 29 (pK .shr 108 28 .u64 8 110),
o 30 (.convert 108 5 (.tmp 29)),
o 31 (pM 5),
o 32 (pK .shr 108 31 .u64 16 110),
o 33 (.convert 108 5 (.tmp 32)),
o 34 (pM 5),
o 35 (pK .shr 108 34 .u64 24 110),
o 36 (.convert 108 5 (.tmp 35)),
o 37 (.buildSlice 30 8 #[(0, .tmp 16), (1, .tmp 19), (2, .tmp 22), (3, .tmp 25), (4, .tmp 27), (5, .tmp 30), (6, .tmp 33), (7, .tmp 36)]),
o 6 (pA 37)]
def k64_r5 : List COp := [o 38 (pM 6),
o 39 (pM 0),
o 40 (pQ 38 39 30 30),
o 2 (pA 40),
o 3 (pZ .i64 0)]
def k64 : CC := (.seq (.region k64_r0) (.seq (.seq (.region k64_r1) (.cond (.tmp 9) (.seq (.region k64_r2) .ret) .skip)) (.seq (.region k64_r3) (.seq (.region k64_r4) (.seq (.region k64_r5) .ret)))))
def k64_p := PLift.up <| aI (vE k64.eq_1) <| aO k64_r0.eq_1 <| aO k64_r1.eq_1 <| aO k64_r2.eq_1 <| aO k64_r3.eq_1 <| aI (oE k64_r4.eq_1) (oE k64_r5.eq_1)
theorem k64_a : type_of% k64_p.down := k64_p.down
theorem k64_is : FnIs Tryz.prog prims 64 41 [ResultVar.tmp 2, ResultVar.tmp 3] k64 := FnIs.of_fn Tryz.func64 (by kernel_rfl) rfl
def k65_r0 : List COp := [o 2 (.assign (.const (.string { data := #[] })))]
def k65_r1 : List COp := [o 4 (pM 0),
o 5 (pK .lss 3 4 .i64 1 3),
o 6 (pM 5),
oF 7 (pM 0) 6,
oF 8 (pK .gtr 3 7 .i64 999999999 3) 6,
o 9 (pV 6 8)]
def k65_r2 : List COp := [o 2 (.assign (.const (.string { data := #[] })))]
def k65_r3 : List COp := [o 10 (pM 0),
o 11 (pC 80 10 3),
o 3 (pA 11)]
def k65_r4 : List COp := [o 12 (pM 3),
o 13 (pN 12 9),
o 14 (pK .lss 3 13 .i64 9 3)]
def k65_r5 : List COp := [o 15 (pM 3),
o 16 (.binOp .add 9 (.const (.string { data := #[48] })) (.tmp 15) 9),
o 3 (pA 16)]
def k65_l0 : CC := (.seq (.seq (.region k65_r4) (.cond (.tmp 14) .skip (.exit 0))) (.block 1 (.region k65_r5)))
def k65_r6 : List COp := [o 17 (pM 3),
o 18 (.binOp .add 9 (.const (.string { data := #[106] })) (.tmp 17) 9),
o 2 (pA 18)]
def k65 : CC := (.seq (.region k65_r0) (.seq (.seq (.region k65_r1) (.cond (.tmp 9) (.seq (.region k65_r2) .ret) .skip)) (.seq (.region k65_r3) (.seq (.block 0 (.loop k65_l0)) (.seq (.region k65_r6) .ret)))))
def k65_p := PLift.up <| aI (vE k65.eq_1) <| aO k65_r0.eq_1 <| aO k65_r1.eq_1 <| aO k65_r2.eq_1 <| aO k65_r3.eq_1 <| aO k65_r4.eq_1 <| aO k65_r5.eq_1 <| aI (vE k65_l0.eq_1) (oE k65_r6.eq_1)
theorem k65_a : type_of% k65_p.down := k65_p.down
theorem k65_is : FnIs Tryz.prog prims 65 19 [ResultVar.tmp 2] k65 := FnIs.of_fn Tryz.func65 (by kernel_rfl) rfl
def k66_r0 : List COp := [o 2 (.assign (.const (.slice .none 0 0))),
o 3 (pZ .i64 0)]
def k66_r1 : List COp := [o 5 (pM 0),
o 6 (pN 5 30),
o 7 (pK .gtr 3 6 .i64 65536 3)]
def k66_r2 : List COp := [o 2 (.assign (.const (.slice .none 0 0))),
o 3 (pZ .i64 3)]
def k66_r3 : List COp := [o 8 (pM 0),
o 9 (pN 8 30),
o 10 (.convert 3 108 (.tmp 9)),
o 11 (pC 88 10 108),
o 12 (pM 0),
o 13 (pC 86 12 30),
o 14 (pC 88 13 108),
o 15 (pQ 11 14 30 30),
o 4 (pA 15)]
def k66_r4 : List COp := [o 16 (pM 4),
o 17 (pM 0),
o 18 (pQ 16 17 30 30),
o 2 (pA 18),
o 3 (pZ .i64 0)]
def k66 : CC := (.seq (.region k66_r0) (.seq (.seq (.region k66_r1) (.cond (.tmp 7) (.seq (.region k66_r2) .ret) .skip)) (.seq (.region k66_r3) (.seq (.region k66_r4) .ret))))
def k66_p := PLift.up <| aI (vE k66.eq_1) <| aO k66_r0.eq_1 <| aO k66_r1.eq_1 <| aO k66_r2.eq_1 <| aI (oE k66_r3.eq_1) (oE k66_r4.eq_1)
theorem k66_a : type_of% k66_p.down := k66_p.down
theorem k66_is : FnIs Tryz.prog prims 66 19 [ResultVar.tmp 2, ResultVar.tmp 3] k66 := FnIs.of_fn Tryz.func66 (by kernel_rfl) rfl
def k67_r0 : List COp := [o 2 (.assign (.const (.string { data := #[] })))]
def k67_r1 : List COp := [o 5 (pM 0),
o 6 (pK .lss 3 5 .i64 1 3),
o 7 (pM 6),
oF 8 (pM 0) 7,
oF 9 (pK .gtr 3 8 .i64 999999999 3) 7,
o 10 (pV 7 9)]
def k67_r2 : List COp := [o 2 (.assign (.const (.string { data := #[] })))]
def k67_r3 : List COp := [o 3 (.assign (.const (.string { data := #[] })))]
def k67_r4 : List COp := [o 4 (pZ .i64 0)]
def k67_r5 : List COp := [o 11 (pM 4),
o 12 (pK .lss 3 11 .i64 9 3)]
def k67_r7 : List COp := [o 15 (pM 0),
o 16 (pK .rem 3 15 .i64 10 3),
o 17 (.binOp .add 3 (.const (.int .i64 48)) (.tmp 16) 3),
o 18 (.convert 3 5 (.tmp 17)),
o 19 (.buildSlice 30 1 #[(0, .tmp 18)]),
o 20 (.convert 30 9 (.tmp 19)),
o 21 (pM 3),
o 22 (pB .add 9 20 21 9),
o 3 (pA 22)]
def k67_r8 : List COp := [o 23 (pM 0),
o 24 (pK .quo 3 23 .i64 10 3),
o 0 (pA 24)]
def k67_r6 : List COp := [o 13 (pM 4),
o 14 (pK .add 3 13 .i64 1 3),
o 4 (pA 14)]
def k67_l0 : CC := (.seq (.seq (.region k67_r5) (.cond (.tmp 12) .skip (.exit 0))) (.seq (.block 1 (.seq (.region k67_r7) (.region k67_r8))) (.region k67_r6)))
def k67_r9 : List COp := [o 25 (pM 3),
o 26 (.binOp .add 9 (.const (.string { data := #[106] })) (.tmp 25) 9),
o 2 (pA 26)]
def k67 : CC := (.seq (.region k67_r0) (.seq (.seq (.region k67_r1) (.cond (.tmp 10) (.seq (.region k67_r2) .ret) .skip)) (.seq (.region k67_r3) (.seq (.seq (.region k67_r4) (.block 0 (.loop k67_l0))) (.seq (.region k67_r9) .ret)))))
def k67_p := PLift.up <| aI (vE k67.eq_1) <| aO k67_r0.eq_1 <| aO k67_r1.eq_1 <| aO k67_r2.eq_1 <| aO k67_r3.eq_1 <| aO k67_r4.eq_1 <| aO k67_r5.eq_1 <| aO k67_r7.eq_1 <| aO k67_r8.eq_1 <| aO k67_r6.eq_1 <| aI (vE k67_l0.eq_1) (oE k67_r9.eq_1)
theorem k67_a : type_of% k67_p.down := k67_p.down
theorem k67_is : FnIs Tryz.prog prims 67 27 [ResultVar.tmp 2] k67 := FnIs.of_fn Tryz.func67 (by kernel_rfl) rfl
def k68_r0 : List COp := [o 2 (pZ .i64 0)]
def k68_r1 : List COp := [o 5 (pM 0),
o 6 (pN 5 9),
o 7 (pK .neq 3 6 .i64 10 3),
o 8 (pM 7),
oF 9 (pM 0) 8,
oF 10 (.index 9 (.tmp 9) (.const (.int .i64 0))) 8,
oF 11 (pK .neq 5 10 .u8 106 5) 8,
o 12 (pV 8 11)]
def k68_r2 : List COp := [o 2 (pZ .i64 0)]
def k68_r3 : List COp := [o 14 (pM 0),
o 15 (.slice 9 (.tmp 14) (some (.const (.int .i64 1))) .none .none),
o 16 (pC 83 15 9),
o 13 (pM 16),
o 17 (pX 13 0),
o 18 (pX 13 1),
o 3 (pA 17),
o 4 (pA 18)]
def k68_r4 : List COp := [o 19 (pM 3),
o 20 (pC 65 19 3),
o 21 (pM 0),
o 22 (pB .neq 9 20 21 9)]
def k68_r5 : List COp := [o 2 (pZ .i64 0)]
def k68_r6 : List COp := [o 23 (pM 3),
o 2 (pA 23)]
def k68 : CC := (.seq (.region k68_r0) (.seq (.seq (.region k68_r1) (.cond (.tmp 12) (.seq (.region k68_r2) .ret) .skip)) (.seq (.region k68_r3) (.seq (.seq (.region k68_r4) (.cond (.tmp 22) (.seq (.region k68_r5) .ret) .skip)) (.seq (.region k68_r6) .ret)))))
def k68_p := PLift.up <| aI (vE k68.eq_1) <| aO k68_r0.eq_1 <| aO k68_r1.eq_1 <| aO k68_r2.eq_1 <| aO k68_r3.eq_1 <| aO k68_r4.eq_1 <| aI (oE k68_r5.eq_1) (oE k68_r6.eq_1)
theorem k68_a : type_of% k68_p.down := k68_p.down
theorem k68_is : FnIs Tryz.prog prims 68 24 [ResultVar.tmp 2] k68 := FnIs.of_fn Tryz.func68 (by kernel_rfl) rfl
def k69_r0 : List COp := [o 2 (pZ .i64 0)]
def k69_r1 : List COp := [o 5 (pM 0),
o 6 (pN 5 9),
o 7 (pK .neq 3 6 .i64 10 3),
o 8 (pM 7),
oF 9 (pM 0) 8,
oF 10 (.index 9 (.tmp 9) (.const (.int .i64 0))) 8,
oF 11 (pK .neq 5 10 .u8 106 5) 8,
o 12 (pV 8 11)]
def k69_r2 : List COp := [o 2 (pZ .i64 0)]
def k69_r3 : List COp := [o 3 (pZ .i64 0)]
def k69_r4 : List COp := [o 4 (pZ .i64 1)]
def k69_r5 : List COp := [o 13 (pM 4),
o 14 (pK .lss 3 13 .i64 10 3)]
def k69_r7 : List COp := [o 17 (pM 0),
o 18 (pM 4),
o 19 (.index 9 (.tmp 17) (.tmp 18)),
o 20 (pK .lss 5 19 .u8 48 5),
o 21 (pM 20),
oF 22 (pM 0) 21,
oF 23 (pM 4) 21,
oF 24 (.index 9 (.tmp 22) (.tmp 23)) 21,
oF 25 (pK .gtr 5 24 .u8 57 5) 21,
o 26 (pV 21 25)]
def k69_r8 : List COp := [o 2 (pZ .i64 0)]
def k69_r9 : List COp := [o 27 (pM 3),
o 28 (pK .mul 3 27 .i64 10 3),
o 29 (pM 0),
o 30 (pM 4),
o 31 (.index 9 (.tmp 29) (.tmp 30)),
o 32 (pK .sub 5 31 .u8 48 5),
o 33 (.convert 5 3 (.tmp 32)),
o 34 (pB .add 3 28 33 3),
o 3 (pA 34)]
def k69_r6 : List COp := [o 15 (pM 4),
o 16 (pK .add 3 15 .i64 1 3),
o 4 (pA 16)]
def k69_l0 : CC := (.seq (.seq (.region k69_r5) (.cond (.tmp 14) .skip (.exit 0))) (.seq (.block 1 (.seq (.seq (.region k69_r7) (.cond (.tmp 26) (.seq (.region k69_r8) .ret) .skip)) (.region k69_r9))) (.region k69_r6)))
def k69_r10 : List COp := [o 35 (pM 3),
o 2 (pA 35)]
def k69 : CC := (.seq (.region k69_r0) (.seq (.seq (.region k69_r1) (.cond (.tmp 12) (.seq (.region k69_r2) .ret) .skip)) (.seq (.region k69_r3) (.seq (.seq (.region k69_r4) (.block 0 (.loop k69_l0))) (.seq (.region k69_r10) .ret)))))
def k69_p := PLift.up <| aI (vE k69.eq_1) <| aO k69_r0.eq_1 <| aO k69_r1.eq_1 <| aO k69_r2.eq_1 <| aO k69_r3.eq_1 <| aO k69_r4.eq_1 <| aO k69_r5.eq_1 <| aO k69_r7.eq_1 <| aO k69_r8.eq_1 <| aO k69_r9.eq_1 <| aO k69_r6.eq_1 <| aI (vE k69_l0.eq_1) (oE k69_r10.eq_1)
theorem k69_a : type_of% k69_p.down := k69_p.down
theorem k69_is : FnIs Tryz.prog prims 69 36 [ResultVar.tmp 2] k69 := FnIs.of_fn Tryz.func69 (by kernel_rfl) rfl
def k70_r0 : List COp := [o 5 (pD 71 0 4 96 20)]
def k70_r1 : List COp := [o 6 (pL 33 0),
o 7 (pK .neq 33 6 .i64 0 33)]
def k70_r2 : List COp := [⟨none, .store 54 (.tmp 1) (.const (.pointer .none)), none, true⟩,
⟨none, .store 60 (.tmp 2) (.const (.slice .none 0 0)), none, true⟩,
⟨none, .store 3 (.tmp 3) (.const (.int .i64 0)), none, true⟩]
def k70 : CS := (.seq (.reg (some 4) k70_r0) (.seq (.code (.region k70_r1)) (.cond (.tmp 7) (.code (.region k70_r2)) (.code .skip))))
theorem k70_e : type_of% (@ypC P pr N e m σ SS _ _ k70.eq_1) := ypC k70.eq_1
def k70_p := PLift.up <| aI @k70_e <| aO k70_r0.eq_1 <| aI (oE k70_r1.eq_1) (oE k70_r2.eq_1)
theorem k70_a : type_of% k70_p.down := k70_p.down
theorem k70_is : FnS Tryz.prog prims 70 8 [] k70 := FnS.of_fn Tryz.func70 (by kernel_rfl)
def k71_r0 : List COp := [o 7 (pM 1)]
def k71_r3 : List COp := [o 9 (.binOp .eql 20 (.tmp 7) (.const .nilIface) 20)]
def k71_r4 : List COp := [o 4 (pA 7)]
def k71_r5 : List COp := [o 10 (.typeAssert (.tmp 7) 20 121 true),
o 11 (pX 10 1),
o 12 (pX 10 0)]
def k71_r6 : List COp := [o 5 (.alloc 121),
oS 121 5 12]
def k71_r7 : List COp := [o 13 (pM 0),
o 14 (pF 121 5 0),
o 15 (pL 33 14),
o 16 (.nilCheck (.tmp 13)),
oS 33 16 15]
def k71_r1 : List COp := [o 6 (pA 7)]
def k71_r2 : List COp := [o 8 (pM 1),
⟨none, .panic (.tmp 8), none, true⟩]
def k71 : CC := (.seq (.region k71_r0) (.block 0 (.seq (.region k71_r3) (.cond (.tmp 9) (.region k71_r4) (.seq (.region k71_r5) (.cond (.tmp 11) (.seq (.region k71_r6) (.region k71_r7)) (.seq (.region k71_r1) (.region k71_r2))))))))
def k71_p := PLift.up <| aI (vE k71.eq_1) <| aO k71_r0.eq_1 <| aO k71_r3.eq_1 <| aO k71_r4.eq_1 <| aO k71_r5.eq_1 <| aO k71_r6.eq_1 <| aO k71_r7.eq_1 <| aI (oE k71_r1.eq_1) (oE k71_r2.eq_1)
theorem k71_a : type_of% k71_p.down := k71_p.down
theorem k71_is : FnIs Tryz.prog prims 71 17 [] k71 := FnIs.of_fn Tryz.func71 (by kernel_rfl) rfl
def k72_r0 : List COp := [o 2 (pM 0),
o 3 (pK .neq 33 2 .i64 0 33)]
def k72_r1 : List COp := [o 4 (pM 0),
o 5 (.build 121 #[(0, .tmp 4)]),
o 6 (.makeInterface 121 (.tmp 5)),
⟨none, .panic (.tmp 6), none, true⟩]
def k72 : CC := (.seq (.region k72_r0) (.cond (.tmp 3) (.region k72_r1) .skip))
def k72_p := PLift.up <| aI (vE k72.eq_1) <| aI (oE k72_r0.eq_1) (oE k72_r1.eq_1)
theorem k72_a : type_of% k72_p.down := k72_p.down
theorem k72_is : FnIs Tryz.prog prims 72 7 [] k72 := FnIs.of_fn Tryz.func72 (by kernel_rfl) rfl
def k73_r0 : List COp := [o 4 (.assign (.const (.slice .none 0 0)))]
def k73_r1 : CC := (.hreg [
(false, o 10 (pM 0)),
(false, o 11 (pM 1)),
(false, o 12 (pD 49 10 11 26 9)),
(false, o 9 (pM 12)),
(false, o 13 (pX 9 0)),
(false, o 14 (pX 9 1)),
(true, o 5 (pA 13)),
(true, o 6 (pA 14))])
def k73_r2 : List COp := [o 15 (pM 6),
o 16 (pC 72 15 33)]
def k73_r3 : List COp := [o 18 (pM 5),
o 19 (pC 89 18 30),
o 17 (pM 19),
o 20 (pX 17 0),
o 21 (pX 17 1),
o 7 (pA 20),
o 8 (pA 21)]
def k73_r4 : List COp := [o 22 (pM 8),
o 23 (pM 5),
o 24 (pN 23 30),
o 25 (pB .lss 3 22 24 3)]
def k73_r5 : List COp := [o 26 (pM 0),
o 27 (pM 1),
o 28 (pM 8),
o 29 (.call { callee := .value (.func 90), args := #[.tmp 26, .tmp 27, .tmp 28], argTypes := #[26, 9, 3] }),
o 30 (pC 72 29 33)]
def k73_r6 : List COp := [o 31 (pM 0),
o 32 (pM 1),
o 33 (pD 11 31 32 26 9),
o 34 (pC 72 33 33)]
def k73_r7 : List COp := [o 35 (pM 7),
o 4 (pA 35)]
def k73 : CC := (.seq (.region k73_r0) (.seq k73_r1 (.seq (.region k73_r2) (.seq (.region k73_r3) (.seq (.seq (.region k73_r4) (.cond (.tmp 25) (.region k73_r5) .skip)) (.seq (.region k73_r6) (.seq (.region k73_r7) .ret)))))))
def k73_p := PLift.up <| aI (vE k73.eq_1) <| aO k73_r0.eq_1 <| aI (vE k73_r1.eq_1) <| aO k73_r2.eq_1 <| aO k73_r3.eq_1 <| aO k73_r4.eq_1 <| aO k73_r5.eq_1 <| aI (oE k73_r6.eq_1) (oE k73_r7.eq_1)
theorem k73_a : type_of% k73_p.down := k73_p.down
theorem k73_is : FnIs Tryz.prog prims 73 36 [ResultVar.tmp 4] k73 := FnIs.of_fn Tryz.func73 (by kernel_rfl) rfl
def k74_r0 : List COp := [o 2 (.assign (.const (.slice .none 0 0))),
o 3 (pZ .i64 0)]
def k74_r1 : List COp := [o 4 (.assign (.const (.slice .none 0 0)))]
def k74_r2 : List COp := [o 5 (pZ .i64 0)]
def k74_r3 : List COp := [o 11 (pM 0),
o 12 (pM 5),
o 13 (.slice 30 (.tmp 11) (some (.tmp 12)) .none .none),
o 6 (pA 13)]
def k74_r4 : List COp := [o 14 (pM 6),
o 15 (pN 14 30),
o 16 (pK .lss 3 15 .i64 8 3)]
def k74_r5 : List COp := [o 17 (pM 4),
o 18 (pM 5),
o 2 (pA 17),
o 3 (pA 18)]
def k74_r6 : List COp := [oX 19 (pM 6),
oX 20 (.indexAddr 30 (.tmp 19) (.const (.int .i64 0))),
oX 21 (pL 5 20),
oX 22 (.convert 5 3 (.tmp 21)),
oX 23 (pM 6),
oX 24 (.indexAddr 30 (.tmp 23) (.const (.int .i64 1))),
oX 25 (pL 5 24),
oX 26 (.convert 5 3 (.tmp 25)),
oX 27 (pK .mul 3 26 .i64 256 3),
oX 28 (pB .add 3 22 27 3),
oX 29 (pM 6),
oX 30 (.indexAddr 30 (.tmp 29) (.const (.int .i64 2))),
oX 31 (pL 5 30),
oX 32 (.convert 5 3 (.tmp 31)),
oX 33 (pK .mul 3 32 .i64 65536 3),
oX 34 (pB .add 3 28 33 3),
o 35 (pM 6),
o 36 (.indexAddr 30 (.tmp 35) (.const (.int .i64 3))),
o 37 (pL 5 36),
o 38 (.convert 5 3 (.tmp 37)),
o 39 (pK .mul 3 38 .i64 16777216 3),
o 40 (pB .add 3 34 39 3),
o 7 (pA 40)]
def k74_r7 : List COp := [o 41 (pM 7),
o 42 (pK .gtr 3 41 .i64 65536 3),
o 43 (pM 42),
oF 44 (pM 7) 43,
oF 45 (.binOp .add 3 (.const (.int .i64 8)) (.tmp 44) 3) 43,
oF 46 (pM 6) 43,
oF 47 (pN 46 30) 43,
oF 48 (pB .gtr 3 45 47 3) 43,
o 49 (pV 43 48)]
def k74_r8 : List COp := [o 50 (pM 4),
o 51 (pM 5),
o 2 (pA 50),
o 3 (pA 51)]
def k74_r9 : List COp := [o 52 (.buildSlice 30 0 #[]),
o 53 (pM 6),
o 54 (pM 7),
o 55 (.binOp .add 3 (.const (.int .i64 8)) (.tmp 54) 3),
o 56 (.slice 30 (.tmp 53) (some (.const (.int .i64 8))) (some (.tmp 55)) .none),
o 57 (pQ 52 56 30 30),
o 8 (pA 57)]
def k74_r10 : List COp := [o 59 (pM 8),
o 60 (pC 66 59 30),
o 58 (pM 60),
o 61 (pX 58 0),
o 62 (pX 58 1),
o 9 (pA 61),
o 10 (pA 62)]
def k74_r11 : List COp := [oX 63 (pM 9),
oX 64 (.convert 30 9 (.tmp 63)),
oX 65 (pM 6),
o 66 (pM 7),
o 67 (.binOp .add 3 (.const (.int .i64 8)) (.tmp 66) 3),
o 68 (.slice 30 (.tmp 65) .none (some (.tmp 67)) .none),
o 69 (.convert 30 9 (.tmp 68)),
o 70 (pB .neq 9 64 69 9)]
def k74_r12 : List COp := [o 71 (pM 4),
o 72 (pM 5),
o 2 (pA 71),
o 3 (pA 72)]
def k74_r13 : List COp := [o 73 (pM 4),
o 74 (pM 8),
o 75 (.buildSlice 60 1 #[(0, .tmp 74)]),
o 76 (pQ 73 75 60 60),
o 4 (pA 76)]
def k74_r14 : List COp := [o 77 (pM 5),
o 78 (pK .add 3 77 .i64 8 3),
o 79 (pM 7),
o 80 (pB .add 3 78 79 3),
o 5 (pA 80)]
def k74_l0 : CC := (.block 1 (.seq (.region k74_r3) (.seq (.seq (.region k74_r4) (.cond (.tmp 16) (.seq (.region k74_r5) .ret) .skip)) (.seq (.region k74_r6) (.seq (.seq (.region k74_r7) (.cond (.tmp 49) (.seq (.region k74_r8) .ret) .skip)) (.seq (.region k74_r9) (.seq (.region k74_r10) (.seq (.seq (.region k74_r11) (.cond (.tmp 70) (.seq (.region k74_r12) .ret) .skip)) (.seq (.region k74_r13) (.region k74_r14))))))))))
def k74 : CC := (.seq (.region k74_r0) (.seq (.region k74_r1) (.seq (.region k74_r2) (.block 0 (.loop k74_l0)))))
def k74_p := PLift.up <| aI (vE k74.eq_1) <| aO k74_r0.eq_1 <| aO k74_r1.eq_1 <| aO k74_r2.eq_1 <| aO k74_r3.eq_1 <| aO k74_r4.eq_1 <| aO k74_r5.eq_1 <| aO k74_r6.eq_1 <| aO k74_r7.eq_1 <| aO k74_r8.eq_1 <| aO k74_r9.eq_1 <| aO k74_r10.eq_1 <| aO k74_r11.eq_1 <| aO k74_r12.eq_1 <| aO k74_r13.eq_1 <| aI (oE k74_r14.eq_1) (vE k74_l0.eq_1)
theorem k74_a : type_of% k74_p.down := k74_p.down
theorem k74_is : FnIs Tryz.prog prims 74 81 [ResultVar.tmp 2, ResultVar.tmp 3] k74 := FnIs.of_fn Tryz.func74 (by kernel_rfl) rfl
def k75_r0 : List COp := [o 6 (pZ .i64 0)]
def k75_r1 : List COp := [o 10 (pM 0),
o 11 (pM 1),
o 12 (pD 41 10 11 28 9),
o 7 (pA 12)]
def k75_r2 : List COp := [o 13 (pM 7),
o 14 (pK .neq 33 13 .i64 0 33)]
def k75_r3 : List COp := [o 15 (pM 7),
o 6 (pA 15)]
def k75_r4 : List COp := [o 16 (pM 0),
o 17 (pM 1),
o 18 (pD 42 16 17 28 9),
o 8 (pA 18)]
def k75_r5 : List COp := [o 19 (pM 8),
o 20 (pK .lss 3 19 .i64 0 3)]
def k75_r6 : List COp := [o 6 (pZ .i64 21)]
def k75_r7 : List COp := [o 21 (pM 0),
o 22 (.nilCheck (.tmp 21)),
o 23 (pF 48 22 0),
o 24 (pL 46 23),
o 25 (pM 8),
o 26 (pI 46 24 25),
o 27 (pL 81 26),
o 9 (.alloc 81),
oS 81 9 27]
def k75_r8 : List COp := [o 28 (pM 2),
o 29 (pK .lss 3 28 .i64 0 3),
o 30 (pM 29),
oF 31 (pM 2) 30,
oF 32 (pF 81 9 1) 30,
oF 33 (pL 30 32) 30,
oF 34 (pN 33 30) 30,
oF 35 (pF 81 9 2) 30,
oF 36 (pL 30 35) 30,
oF 37 (pN 36 30) 30,
oF 38 (pB .add 3 34 37 3) 30,
oF 39 (pB .gtr 3 31 38 3) 30,
o 40 (pV 30 39)]
def k75_r9 : List COp := [o 6 (pZ .i64 3)]
def k75_r10 : List COp := [o 41 (pM 0),
o 42 (pC 45 41 28)]
def k75_r11 : List COp := [o 43 (pM 0),
o 44 (pM 0),
o 45 (.nilCheck (.tmp 44)),
o 46 (pF 48 45 5),
o 47 (pL 3 46),
o 48 (pD 21 43 47 28 3)]
def k75_r12 : List COp := [o 6 (pZ .i64 20)]
def k75_r13 : List COp := [o 49 (pM 2),
o 50 (pF 81 9 1),
o 51 (pL 30 50),
o 52 (pN 51 30),
o 53 (pB .leq 3 49 52 3)]
def k75_r14 : CC := (.wregion [
(true, oX 54 (pM 0)),
(false, oX 55 (.nilCheck (.tmp 54))),
(false, oX 56 (pF 48 55 0)),
(true, oX 57 (pL 46 56)),
(false, oX 58 (pM 8)),
(false, oX 59 (pM 1)),
(false, oX 60 (.buildSlice 30 0 #[])),
(false, oX 61 (pF 81 9 1)),
(false, oX 62 (pL 30 61)),
(false, o 63 (pM 2)),
(false, o 64 (.slice 30 (.tmp 62) .none (some (.tmp 63)) .none)),
(false, o 65 (pQ 60 64 30 30)),
(true, o 66 (.build 81 #[(0, .tmp 59), (1, .tmp 65)])),
(false, o 67 (pI 46 57 58)),
(false, oS 81 67 66)] false [(3, oX 57 (pL 46 56), [0, 12])])
def k75_r15 : CC := (.wregion [
(true, oX 68 (pM 0)),
(false, oX 69 (.nilCheck (.tmp 68))),
(false, oX 70 (pF 48 69 0)),
(true, oX 71 (pL 46 70)),
(false, oX 72 (pM 8)),
(false, oX 73 (pM 1)),
(false, oX 74 (pF 81 9 1)),
(true, oX 75 (pL 30 74)),
(false, oX 76 (.buildSlice 30 0 #[])),
(false, oX 77 (pF 81 9 2)),
(false, oX 78 (pL 30 77)),
(false, oX 79 (pM 2)),
(false, o 80 (pF 81 9 1)),
(false, o 81 (pL 30 80)),
(false, o 82 (pN 81 30)),
(false, o 83 (pB .sub 3 79 82 3)),
(false, o 84 (.slice 30 (.tmp 78) .none (some (.tmp 83)) .none)),
(false, o 85 (pQ 76 84 30 30)),
(true, o 86 (.build 81 #[(0, .tmp 73), (1, .tmp 75), (2, .tmp 85)])),
(false, o 87 (pI 46 71 72)),
(false, oS 81 87 86)] false [(3, oX 71 (pL 46 70), [0, 18]), (7, oX 75 (pL 30 74), [0, 18])])
def k75_r16 : List COp := [o 6 (pZ .i64 0)]
def k75 : CC := (.seq (.region k75_r0) (.seq (.region k75_r1) (.seq (.seq (.region k75_r2) (.cond (.tmp 14) (.seq (.region k75_r3) .ret) .skip)) (.seq (.region k75_r4) (.seq (.seq (.region k75_r5) (.cond (.tmp 20) (.seq (.region k75_r6) .ret) .skip)) (.seq (.region k75_r7) (.seq (.seq (.region k75_r8) (.cond (.tmp 40) (.seq (.region k75_r9) .ret) .skip)) (.seq (.seq (.region k75_r10) (.cond (.tmp 42) (.seq (.region k75_r11) (.seq (.region k75_r12) .ret)) .skip)) (.seq (.seq (.region k75_r13) (.cond (.tmp 53) k75_r14 k75_r15)) (.seq (.region k75_r16) .ret))))))))))
def k75_p := PLift.up <| aI (vE k75.eq_1) <| aO k75_r0.eq_1 <| aO k75_r1.eq_1 <| aO k75_r2.eq_1 <| aO k75_r3.eq_1 <| aO k75_r4.eq_1 <| aO k75_r5.eq_1 <| aO k75_r6.eq_1 <| aO k75_r7.eq_1 <| aO k75_r8.eq_1 <| aO k75_r9.eq_1 <| aO k75_r10.eq_1 <| aO k75_r11.eq_1 <| aO k75_r12.eq_1 <| aO k75_r13.eq_1 <| aI (vE k75_r14.eq_1) <| aI (vE k75_r15.eq_1) (oE k75_r16.eq_1)
theorem k75_a : type_of% k75_p.down := k75_p.down
theorem k75_is : FnIs Tryz.prog prims 75 88 [ResultVar.tmp 6] k75 := FnIs.of_fn Tryz.func75 (by kernel_rfl) rfl
def k76_r0 : List COp := [o 4 (pO false)]
def k76_r1 : List COp := [o 6 (pM 0),
o 7 (pN 6 30),
o 8 (pM 1),
o 9 (pN 8 30),
o 10 (pB .neq 3 7 9 3)]
def k76_r2 : List COp := [o 4 (pO false)]
def k76_r3 : List COp := [o 11 (pM 0),
o 12 (pN 11 30),
o 13 (pW .i64 0)]
def k76_r4 : List COp := [o 14 (pB .lss 3 13 12 3)]
def k76_r5 : List COp := [o 15 (pM 13),
o 5 (pA 15)]
def k76_r6 : List COp := [oX 16 (pM 0),
oX 17 (pM 5),
oX 18 (pI 30 16 17),
oX 19 (pL 5 18),
oX 20 (pM 1),
o 21 (pM 5),
o 22 (pI 30 20 21),
o 23 (pL 5 22),
o 24 (pB .neq 5 19 23 5)]
def k76_r7 : List COp := [o 4 (pO false)]
def k76_r8 : List COp := [o 25 (pK .add 3 13 .i64 1 3),
o 13 (pM 25)]
def k76_l0 : CC := (.seq (.region k76_r4) (.seq (.cond (.tmp 14) .skip (.exit 0)) (.seq (.block 1 (.seq (.region k76_r5) (.seq (.region k76_r6) (.cond (.tmp 24) (.seq (.region k76_r7) .ret) .skip)))) (.region k76_r8))))
def k76_r9 : List COp := [o 4 (pO true)]
def k76 : CC := (.seq (.region k76_r0) (.seq (.seq (.region k76_r1) (.cond (.tmp 10) (.seq (.region k76_r2) .ret) .skip)) (.seq (.seq (.region k76_r3) (.block 0 (.loop k76_l0))) (.seq (.region k76_r9) .ret))))
def k76_p := PLift.up <| aI (vE k76.eq_1) <| aO k76_r0.eq_1 <| aO k76_r1.eq_1 <| aO k76_r2.eq_1 <| aO k76_r3.eq_1 <| aO k76_r4.eq_1 <| aO k76_r5.eq_1 <| aO k76_r6.eq_1 <| aO k76_r7.eq_1 <| aO k76_r8.eq_1 <| aI (vE k76_l0.eq_1) (oE k76_r9.eq_1)
theorem k76_a : type_of% k76_p.down := k76_p.down
theorem k76_is : FnIs Tryz.prog prims 76 26 [ResultVar.tmp 4] k76 := FnIs.of_fn Tryz.func76 (by kernel_rfl) rfl
def k78_r0 : List COp := [o 1 (.box 72 (.tmp 0)),
o 2 (.assign (.const .nilFunc))]
def k78_r1 : List COp := [o 3 (.makeFunc (.func 93) #[] #[.tmp 1]),
o 2 (pA 3)]
def k78 : CC := (.seq (.region k78_r0) (.seq (.region k78_r1) .ret))
def k78_p := PLift.up <| aI (vE k78.eq_1) <| aI (oE k78_r0.eq_1) (oE k78_r1.eq_1)
theorem k78_a : type_of% k78_p.down := k78_p.down
theorem k78_is : FnIs Tryz.prog prims 78 4 [ResultVar.tmp 2] k78 := FnIs.of_fn Tryz.func78 (by kernel_rfl) rfl
def k79_r0 : List COp := [o 2 (pO false)]
def k79_r1 : List COp := [o 3 (pM 0),
o 4 (pN 3 9),
o 5 (pK .geq 3 4 .i64 1 3),
o 6 (pM 5),
oT 7 (pM 0) 6,
oT 8 (pN 7 9) 6,
oT 9 (pK .leq 3 8 .i64 16 3) 6,
o 10 (pU 6 9),
o 2 (pA 10)]
def k79 : CC := (.seq (.region k79_r0) (.seq (.region k79_r1) .ret))
def k79_p := PLift.up <| aI (vE k79.eq_1) <| aI (oE k79_r0.eq_1) (oE k79_r1.eq_1)
theorem k79_a : type_of% k79_p.down := k79_p.down
theorem k79_is : FnIs Tryz.prog prims 79 11 [ResultVar.tmp 2] k79 := FnIs.of_fn Tryz.func79 (by kernel_rfl) rfl
def k81_r0 : List COp := [o 2 (.assign (.const (.slice .none 0 0)))]
def k81_r1 : List COp := [o 3 (pZ .i64 0)]
def k81_r2 : List COp := [o 9 (pM 0),
o 10 (pN 9 60),
o 11 (pW .i64 0)]
def k81_r3 : List COp := [o 12 (pB .lss 3 11 10 3)]
def k81_r4 : List COp := [o 13 (pI 60 9 11),
o 14 (pL 30 13),
o 5 (pA 14)]
def k81_r5 : List COp := [o 15 (pM 3),
o 16 (pM 5),
o 17 (pN 16 30),
o 18 (pB .add 3 15 17 3),
o 3 (pA 18)]
def k81_r6 : List COp := [o 19 (pM 3),
o 20 (pK .lss 3 19 .i64 0 3)]
def k81_r7 : List COp := [o 21 (.makeInterface 9 (.const (.string { data := #[108, 101, 110, 32, 111, 117, 116, 32, 111, 102, 32, 114, 97, 110, 103, 101] }))),
⟨none, .panic (.tmp 21), none, true⟩]
def k81_r8 : List COp := [o 22 (pK .add 3 11 .i64 1 3),
o 11 (pM 22)]
def k81_l0 : CC := (.seq (.region k81_r3) (.seq (.cond (.tmp 12) .skip (.exit 0)) (.seq (.block 1 (.seq (.region k81_r4) (.seq (.region k81_r5) (.seq (.region k81_r6) (.cond (.tmp 20) (.region k81_r7) .skip))))) (.region k81_r8))))
def k81_r9 : List COp := [o 23 (pM 3),
o 24 (.call { callee := .value (.func 95), args := #[.const (.slice .none 0 0), .tmp 23], argTypes := #[30, 3] }),
o 6 (pA 24)]
def k81_r10 : List COp := [o 25 (pM 0),
o 26 (pN 25 60),
o 27 (pW .i64 0)]
def k81_r11 : List COp := [o 28 (pB .lss 3 27 26 3)]
def k81_r12 : List COp := [o 29 (pI 60 25 27),
o 30 (pL 30 29),
o 8 (pA 30)]
def k81_r13 : CC := (.hreg [
(false, o 31 (pM 6)),
(false, o 32 (pM 8)),
(true, o 33 (pQ 31 32 30 30)),
(false, o 6 (pA 33))])
def k81_r14 : List COp := [o 34 (pK .add 3 27 .i64 1 3),
o 27 (pM 34)]
def k81_l1 : CC := (.seq (.region k81_r11) (.seq (.cond (.tmp 28) .skip (.exit 2)) (.seq (.block 3 (.seq (.region k81_r12) k81_r13)) (.region k81_r14))))
def k81_r15 : List COp := [o 35 (pM 6),
o 2 (pA 35)]
def k81 : CC := (.seq (.region k81_r0) (.seq (.region k81_r1) (.seq (.seq (.region k81_r2) (.block 0 (.loop k81_l0))) (.seq (.region k81_r9) (.seq (.seq (.region k81_r10) (.block 2 (.loop k81_l1))) (.seq (.region k81_r15) .ret))))))
def k81_p := PLift.up <| aI (vE k81.eq_1) <| aO k81_r0.eq_1 <| aO k81_r1.eq_1 <| aO k81_r2.eq_1 <| aO k81_r3.eq_1 <| aO k81_r4.eq_1 <| aO k81_r5.eq_1 <| aO k81_r6.eq_1 <| aO k81_r7.eq_1 <| aO k81_r8.eq_1 <| aI (vE k81_l0.eq_1) <| aO k81_r9.eq_1 <| aO k81_r10.eq_1 <| aO k81_r11.eq_1 <| aO k81_r12.eq_1 <| aI (vE k81_r13.eq_1) <| aO k81_r14.eq_1 <| aI (vE k81_l1.eq_1) (oE k81_r15.eq_1)
theorem k81_a : type_of% k81_p.down := k81_p.down
theorem k81_is : FnIs Tryz.prog prims 81 36 [ResultVar.tmp 2] k81 := FnIs.of_fn Tryz.func81 (by kernel_rfl) rfl
def k82_r0 : List COp := [o 2 (pZ .u32 0)]
def k82_r1 : List COp := [o 3 (pM 0),
o 4 (.call { callee := .value (.func 96), args := #[.const (.int .u32 0), .tmp 3], argTypes := #[108, 30] }),
o 2 (pA 4)]
def k82 : CC := (.seq (.region k82_r0) (.seq (.region k82_r1) .ret))
def k82_p := PLift.up <| aI (vE k82.eq_1) <| aI (oE k82_r0.eq_1) (oE k82_r1.eq_1)
theorem k82_a : type_of% k82_p.down := k82_p.down
theorem k82_is : FnIs Tryz.prog prims 82 5 [ResultVar.tmp 2] k82 := FnIs.of_fn Tryz.func82 (by kernel_rfl) rfl
def k84_r0 : List COp := [o 4 (.assign (.const (.slice .none 0 0)))]
def k84_r1 : List COp := [o 7 (pM 0),
o 8 (.nilCheck (.tmp 7)),
o 9 (pF 48 8 0),
o 10 (pL 46 9),
o 11 (pN 10 46),
o 12 (pW .i64 0)]
def k84_r2 : List COp := [o 13 (pB .lss 3 12 11 3)]
def k84_r3 : List COp := [o 14 (pI 46 10 12),
o 15 (pL 81 14),
o 6 (.alloc 81),
oS 81 6 15]
def k84_r4 : List COp := [o 16 (pF 81 6 0),
o 17 (pL 9 16),
o 18 (pM 1),
o 19 (pB .neq 9 17 18 9)]
def k84_r5 : CC := (.hreg [
(false, o 20 (pM 4)),
(false, o 21 (pL 81 6)),
(true, o 22 (.buildSlice 46 1 #[(0, .tmp 21)])),
(true, o 23 (pQ 20 22 46 46)),
(false, o 4 (pA 23))])
def k84_r6 : List COp := [o 24 (pK .add 3 12 .i64 1 3),
o 12 (pM 24)]
def k84_l0 : CC := (.seq (.region k84_r2) (.seq (.cond (.tmp 13) .skip (.exit 0)) (.seq (.block 1 (.seq (.region k84_r3) (.seq (.region k84_r4) (.cond (.tmp 19) k84_r5 .skip)))) (.region k84_r6))))
def k84_r7 : List COp := [o 25 (pM 0),
o 26 (pM 4),
o 27 (.nilCheck (.tmp 25)),
o 28 (pF 48 27 0),
oS 46 28 26]
def k84 : CC := (.seq (.region k84_r0) (.seq (.seq (.region k84_r1) (.block 0 (.loop k84_l0))) (.region k84_r7)))
def k84_p := PLift.up <| aI (vE k84.eq_1) <| aO k84_r0.eq_1 <| aO k84_r1.eq_1 <| aO k84_r2.eq_1 <| aO k84_r3.eq_1 <| aO k84_r4.eq_1 <| aI (vE k84_r5.eq_1) <| aO k84_r6.eq_1 <| aI (vE k84_l0.eq_1) (oE k84_r7.eq_1)
theorem k84_a : type_of% k84_p.down := k84_p.down
theorem k84_is : FnIs Tryz.prog prims 84 29 [] k84 := FnIs.of_fn Tryz.func84 (by kernel_rfl) rfl
def k86_r0 : List COp := [o 2 (pZ .u32 0)]
def k86_r1 : List COp := [o 3 (pM 0),
o 4 (.call { callee := .value (.func 99), args := #[.const (.int .u32 0), .tmp 3], argTypes := #[108, 30] }),
o 2 (pA 4)]
def k86 : CC := (.seq (.region k86_r0) (.seq (.region k86_r1) .ret))
def k86_p := PLift.up <| aI (vE k86.eq_1) <| aI (oE k86_r0.eq_1) (oE k86_r1.eq_1)
theorem k86_a : type_of% k86_p.down := k86_p.down
theorem k86_is : FnIs Tryz.prog prims 86 5 [ResultVar.tmp 2] k86 := FnIs.of_fn Tryz.func86 (by kernel_rfl) rfl
def k88_r0 : List COp := [o 2 (.assign (.const (.slice .none 0 0)))]
def k88_r1 : List COp := [o 3 (pM 0),
o 4 (.convert 108 5 (.tmp 3)),
o 5 (pM 0),
o 6 (pK .shr 108 5 .u64 8 110),
o 7 (.convert 108 5 (.tmp 6)),
o 8 (pM 0),
o 9 (pK .shr 108 8 .u64 16 110),
o 10 (.convert 108 5 (.tmp 9)),
o 11 (pM 0),
o 12 (pK .shr 108 11 .u64 24 110),
o 13 (.convert 108 5 (.tmp 12)),
o 14 (.buildSlice 30 4 #[(0, .tmp 4), (1, .tmp 7), (2, .tmp 10), (3, .tmp 13)]),
o 2 (pA 14)]
def k88 : CC := (.seq (.region k88_r0) (.seq (.region k88_r1) .ret))
def k88_p := PLift.up <| aI (vE k88.eq_1) <| aI (oE k88_r0.eq_1) (oE k88_r1.eq_1)
theorem k88_a : type_of% k88_p.down := k88_p.down
theorem k88_is : FnIs Tryz.prog prims 88 15 [ResultVar.tmp 2] k88 := FnIs.of_fn Tryz.func88 (by kernel_rfl) rfl
def k89_r0 : List COp := [o 2 (.assign (.const (.slice .none 0 0))),
o 3 (pZ .i64 0)]
def k89_r1 : List COp := [o 4 (.assign (.const (.slice .none 0 0)))]
def k89_r2 : List COp := [o 5 (pZ .i64 0)]
def k89_r3 : List COp := [o 9 (pM 0),
o 10 (pN 9 30),
o 11 (pM 5),
o 12 (pB .sub 3 10 11 3),
o 13 (pK .geq 3 12 .i64 8 3)]
def k89_r4 : List COp := [o 14 (pM 0),
o 15 (pM 5),
o 16 (pM 5),
o 17 (pK .add 3 16 .i64 8 3),
o 18 (.slice 30 (.tmp 14) (some (.tmp 15)) (some (.tmp 17)) .none),
o 6 (pA 18)]
def k89_r5 : List COp := [oX 19 (pM 6),
oX 20 (.indexAddr 30 (.tmp 19) (.const (.int .i64 0))),
oX 21 (pL 5 20),
oX 22 (.convert 5 3 (.tmp 21)),
oX 23 (pM 6),
oX 24 (.indexAddr 30 (.tmp 23) (.const (.int .i64 1))),
oX 25 (pL 5 24),
oX 26 (.convert 5 3 (.tmp 25)),
oX 27 (pK .shl 3 26 .u64 8 110),
oX 28 (pB .or 3 22 27 3),
oX 29 (pM 6),
oX 30 (.indexAddr 30 (.tmp 29) (.const (.int .i64 2))),
oX 31 (pL 5 30),
oX 32 (.convert 5 3 (.tmp 31)),
oX 33 (pK .shl 3 32 .u64 16 110),
oX 34 (pB .or 3 28 33 3),
o 35 (pM 6),
o 36 (.indexAddr 30 (.tmp 35) (.const (.int .i64 3))),
o 37 (pL 5 36),
o 38 (.convert 5 3 (.tmp 37)),
o 39 (pK .shl 3 38 .u64 24 110),
o 40 (pB .or 3 34 39 3),
o 7 (pA 40)]
def k89_r6 : List COp := [o 41 (pM 7),
o 42 (pK .gtr 3 41 .i64 65536 3),
o 43 (pM 42),
oF 44 (pM 7) 43,
oF 45 (pM 0) 43,
oF 46 (pN 45 30) 43,
oF 47 (pM 5) 43,
oF 48 (pB .sub 3 46 47 3) 43,
oF 49 (pK .sub 3 48 .i64 8 3) 43,
oF 50 (pB .gtr 3 44 49 3) 43,
o 51 (pV 43 50)]
def k89_r7 : List COp := [o 52 (pM 0),
o 53 (pM 5),
o 54 (pK .add 3 53 .i64 8 3),
o 55 (pM 5),
o 56 (pK .add 3 55 .i64 8 3),
o 57 (pM 7),
o 58 (pB .add 3 56 57 3),
o 59 (.slice 30 (.tmp 52) (some (.tmp 54)) (some (.tmp 58)) .none),
o 8 (pA 59)]
def k89_r8 : CC := (.wregion [
(true, oX 60 (pM 8)),
(false, oX 61 (pC 82 60 30)),
(true, oX 62 (pM 6)),
(false, oX 63 (.indexAddr 30 (.tmp 62) (.const (.int .i64 4)))),
(true, oX 64 (pL 5 63)),
(false, oX 65 (.convert 5 108 (.tmp 64))),
(false, oX 66 (pM 6)),
(false, oX 67 (.indexAddr 30 (.tmp 66) (.const (.int .i64 5)))),
(true, oX 68 (pL 5 67)),
(false, oX 69 (.convert 5 108 (.tmp 68))),
(false, oX 70 (pK .shl 108 69 .u64 8 110)),
(false, oX 71 (pB .or 108 65 70 108)),
(false, oX 72 (pM 6)),
(false, oX 73 (.indexAddr 30 (.tmp 72) (.const (.int .i64 6)))),
(true, oX 74 (pL 5 73)),
(false, oX 75 (.convert 5 108 (.tmp 74))),
(false, oX 76 (pK .shl 108 75 .u64 16 110)),
(false, oX 77 (pB .or 108 71 76 108)),
(false, o 78 (pM 6)),
(false, o 79 (.indexAddr 30 (.tmp 78) (.const (.int .i64 7)))),
(true, o 80 (pL 5 79)),
(false, o 81 (.convert 5 108 (.tmp 80))),
(false, o 82 (pK .shl 108 81 .u64 24 110)),
(false, o 83 (pB .or 108 77 82 108)),
(false, o 84 (pB .neq 108 61 83 108))] false [(4, oX 64 (pL 5 63), [0, 2]), (8, oX 68 (pL 5 67), [0, 2]), (14, oX 74 (pL 5 73), [0, 2]), (20, o 80 (pL 5 79), [0, 2])])
def k89_r9 : List COp := [o 85 (pM 4),
o 86 (.buildSlice 30 0 #[]),
o 87 (pM 8),
o 88 (pQ 86 87 30 30),
o 89 (.buildSlice 60 1 #[(0, .tmp 88)]),
o 90 (pQ 85 89 60 60),
o 4 (pA 90)]
def k89_r10 : List COp := [o 91 (pM 5),
o 92 (pM 7),
o 93 (.binOp .add 3 (.const (.int .i64 8)) (.tmp 92) 3),
o 94 (pB .add 3 91 93 3),
o 5 (pA 94)]
def k89_l0 : CC := (.seq (.seq (.region k89_r3) (.cond (.tmp 13) .skip (.exit 0))) (.block 1 (.seq (.region k89_r4) (.seq (.region k89_r5) (.seq (.seq (.region k89_r6) (.cond (.tmp 51) (.exit 0) .skip)) (.seq (.region k89_r7) (.seq (.seq k89_r8 (.cond (.tmp 84) (.exit 0) .skip)) (.seq (.region k89_r9) (.region k89_r10)))))))))
def k89_r11 : List COp := [o 95 (pM 4),
o 96 (pM 5),
o 2 (pA 95),
o 3 (pA 96)]
def k89 : CC := (.seq (.region k89_r0) (.seq (.region k89_r1) (.seq (.region k89_r2) (.seq (.block 0 (.loop k89_l0)) (.seq (.region k89_r11) .ret)))))
def k89_p := PLift.up <| aI (vE k89.eq_1) <| aO k89_r0.eq_1 <| aO k89_r1.eq_1 <| aO k89_r2.eq_1 <| aO k89_r3.eq_1 <| aO k89_r4.eq_1 <| aO k89_r5.eq_1 <| aO k89_r6.eq_1 <| aO k89_r7.eq_1 <| aI (vE k89_r8.eq_1) <| aO k89_r9.eq_1 <| aO k89_r10.eq_1 <| aI (vE k89_l0.eq_1) (oE k89_r11.eq_1)
theorem k89_a : type_of% k89_p.down := k89_p.down
theorem k89_is : FnIs Tryz.prog prims 89 97 [ResultVar.tmp 2, ResultVar.tmp 3] k89 := FnIs.of_fn Tryz.func89 (by kernel_rfl) rfl
def k90_r0 : List COp := [o 6 (pZ .i64 0)]
def k90_r1 : List COp := [o 10 (pM 0),
o 11 (pM 1),
o 12 (pD 46 10 11 26 9),
o 9 (pM 12),
o 13 (pX 9 0),
o 14 (pX 9 1),
o 7 (pA 13),
o 8 (pA 14)]
def k90_r2 : List COp := [o 16 (pM 8),
o 17 (pK .neq 33 16 .i64 0 33),
o 15 (pA 17)]
def k90_r3 : List COp := [o 18 (pM 8),
o 6 (pA 18)]
def k90_r4 : List COp := [o 20 (pM 2),
o 21 (pK .lss 3 20 .i64 0 3),
o 22 (pM 21),
⟨some 23, .move (.tmp 2), some (22, false), false⟩,
⟨some 24, .move (.tmp 7), some (22, false), false⟩,
⟨some 25, .nilCheck (.tmp 24), some (22, false), false⟩,
⟨some 26, .fieldAddr 77 (.tmp 25) 0, some (22, false), false⟩,
⟨some 27, .load 30 (.tmp 26), some (22, false), false⟩,
⟨some 28, .call { callee := .builtin .len, args := #[.tmp 27], argTypes := #[30] }, some (22, false), false⟩,
oF 29 (pM 7) 22,
oF 30 (.nilCheck (.tmp 29)) 22,
oF 31 (pF 77 30 1) 22,
oF 32 (pL 30 31) 22,
oF 33 (pN 32 30) 22,
oF 34 (pB .add 3 28 33 3) 22,
oF 35 (pB .gtr 3 23 34 3) 22,
o 36 (pV 22 35),
o 19 (pA 36)]
def k90_r5 : List COp := [o 6 (pZ .i64 3)]
def k90_r6 : List COp := [o 37 (pM 0),
o 38 (pC 39 37 26)]
def k90_r7 : List COp := [o 39 (pM 0),
o 40 (pC 40 39 26),
o 6 (pA 40)]
def k90_r8 : List COp := [oX 41 (pM 7),
oX 42 (pM 7),
oX 43 (.nilCheck (.tmp 42)),
oX 44 (pF 77 43 1),
oX 45 (pL 30 44),
oX 46 (pM 2),
o 47 (pM 7),
o 48 (.nilCheck (.tmp 47)),
o 49 (pF 77 48 0),
o 50 (pL 30 49),
o 51 (pN 50 30),
o 52 (pB .sub 3 46 51 3),
o 53 (.call { callee := .builtin .max, args := #[.const (.int .i64 0), .tmp 52], argTypes := #[3, 3] }),
o 54 (.slice 30 (.tmp 45) .none (some (.tmp 53)) .none),
o 55 (.nilCheck (.tmp 41)),
o 56 (pF 77 55 1),
oS 30 56 54]
def k90_r9 : List COp := [oX 57 (pM 7),
oX 58 (pM 7),
oX 59 (.nilCheck (.tmp 58)),
oX 60 (pF 77 59 0),
oX 61 (pL 30 60),
oX 62 (pM 2),
o 63 (pM 7),
o 64 (.nilCheck (.tmp 63)),
o 65 (pF 77 64 0),
o 66 (pL 30 65),
o 67 (pN 66 30),
o 68 (.call { callee := .builtin .min, args := #[.tmp 62, .tmp 67], argTypes := #[3, 3] }),
o 69 (.slice 30 (.tmp 61) .none (some (.tmp 68)) .none),
o 70 (.nilCheck (.tmp 57)),
o 71 (pF 77 70 0),
oS 30 71 69]
def k90_r10 : List COp := [o 6 (pZ .i64 0)]
def k90 : CC := (.seq (.region k90_r0) (.seq (.region k90_r1) (.seq (.block 0 (.seq (.region k90_r2) (.cond (.tmp 15) (.seq (.region k90_r3) .ret) (.seq (.region k90_r4) (.cond (.tmp 19) (.seq (.region k90_r5) .ret) .skip))))) (.seq (.seq (.region k90_r6) (.cond (.tmp 38) (.seq (.region k90_r7) .ret) .skip)) (.seq (.region k90_r8) (.seq (.region k90_r9) (.seq (.region k90_r10) .ret)))))))
def k90_p := PLift.up <| aI (vE k90.eq_1) <| aO k90_r0.eq_1 <| aO k90_r1.eq_1 <| aO k90_r2.eq_1 <| aO k90_r3.eq_1 <| aO k90_r4.eq_1 <| aO k90_r5.eq_1 <| aO k90_r6.eq_1 <| aO k90_r7.eq_1 <| aO k90_r8.eq_1 <| aI (oE k90_r9.eq_1) (oE k90_r10.eq_1)
theorem k90_a : type_of% k90_p.down := k90_p.down
theorem k90_is : FnIs Tryz.prog prims 90 72 [ResultVar.tmp 6] k90 := FnIs.of_fn Tryz.func90 (by kernel_rfl) rfl
def k95_r0 : List COp := [o 4 (.assign (.const (.slice .none 0 0)))]
def k95_r1 : List COp := [o 5 (pM 1),
o 6 (pK .lss 3 5 .i64 0 3)]
def k95_r2 : List COp := [o 7 (.makeInterface 9 (.const (.string { data := #[99, 97, 110, 110, 111, 116, 32, 98, 101, 32, 110, 101, 103, 97, 116, 105, 118, 101] }))),
⟨none, .panic (.tmp 7), none, true⟩]
def k95_r3 : CC := (.hreg [
(false, o 8 (pM 1)),
(false, o 9 (pM 0)),
(true, o 10 (.call { callee := .builtin .cap, args := #[.tmp 9], argTypes := #[30] })),
(false, o 11 (pM 0)),
(true, o 12 (pN 11 30)),
(false, o 13 (pB .sub 3 10 12 3)),
(false, o 14 (pB .sub 3 8 13 3)),
(false, o 1 (pA 14))])
def k95_r4 : List COp := [o 15 (pM 1),
o 16 (pK .gtr 3 15 .i64 0 3)]
def k95_r5 : CC := (.hreg [
(false, o 17 (pM 0)),
(false, o 18 (pM 0)),
(true, o 19 (.call { callee := .builtin .cap, args := #[.tmp 18], argTypes := #[30] })),
(false, o 20 (.slice 30 (.tmp 17) .none (some (.tmp 19)) .none)),
(false, o 21 (pM 1)),
(true, o 22 (pQ 20 21 30 3)),
(false, o 23 (pM 0)),
(true, o 24 (pN 23 30)),
(false, o 25 (.slice 30 (.tmp 22) .none (some (.tmp 24)) .none)),
(false, o 0 (pA 25))])
def k95_r6 : List COp := [o 26 (pM 0),
o 4 (pA 26)]
def k95 : CC := (.seq (.region k95_r0) (.seq (.seq (.region k95_r1) (.cond (.tmp 6) (.region k95_r2) .skip)) (.seq (.seq k95_r3 (.seq (.region k95_r4) (.cond (.tmp 16) k95_r5 .skip))) (.seq (.region k95_r6) .ret))))
def k95_p := PLift.up <| aI (vE k95.eq_1) <| aO k95_r0.eq_1 <| aO k95_r1.eq_1 <| aO k95_r2.eq_1 <| aI (vE k95_r3.eq_1) <| aO k95_r4.eq_1 <| aI (vE k95_r5.eq_1) (oE k95_r6.eq_1)
theorem k95_a : type_of% k95_p.down := k95_p.down
theorem k95_is : FnIs Tryz.prog prims 95 27 [ResultVar.tmp 4] k95 := FnIs.of_fn Tryz.func95 (by kernel_rfl) rfl
def k99_r0 : List COp := [o 4 (pZ .u32 0)]
def k99_r1 : List COp := [o 9 (pM 0),
o 10 (.unOp .xor 108 (.tmp 9)),
o 5 (pA 10)]
def k99_r2 : List COp := [o 6 (pZ .i64 0)]
def k99_r3 : List COp := [o 11 (pM 6),
o 12 (pM 1),
o 13 (pN 12 30),
o 14 (pB .lss 3 11 13 3)]
def k99_r5 : List COp := [o 17 (pM 5),
o 18 (pM 1),
o 19 (pM 6),
o 20 (pI 30 18 19),
o 21 (pL 5 20),
o 22 (.convert 5 108 (.tmp 21)),
o 23 (pB .xor 108 17 22 108),
o 5 (pA 23)]
def k99_r6 : List COp := [o 7 (pZ .i64 0)]
def k99_r7 : List COp := [o 24 (pM 7),
o 25 (pK .lss 3 24 .i64 8 3)]
def k99_r9 : List COp := [o 28 (pM 5),
o 29 (pK .and 108 28 .u32 1 108),
o 8 (pA 29)]
def k99_r10 : List COp := [o 30 (pM 5),
o 31 (pK .shr 108 30 .u64 1 110),
o 5 (pA 31)]
def k99_r11 : List COp := [o 32 (pM 8),
o 33 (pK .eql 108 32 .u32 1 108)]
def k99_r12 : List COp := [o 34 (pM 5),
o 35 (pK .xor 108 34 .u32 3988292384 108),
o 5 (pA 35)]
def k99_r8 : List COp := [o 26 (pM 7),
o 27 (pK .add 3 26 .i64 1 3),
o 7 (pA 27)]
def k99_l1 : CC := (.seq (.seq (.region k99_r7) (.cond (.tmp 25) .skip (.exit 2))) (.seq (.block 3 (.seq (.region k99_r9) (.seq (.region k99_r10) (.seq (.region k99_r11) (.cond (.tmp 33) (.region k99_r12) .skip))))) (.region k99_r8)))
def k99_r4 : List COp := [o 15 (pM 6),
o 16 (pK .add 3 15 .i64 1 3),
o 6 (pA 16)]
def k99_l0 : CC := (.seq (.seq (.region k99_r3) (.cond (.tmp 14) .skip (.exit 0))) (.seq (.block 1 (.seq (.region k99_r5) (.seq (.region k99_r6) (.block 2 (.loop k99_l1))))) (.region k99_r4)))
def k99_r13 : List COp := [o 36 (pM 5),
o 37 (.unOp .xor 108 (.tmp 36)),
o 4 (pA 37)]
def k99 : CC := (.seq (.region k99_r0) (.seq (.region k99_r1) (.seq (.seq (.region k99_r2) (.block 0 (.loop k99_l0))) (.seq (.region k99_r13) .ret))))
def k99_p := PLift.up <| aI (vE k99.eq_1) <| aO k99_r0.eq_1 <| aO k99_r1.eq_1 <| aO k99_r2.eq_1 <| aO k99_r3.eq_1 <| aO k99_r5.eq_1 <| aO k99_r6.eq_1 <| aO k99_r7.eq_1 <| aO k99_r9.eq_1 <| aO k99_r10.eq_1 <| aO k99_r11.eq_1 <| aO k99_r12.eq_1 <| aO k99_r8.eq_1 <| aI (vE k99_l1.eq_1) <| aO k99_r4.eq_1 <| aI (vE k99_l0.eq_1) (oE k99_r13.eq_1)
theorem k99_a : type_of% k99_p.down := k99_p.down
theorem k99_is : FnIs Tryz.prog prims 99 38 [ResultVar.tmp 4] k99 := FnIs.of_fn Tryz.func99 (by kernel_rfl) rfl
theorem yac : ymn Tryz.prog 3 = false ∧ ymn Tryz.prog 32 = false ∧ ymn Tryz.prog 33 = false ∧ ymn Tryz.prog 37 = false ∧ ymn Tryz.prog 53 = false ∧ ymn Tryz.prog 54 = false ∧ ymn Tryz.prog 56 = false ∧ ymn Tryz.prog 60 = false ∧ ymn Tryz.prog 81 = false ∧ ymn Tryz.prog 121 = false ∧ yeI Tryz.prog 30 = false ∧ yeI Tryz.prog 48 = false ∧ yeI Tryz.prog 68 = false ∧ yeI Tryz.prog 72 = true ∧ yeI Tryz.prog 74 = false ∧ yeI Tryz.prog 77 = false ∧ yeI Tryz.prog 81 = false ∧ yeI Tryz.prog 93 = false ∧ True := ⟨by kernel_rfl, by kernel_rfl, by kernel_rfl, by kernel_rfl, by kernel_rfl, by kernel_rfl, by kernel_rfl, by kernel_rfl, by kernel_rfl, by kernel_rfl, by kernel_rfl, by kernel_rfl, by kernel_rfl, by kernel_rfl, by kernel_rfl, by kernel_rfl, by kernel_rfl, by kernel_rfl, trivial⟩
end Go.Proofs.YtnegdinonfjdfaaGreatDoor.Q
set_option linter.unusedVariables false
set_option linter.unusedSimpArgs false
namespace Go.Proofs.YtnegdinonfjdfaaGreatDoor.Q
open Go Go.RowKit Go.Proofs
theorem T22 : Tryz.prog.underlying 30 = some (.slice 5) := by kernel_rfl
theorem T5 : Tryz.prog.underlying 5 = some (.int .u8) := by kernel_rfl
theorem T3 : Tryz.prog.underlying 3 = some (.int .i64) := by kernel_rfl
theorem T4 : Tryz.prog.underlying 4 = some .bool := by kernel_rfl
theorem S5 : yaQ Tryz.prog 5 = some 1 := by kernel_rfl
theorem G5 : ybc Tryz.prog 5 = some false := by kernel_rfl
theorem C5 : Tryz.prog.cellsOf 5 = 1 := by kernel_rfl
theorem G3 : ybc Tryz.prog 3 = some false := by kernel_rfl
theorem G4 : ybc Tryz.prog 4 = some false := by kernel_rfl
theorem S3 : yaQ Tryz.prog 3 = some 1 := by kernel_rfl
theorem S4 : yaQ Tryz.prog 4 = some 1 := by kernel_rfl
theorem BT : ByteT Tryz.prog 30 5 := ⟨T22, T5, S5, by kernel_rfl, by kernel_rfl, G5, C5⟩
def isTrue : Option (VRes × St) → Bool
 | some (.ret (.bool true), _) => true
 | _ => false
theorem ymv {o : Option (VRes × St)} (h : isTrue o = true) : ∃ σ, o = some (.ret (.bool true), σ) := by
 unfold isTrue at h; split at h
 · exact ⟨_, rfl⟩
 · cases h
theorem ya8 {n : Nat} (h : n < 2 ^ 63) : IntKind.i64.wrap (n : Int) = n := yae (by omega) (by omega)
end Go.Proofs.YtnegdinonfjdfaaGreatDoor.Q
namespace Go.Proofs.YtnegdinonfjdfaaGreatDoor.Q
structure Fl where
 name : List UInt8
 safe : List UInt8
 wait : List UInt8
 deriving DecidableEq, Inhabited
structure Dk where
 files : List Fl
 room : Int
 on : Bool
 writes : Nat
 armed : Nat
 keep : Int
abbrev Fl.len (f : Fl) : Nat := f.safe.length + f.wait.length
def ydC (l : List Fl) : Nat := (l.map Fl.len).sum
def ybZ (n : List UInt8) : Bool := decide (1 ≤ n.length ∧ n.length ≤ 16)
def yaw (d : Dk) (n : List UInt8) : Nat := if ybZ n = false then 1 else if d.on = false then 20 else 0
def yc7 (l : List Fl) (n : List UInt8) : Option Fl := l.find? fun f => decide (f.name = n)
def ycy (x : Fl) (l : List Fl) : List Fl := (l.filter fun f => decide (f.name < x.name)) ++ x :: (l.filter fun f => decide (x.name < f.name))
def ydU (n : List UInt8) (l : List Fl) : List Fl := l.filter fun f => decide (f.name ≠ n)
def yjF (k : Int) (f : Fl) : Fl := ⟨f.name, f.safe ++ f.wait.take k.toNat, []⟩
def ydG (k : Int) (d : Dk) : Dk := if d.on = true then { d with files := d.files.map (yjF k), on := false, armed := 0 } else d
def ybj (d : Dk) : Bool × Dk := if d.armed = 0 then (false, { d with writes := d.writes + 1 }) else (decide (d.armed = 1), { d with writes := d.writes + 1, armed := d.armed - 1 })
def yaf (n b : List UInt8) (d : Dk) : Nat × Dk :=
 if yaw d n ≠ 0 then (yaw d n, d) else
 let f := (yc7 d.files n).getD ⟨n, [], []⟩
 if 1048576 < f.len + b.length then (3, d) else
 if ((yc7 d.files n).isNone = true ∧ 16 ≤ d.files.length) ∨ d.room < ((ydC d.files + b.length : Nat) : Int) then (22, d) else
 let d2 := { d with files := ycy ⟨n, f.safe, f.wait ++ b⟩ d.files }
 if (ybj d2).1 = true then (20, ydG d.keep (ybj d2).2) else (0, (ybj d2).2)
def yao (d : Dk) (n : List UInt8) : Nat := if yaw d n ≠ 0 then yaw d n else if (yc7 d.files n).isNone = true then 21 else 0
def yaO (n : List UInt8) (d : Dk) : Nat × Dk :=
 if yao d n ≠ 0 then (yao d n, d) else
 if (ybj d).1 = true then (20, ydG d.keep (ybj d).2) else
 let f := (yc7 d.files n).getD default
 (0, { (ybj d).2 with files := ycy ⟨n, f.safe ++ f.wait, []⟩ d.files })
def yaL (n : List UInt8) (k : Int) (d : Dk) : Nat × Dk :=
 if yao d n ≠ 0 then (yao d n, d) else
 let f := (yc7 d.files n).getD default
 if k < 0 ∨ (f.len : Int) < k then (3, d) else
 if (ybj d).1 = true then (20, ydG d.keep (ybj d).2) else
 (0, { (ybj d).2 with files := ycy ⟨n, f.safe.take k.toNat, f.wait.take (k.toNat - f.safe.length)⟩ d.files })
def yaj (n : List UInt8) (d : Dk) : Nat × Dk :=
 if yao d n ≠ 0 then (yao d n, d) else
 if (ybj d).1 = true then (20, ydG d.keep (ybj d).2) else
 (0, { (ybj d).2 with files := ydU n d.files })
def yav (n : List UInt8) (d : Dk) : Nat × List UInt8 :=
 if yao d n ≠ 0 then (yao d n, []) else
 let f := (yc7 d.files n).getD default
 (0, f.safe ++ f.wait)
def yaS (d : Dk) : List (List UInt8) := if d.on = true then d.files.map Fl.name else []
def yjo (n k : Int) (d : Dk) : Dk := { d with armed := n.toNat, keep := k }
structure Dk.Ok (d : Dk) : Prop where
 rise : d.files.Pairwise fun f g => f.name < g.name
 nm : ∀ f ∈ d.files, ybZ f.name = true
 few : d.files.length ≤ 16
 sm : ∀ f ∈ d.files, f.len ≤ 1048576
 arm : (d.armed : Int) ≤ 9223372036854775807
 rm : ycm d.room
 kp : ycm d.keep
theorem yaD (a : List UInt8) : ¬ a < a := List.lt_irrefl a
theorem ybX {a b c : List UInt8} (h : a < b) (h2 : b < c) : a < c := List.lt_trans h h2
theorem yql {a b : List UInt8} (h : a ≠ b) : a < b ∨ b < a := by
 rcases Classical.em (a < b) with h1 | h1
 · exact .inl h1
 · rcases Classical.em (b < a) with h2 | h2
   · exact .inr h2
   · exact absurd (List.le_antisymm h2 h1) h
theorem Dk.Ok.nodup {d : Dk} (h : d.Ok) : (d.files.map Fl.name).Nodup := by
 rw [List.nodup_iff_pairwise_ne, List.pairwise_map]; exact h.rise.imp fun {f g} hlt (he : f.name = g.name) => yaD f.name (by rw [← he] at hlt; exact hlt)
theorem mem_putF {x f : Fl} {l : List Fl} : f ∈ ycy x l ↔ f = x ∨ (f ∈ l ∧ f.name ≠ x.name) := by
 unfold ycy; simp only [List.mem_append, List.mem_cons, List.mem_filter, decide_eq_true_eq]; constructor
 · rintro (⟨h1, h2⟩ | rfl | ⟨h1, h2⟩)
   · exact .inr ⟨h1, fun e => yaD x.name (by rw [e] at h2; exact h2)⟩
   · exact .inl rfl
   · exact .inr ⟨h1, fun e => yaD x.name (by rw [e] at h2; exact h2)⟩
 · rintro (rfl | ⟨h1, h2⟩)
   · exact .inr (.inl rfl)
   · rcases yql h2 with h | h
     · exact .inl ⟨h1, h⟩
     · exact .inr (.inr ⟨h1, h⟩)
theorem mem_dropF {n : List UInt8} {f : Fl} {l : List Fl} : f ∈ ydU n l ↔ f ∈ l ∧ f.name ≠ n := by
 simp [ydU]
theorem yeT {x : Fl} {l : List Fl} (h : l.Pairwise fun f g => f.name < g.name) : (ycy x l).Pairwise fun f g => f.name < g.name := by
 unfold ycy; rw [List.pairwise_append, List.pairwise_cons]; refine ⟨h.filter _, ⟨fun g hg => ?_, h.filter _⟩, fun f hf g hg => ?_⟩
 · simpa using (List.mem_filter.1 hg).2
 · have hf2 : f.name < x.name := (by simpa using (List.mem_filter.1 hf).2); rcases List.mem_cons.1 hg with rfl | hg
   · exact hf2
   · exact ybX hf2 (by simpa using (List.mem_filter.1 hg).2)
theorem ylQ {n : List UInt8} {l : List Fl} (h : l.Pairwise fun f g => f.name < g.name) : (ydU n l).Pairwise fun f g => f.name < g.name := h.filter _
theorem yey {l : List Fl} {n : List UInt8} {f : Fl} (h : yc7 l n = some f) : f ∈ l ∧ f.name = n := by
 unfold yc7 at h; exact ⟨List.mem_of_find?_eq_some h, by simpa using List.find?_some h⟩
theorem yeD {l : List Fl} {n : List UInt8} (h : yc7 l n = none) : ∀ f ∈ l, f.name ≠ n := by
 unfold yc7 at h; rw [List.find?_eq_none] at h; intro f hf e; exact h f hf (by simp [e])
theorem yku {l : List Fl} (hn : (l.map Fl.name).Nodup) {f g : Fl} (hf : f ∈ l) (hg : g ∈ l) (h : f.name = g.name) : f = g := by
 induction l with
 | nil => cases hf
 | cons a l ih =>
   simp only [List.map_cons, List.nodup_cons] at hn
   rcases List.mem_cons.1 hf with rfl | hf' <;> rcases List.mem_cons.1 hg with rfl | hg'
   · rfl
   · exact absurd (by rw [h]; exact List.mem_map_of_mem hg') hn.1
   · exact absurd (by rw [← h]; exact List.mem_map_of_mem hf') hn.1
   · exact ih hn.2 hf' hg'
theorem ylb {l : List Fl} (hn : (l.map Fl.name).Nodup) {f : Fl} (hf : f ∈ l) : yc7 l f.name = some f := by
 cases h : yc7 l f.name with
 | none => exact absurd rfl (yeD h f hf)
 | some g =>
   obtain ⟨h1, h2⟩ := yey h; rw [yku hn h1 hf h2]
theorem ylw {l : List Fl} (hn : (l.map Fl.name).Nodup) : l.Nodup := by
 rw [List.nodup_iff_pairwise_ne] at hn ⊢; rw [List.pairwise_map] at hn; exact hn.imp fun {f g} h e => h (by rw [e])
theorem yjt {l m : List Fl} (hl : (l.map Fl.name).Nodup) (hm : (m.map Fl.name).Nodup) (h : ∀ f, f ∈ l ↔ f ∈ m) : l.Perm m := (List.perm_ext_iff_of_nodup (ylw hl) (ylw hm)).2 h
theorem ypd {x : Fl} {l : List Fl} (hr : l.Pairwise fun f g => f.name < g.name) : (ycy x l).length = if (yc7 l x.name).isNone = true then l.length + 1 else l.length := by
 have hn : (l.map Fl.name).Nodup := by
   rw [List.nodup_iff_pairwise_ne, List.pairwise_map]; exact hr.imp fun {f g} hlt (he : f.name = g.name) => yaD f.name (by rw [← he] at hlt; exact hlt)
 have hn2 : ((ycy x l).map Fl.name).Nodup := by
   rw [List.nodup_iff_pairwise_ne, List.pairwise_map]; exact (yeT hr).imp fun {f g} hlt (he : f.name = g.name) => yaD f.name (by rw [← he] at hlt; exact hlt)
 have hp : (ycy x l).Perm (x :: ydU x.name l) := by
   refine yjt hn2 ?_ fun f => ?_
   · simp only [List.map_cons, List.nodup_cons]; refine ⟨fun h => ?_, ?_⟩
     · obtain ⟨g, hg, he⟩ := List.mem_map.1 h; exact (mem_dropF.1 hg).2 he
     · exact List.Sublist.nodup ((List.filter_sublist).map _) hn
   · rw [mem_putF, List.mem_cons, mem_dropF]
 rw [hp.length_eq, List.length_cons]
 cases h : yc7 l x.name with
 | none =>
   have : ydU x.name l = l := by
     unfold ydU; rw [List.filter_eq_self]; intro f hf; simpa using yeD h f hf
   simp [this]
 | some f =>
   obtain ⟨h1, h2⟩ := yey h
   have hq : l.Perm (f :: ydU x.name l) := by
     refine yjt hn ?_ fun g => ?_
     · simp only [List.map_cons, List.nodup_cons]; refine ⟨fun h => ?_, List.Sublist.nodup ((List.filter_sublist).map _) hn⟩; obtain ⟨g, hg, he⟩ := List.mem_map.1 h; exact (mem_dropF.1 hg).2 (he.trans h2)
     · rw [List.mem_cons, mem_dropF]; constructor
       · intro hg; by_cases e : g.name = x.name
         · exact .inl (yku hn hg h1 (e.trans h2.symm))
         · exact .inr ⟨hg, e⟩
       · rintro (rfl | h3)
         · exact h1
         · exact h3.1
   have := hq.length_eq; simp at this ⊢; omega
end Go.Proofs.YtnegdinonfjdfaaGreatDoor.Q
namespace Go.Proofs.YtnegdinonfjdfaaGreatDoor.Q
open Go Go.RowKit Go.Proofs
structure KS (S : List Nat) (σ σ' : St) : Prop where
 ko : ∀ r o, r ∉ S → σ.objs[r]? = some o → σ'.objs[r]? = some o
 le : σ.objs.length ≤ σ'.objs.length
 tl : σ.toks.length ≤ σ'.toks.length
 tk : ∀ k, yax σ.toks k = true → yax σ'.toks k = true
theorem KS.refl (S : List Nat) (σ : St) : KS S σ σ := ⟨fun _ _ _ h => h, Nat.le_refl _, Nat.le_refl _, fun _ h => h⟩
theorem KS.trans {S S1 : List Nat} {σ σ1 σ2 : St} (h : KS S σ σ1) (h2 : KS S1 σ1 σ2) (hs : ∀ x ∈ S1, x ∈ S ∨ σ.objs.length ≤ x) : KS S σ σ2 :=
 ⟨fun r o hr ho => h2.ko r o (fun hx => by
   have := (gA0.1 ho).1; rcases hs r hx with h | h
   · exact hr h
   · omega) (h.ko r o hr ho), Nat.le_trans h.le h2.le, Nat.le_trans h.tl h2.tl, fun k hk => h2.tk k (h.tk k hk)⟩
theorem KS.trans' {S : List Nat} {σ σ1 σ2 : St} (h : KS S σ σ1) (h2 : KS S σ1 σ2) : KS S σ σ2 := h.trans h2 fun _ hx => .inl hx
theorem KS.mono {S S1 : List Nat} {σ σ1 : St} (h : KS S1 σ σ1) (hs : ∀ x ∈ S1, x ∈ S ∨ σ.objs.length ≤ x) : KS S σ σ1 := (KS.refl S σ).trans h hs
theorem KS.push (S : List Nat) (σ : St) (o : Ob) : KS S σ ⟨σ.objs ++ [o], σ.toks⟩ := ⟨fun r p _ hp => by
 simp only; rw [gA2 (gA0.1 hp).1]; exact hp, by simp, Nat.le_refl _, fun _ h => h⟩
theorem KS.set {S : List Nat} {σ : St} {k : Nat} (hk : k ∈ S ∨ σ.objs.length ≤ k) (o : Ob) : KS S σ ⟨σ.objs.set k o, σ.toks⟩ := ⟨fun r p hr hp => by
 have h2 := (gA0.1 hp).1; simp only; rw [gA3]
 · exact hp
 · rintro rfl; rcases hk with hk | hk
   · exact hr hk
   · omega, by simp, Nat.le_refl _, fun _ h => h⟩
theorem Keep.ks {σ σ' : St} (h : Keep σ σ') (S : List Nat) : KS S σ σ' := by
 refine ⟨fun r o _ ho => h.1 r o ho, ?_, h.2.1, h.2.2⟩; rcases Nat.eq_zero_or_pos σ.objs.length with h0 | h0
 · omega
 · have := (gA0.1 (h.1 (σ.objs.length - 1) _ (List.getElem?_eq_getElem (by omega)))).1; omega
theorem KS.keep {σ σ' : St} (h : KS [] σ σ') : Keep σ σ' := ⟨fun r o ho => h.ko r o (by simp) ho, h.tl, h.tk⟩
abbrev Ent := Fl × FO
def yfM (p : Ent) : V × V := (.str p.1.name, .optr p.2.rf 0)
structure FAt (objs : List Ob) (p : Ent) : Prop where
 ob : objs[p.2.rf]? = some (.cells [p.2.s, p.2.w])
 s : yaU objs p.2.s = some (p.2.rs, p.1.safe.map yal)
 w : yaU objs p.2.w = some (p.2.rw, p.1.wait.map yal)
 cs : p.2.cs = p.1.safe.map yal
 ds : p.2.ds = p.1.wait.map yal
def ybV (rm : Nat) (d : Dk) : List V := [.omap rm, .int .i64 d.room, .bool (!d.on), .int .i64 (d.writes : Nat), .int .i64 (d.armed : Nat), .int .i64 d.keep]
def yay (r rm : Nat) (fs : List Ent) : List Nat := r :: rm :: fs.flatMap fun p => p.2.ids
structure DiskAt (σ : St) (r : Nat) (d : Dk) (rm : Nat) (fs : List Ent) : Prop where
 hd : σ.objs[r]? = some (.cells (ybV rm d))
 hm : σ.objs[rm]? = some (.mp (fs.map yfM))
 hf : ∀ p ∈ fs, FAt σ.objs p
 nd : (yay r rm fs).Nodup
 pm : (fs.map (·.1)).Perm d.files
theorem FAt.file {objs : List Ob} {p : Ent} (h : FAt objs p) : ygz objs (yfM p) = some p.2 := by
 have h1 := h.s; have h2 := h.w; rw [← h.cs] at h1; rw [← h.ds] at h2; simp only [yfM, ygz, h.ob, h1, h2]
theorem yiU {objs : List Ob} : ∀ {fs : List Ent}, (∀ p ∈ fs, FAt objs p) → yer objs (fs.map yfM) = some (fs.map (·.2))
 | [], _ => rfl
 | p :: fs, h => by
   simp only [List.map_cons, yer, (h p (List.mem_cons_self ..)).file, yiU fun q hq => h q (List.mem_cons_of_mem _ hq)]
theorem FAt.frame {objs objs2 : List Ob} {p : Ent} (h : FAt objs p) (hk : ∀ x ∈ p.2.ids, ∀ o, objs[x]? = some o → objs2[x]? = some o) : FAt objs2 p := by
 refine ⟨hk _ (by simp [FO.ids]) _ h.ob, ?_, ?_, h.cs, h.ds⟩
 · rcases yaC h.s with ⟨e1, e2, e3⟩ | ⟨r, full, e1, e2, hr, hl, hc⟩
   · rw [← h.s]; rw [e1]; rfl
   · exact yd8 h.s fun q hq => by
       rw [e2] at hq; injection hq with hq; subst hq
       rw [hr]; exact hk _ (by simp [FO.ids, e2]) _ hr
 · rcases yaC h.w with ⟨e1, e2, e3⟩ | ⟨r, full, e1, e2, hr, hl, hc⟩
   · rw [← h.w]; rw [e1]; rfl
   · exact yd8 h.w fun q hq => by
       rw [e2] at hq; injection hq with hq; subst hq
       rw [hr]; exact hk _ (by simp [FO.ids, e2]) _ hr
theorem DiskAt.keep {σ σ' : St} {r rm : Nat} {d : Dk} {fs : List Ent} {S : List Nat} (h : DiskAt σ r d rm fs) (hk : KS S σ σ') (hs : ∀ x ∈ yay r rm fs, x ∉ S) : DiskAt σ' r d rm fs := by
 refine ⟨hk.ko _ _ (hs _ (by simp [yay])) h.hd, hk.ko _ _ (hs _ (by simp [yay])) h.hm, fun p hp => (h.hf p hp).frame fun x hx o ho => hk.ko _ _ (hs _ ?_) ho, h.nd, h.pm⟩; simp only [yay, List.mem_cons, List.mem_flatMap]; exact .inr (.inr ⟨p, hp, hx⟩)
theorem DiskAt.lt {σ : St} {r rm : Nat} {d : Dk} {fs : List Ent} (h : DiskAt σ r d rm fs) : ∀ x ∈ yay r rm fs, x < σ.objs.length := by
 intro x hx; simp only [yay, List.mem_cons, List.mem_flatMap] at hx; rcases hx with rfl | rfl | ⟨p, hp, hx⟩
 · exact (gA0.1 h.hd).1
 · exact (gA0.1 h.hm).1
 · obtain ⟨cs, hc⟩ := ypu (h.hf p hp).file hx; exact (gA0.1 hc).1
theorem DiskAt.head {σ : St} {r rm : Nat} {d d2 : Dk} {fs : List Ent} (h : DiskAt σ r d rm fs) (hf : d2.files = d.files) {σ' : St} (hs : σ' = ⟨σ.objs.set r (.cells (ybV rm d2)), σ.toks⟩) : DiskAt σ' r d2 rm fs ∧ KS (yay r rm fs) σ σ' := by
 subst hs; have hr := (gA0.1 h.hd).1; have hn := h.nd; unfold yay at hn; rw [List.nodup_cons, List.nodup_cons] at hn; have hne : ∀ x, x ∈ rm :: fs.flatMap (fun p => p.2.ids) → r ≠ x := fun x hx e => hn.1 (by rw [e]; exact hx); refine ⟨⟨by simp only; rw [gA5 hr], ?_, fun p hp => (h.hf p hp).frame fun x hx o ho => ?_, h.nd, by rw [hf]; exact h.pm⟩, KS.set (.inl (by simp [yay])) _⟩
 · simp only; rw [gA3 (hne _ (List.mem_cons_self ..))]; exact h.hm
 · simp only; rw [gA3 (hne _ (List.mem_cons_of_mem _ (List.mem_flatMap.2 ⟨p, hp, hx⟩)))]; exact ho
theorem T9 : Tryz.prog.underlying 9 = some .string := by kernel_rfl
theorem G9 : ybc Tryz.prog 9 = some false := by kernel_rfl
theorem zeroF : ybl Tryz.prog 75 = some .nilp := by kernel_rfl
theorem keyD : yfc Tryz.prog 9 = some .string := by kernel_rfl
theorem yaJ : ycl (.pointer none) = some .nilp := by kernel_rfl
theorem yn7 {fs : List Ent} {n : List UInt8} (h : ∀ p ∈ fs, p.1.name ≠ n) (i : Nat) : yfL .string (.str n) (fs.map yfM) i = some none := by
 induction fs generalizing i with
 | nil => rfl
 | cons p fs ih =>
   have h1 := h p (List.mem_cons_self ..); have : yjb .string (.str n) (.str p.1.name) = some false := (by simp only [yjb]; rw [decide_eq_false (fun e => h1 e.symm)]); simp only [List.map_cons, yfL, yfM, this]; exact ih (fun q hq => h q (List.mem_cons_of_mem _ hq)) _
theorem ykM {a b : List Ent} {p : Ent} (h : ∀ q ∈ a, q.1.name ≠ p.1.name) (i : Nat) : yfL .string (.str p.1.name) ((a ++ p :: b).map yfM) i = some (some (i + a.length, .optr p.2.rf 0)) := by
 induction a generalizing i with
 | nil => simp [yfL, yfM, yjb]
 | cons q a ih =>
   have h1 := h q (List.mem_cons_self ..); have : yjb .string (.str p.1.name) (.str q.1.name) = some false := (by simp only [yjb]; rw [decide_eq_false (fun e => h1 e.symm)]); simp only [List.cons_append, List.map_cons, yfL, yfM, this]; have := ih (fun r hr => h r (List.mem_cons_of_mem _ hr)) (i + 1); rw [show i + (q :: a).length = i + 1 + a.length by rw [List.length_cons]; omega]; exact this
structure Has (d : Dk) (fs a b : List Ent) (p : Ent) (n : List UInt8) : Prop where
 e : fs = a ++ p :: b
 nm : p.1.name = n
 g : yc7 d.files n = some p.1
 a : ∀ q ∈ a, q.1.name ≠ n
 b : ∀ q ∈ b, q.1.name ≠ n
theorem DiskAt.names {σ : St} {r rm : Nat} {d : Dk} {fs : List Ent} (h : DiskAt σ r d rm fs) (hok : d.Ok) : (fs.map fun p => p.1.name).Nodup := by
 have h1 := (h.pm.map Fl.name).nodup_iff.2 hok.nodup
 rwa [List.map_map] at h1
theorem DiskAt.get_no {σ : St} {r rm : Nat} {d : Dk} {fs : List Ent} (h : DiskAt σ r d rm fs) {n : List UInt8} (hg : yc7 d.files n = none) : ∀ p ∈ fs, p.1.name ≠ n := fun p hp =>
 yeD hg _ (h.pm.mem_iff.1 (List.mem_map_of_mem hp))
theorem DiskAt.get_yes {σ : St} {r rm : Nat} {d : Dk} {fs : List Ent} (h : DiskAt σ r d rm fs) (hok : d.Ok) {n : List UInt8} {f : Fl} (hg : yc7 d.files n = some f) : ∃ a p b, Has d fs a b p n := by
 obtain ⟨hf, hn⟩ := yey hg; obtain ⟨p, hp, rfl⟩ := List.mem_map.1 (h.pm.mem_iff.2 hf); obtain ⟨a, b, rfl⟩ := List.append_of_mem hp; have hd := h.names hok; rw [List.map_append, List.map_cons, List.nodup_append, List.nodup_cons] at hd; exact ⟨a, p, b, rfl, hn, hg, fun q hq e => hd.2.2 _ (List.mem_map_of_mem hq) _ (List.mem_cons_self ..) (by rw [e, hn]), fun q hq e => hd.2.1.1 (by rw [hn, ← e]; exact List.mem_map_of_mem hq)⟩
theorem DiskAt.look_no {σ : St} {r rm : Nat} {d : Dk} {fs : List Ent} (h : DiskAt σ r d rm fs) {n : List UInt8} (hg : yc7 d.files n = none) : yeq Tryz.prog σ.objs 72 (.omap rm) (.str n) false = some .nilp := by
 simp only [yeq, pTM, h.hm, keyD, zeroF, yn7 (h.get_no hg)]; rfl
theorem DiskAt.look_yes {σ : St} {r rm : Nat} {d : Dk} {fs a b : List Ent} {p : Ent} (h : DiskAt σ r d rm fs) {n : List UInt8} (hg : Has d fs a b p n) : yeq Tryz.prog σ.objs 72 (.omap rm) (.str n) false = some (.optr p.2.rf 0) := by
 have hm := h.hm; rw [hg.e] at hm; have hv := ykM (a := a) (b := b) (p := p) (by rw [hg.nm]; exact hg.a) 0; rw [hg.nm] at hv; simp only [yeq, pTM, hm, keyD, zeroF, hv]; rfl
theorem ymd (n : List UInt8) (σ : St) : Does Tryz.prog prims 79 [.str n] σ (.ret (.bool (ybZ n))) σ := by
 apply k79_is.ret (by simp); have e : ydn Tryz.prog 9 (.str n) = some (.int .i64 (n.length : Nat)) := (by simp [ydn, T9]); simp only [k79_a, WKV, Nat.reduceLT, Nat.reduceEqDiff, ↓reduceIte, reduceCtorEq, Nat.reduceAdd, Int.reduceLT, Int.reduceNeg, yac, gD0, e]; by_cases h1 : 1 ≤ n.length
 · have h1' : (1 : Int) ≤ (n.length : Int) := (by omega); simp only [k79_a, WKV, Nat.reduceLT, Nat.reduceEqDiff, ↓reduceIte, reduceCtorEq, Nat.reduceAdd, Int.reduceLT, Int.reduceNeg, yac, h1', decide_true, gD0, e]; by_cases h2 : n.length ≤ 16
   · have h2' : (n.length : Int) ≤ 16 := (by omega); simp [k79_a, WKV, Nat.reduceLT, Nat.reduceEqDiff, ↓reduceIte, reduceCtorEq, Nat.reduceAdd, Int.reduceLT, Int.reduceNeg, yac, h2', ybZ, h1, h2]
   · have h2' : ¬ (n.length : Int) ≤ 16 := (by omega); simp [k79_a, WKV, Nat.reduceLT, Nat.reduceEqDiff, ↓reduceIte, reduceCtorEq, Nat.reduceAdd, Int.reduceLT, Int.reduceNeg, yac, h2', ybZ, h1, h2]
 · have h1' : ¬ (1 : Int) ≤ (n.length : Int) := (by omega); simp only [k79_a, WKV, Nat.reduceLT, Nat.reduceEqDiff, ↓reduceIte, reduceCtorEq, Nat.reduceAdd, Int.reduceLT, Int.reduceNeg, yac, h1', decide_false]; simp [ybZ, h1]
theorem yfq {σ : St} {r rm : Nat} {d : Dk} {fs : List Ent} (h : DiskAt σ r d rm fs) (n : List UInt8) : Does Tryz.prog prims 37 [.optr r 0, .str n] σ (.ret (.int .i64 (yaw d n : Nat))) σ := by
 apply k37_is.ret (by simp); simp only [k37_a, WKV, Nat.reduceLT, Nat.reduceEqDiff, ↓reduceIte, reduceCtorEq, Nat.reduceAdd, Int.reduceLT, Int.reduceNeg, yac, gD0, gD1, ybe pTD]; refine KD.ret (ymd n σ) ?_; simp only [k37_a, WKV, Nat.reduceLT, Nat.reduceEqDiff, ↓reduceIte, reduceCtorEq, Nat.reduceAdd, Int.reduceLT, Int.reduceNeg, yac]; have hl : yad Tryz.prog σ.objs 4 (.optr r 2) = some (.bool (!d.on)) := by rw [yab h.hd G4]; rfl
 cases hn : ybZ n with
 | false => simp [k37_a, WKV, Nat.reduceLT, Nat.reduceEqDiff, ↓reduceIte, reduceCtorEq, Nat.reduceAdd, Int.reduceLT, Int.reduceNeg, yac, yaw, hn]
 | true =>
   simp only [k37_a, WKV, Nat.reduceLT, Nat.reduceEqDiff, ↓reduceIte, reduceCtorEq, Nat.reduceAdd, Int.reduceLT, Int.reduceNeg, yac, Bool.not_true, pFA r 2 (by omega), hl]
   cases ho : d.on <;> simp [k37_a, WKV, Nat.reduceLT, Nat.reduceEqDiff, ↓reduceIte, reduceCtorEq, Nat.reduceAdd, Int.reduceLT, Int.reduceNeg, yac, yaw, hn, ho]
theorem yfX {σ : St} {r rm : Nat} {d : Dk} {fs : List Ent} (h : DiskAt σ r d rm fs) (n : List UInt8) (hz : yao d n ≠ 0) : Does Tryz.prog prims 46 [.optr r 0, .str n] σ (.ret (.tuple [.nilp, .int .i64 (yao d n : Nat)])) σ := by
 apply k46_is.ret (by simp); simp only [k46_a, WKV, Nat.reduceLT, Nat.reduceEqDiff, ↓reduceIte, reduceCtorEq, Nat.reduceAdd, Int.reduceLT, Int.reduceNeg, yac, gD0, gD1, yaJ]; refine KD.ret (yfq h n) ?_; have hl : yad Tryz.prog σ.objs 72 (.optr r 0) = some (.omap rm) := (by rw [yab h.hd pGM]; rfl); simp only [k46_a, WKV, Nat.reduceLT, Nat.reduceEqDiff, ↓reduceIte, reduceCtorEq, Nat.reduceAdd, Int.reduceLT, Int.reduceNeg, yac]; unfold yao at hz ⊢; by_cases hr : yaw d n = 0
 · have hr' : ((yaw d n : Nat) : Int) = 0 := (by omega); have hr2 : ¬ yaw d n ≠ 0 := fun h => h hr; rw [if_neg hr2] at hz ⊢
   cases hg : yc7 d.files n with
   | some f => rw [hg] at hz; exact absurd rfl hz
   | none =>
     simp only [k46_a, WKV, Nat.reduceLT, Nat.reduceEqDiff, ↓reduceIte, reduceCtorEq, Nat.reduceAdd, Int.reduceLT, Int.reduceNeg, yac, hr', pFA r 0 (by omega), hl, h.look_no hg, ycd pTF, yaJ]; simp
 · have hr' : ¬ ((yaw d n : Nat) : Int) = 0 := (by omega); rw [if_pos hr]; simp only [k46_a, WKV, Nat.reduceLT, Nat.reduceEqDiff, ↓reduceIte, reduceCtorEq, Nat.reduceAdd, Int.reduceLT, Int.reduceNeg, yac, hr', yaJ]
theorem ye4 {σ : St} {r rm : Nat} {d : Dk} {fs a b : List Ent} {p : Ent} (h : DiskAt σ r d rm fs) {n : List UInt8} (hr : yaw d n = 0) (hg : Has d fs a b p n) : Does Tryz.prog prims 46 [.optr r 0, .str n] σ (.ret (.tuple [.optr p.2.rf 0, .int .i64 0])) σ := by
 apply k46_is.ret (by simp); have hl : yad Tryz.prog σ.objs 72 (.optr r 0) = some (.omap rm) := (by rw [yab h.hd pGM]; rfl); have hr' : ((yaw d n : Nat) : Int) = 0 := (by omega); simp only [k46_a, WKV, Nat.reduceLT, Nat.reduceEqDiff, ↓reduceIte, reduceCtorEq, Nat.reduceAdd, Int.reduceLT, Int.reduceNeg, yac, gD0, gD1, yaJ]; refine KD.ret (yfq h n) ?_; simp only [k46_a, WKV, Nat.reduceLT, Nat.reduceEqDiff, ↓reduceIte, reduceCtorEq, Nat.reduceAdd, Int.reduceLT, Int.reduceNeg, yac, hr', pFA r 0 (by omega), hl, h.look_yes hg, ybe pTF, yaJ]
theorem yfT {σ : St} {r rm : Nat} {d : Dk} {fs : List Ent} (h : DiskAt σ r d rm fs) (hok : d.Ok) {n : List UInt8} (hz : yao d n = 0) : ∃ a b p, Has d fs a b p n ∧ yaw d n = 0 := by
 unfold yao at hz; split at hz
 · rename_i h1; exact absurd hz h1
 · rename_i h1; have h1 : yaw d n = 0 := Classical.byContradiction h1
   cases hg : yc7 d.files n with
   | none => rw [hg] at hz; cases hz
   | some f =>
     obtain ⟨a, p, b, hA⟩ := h.get_yes hok hg; exact ⟨a, b, p, hA, h1⟩
theorem yoV {σ : St} {r rm : Nat} {d : Dk} {fs : List Ent} (h : DiskAt σ r d rm fs) (hok : d.Ok) (hw : d.writes < 4611686018427387904) :
   ∃ σ', Does Tryz.prog prims 39 [.optr r 0] σ (.ret (.bool (ybj d).1)) σ' ∧ DiskAt σ' r (ybj d).2 rm fs ∧ KS (yay r rm fs) σ σ' ∧ σ'.objs.length = σ.objs.length := by
 have key : ∃ q σ', Does Tryz.prog prims 39 [.optr r 0] σ q σ' ∧ (q = .ret (.bool (ybj d).1) ∧ DiskAt σ' r (ybj d).2 rm fs ∧ KS (yay r rm fs) σ σ' ∧ σ'.objs.length = σ.objs.length) := by
   apply k39_is.does (by simp); have hww : IntKind.i64.wrap ((d.writes : Int) + 1) = ((d.writes + 1 : Nat) : Int) := (by rw [show (d.writes : Int) + 1 = ((d.writes + 1 : Nat) : Int) by omega]; exact ya8 (by omega)); have l1 : yad Tryz.prog σ.objs 3 (.optr r 3) = some (.int .i64 (d.writes : Nat)) := (by rw [yab h.hd G3]; rfl); obtain ⟨d1, hd1⟩ : ∃ d1 : Dk, d1 = { d with writes := d.writes + 1 } := ⟨_, rfl⟩; obtain ⟨s1, hs1⟩ : ∃ s1 : St, s1 = ⟨σ.objs.set r (.cells (ybV rm d1)), σ.toks⟩ := ⟨_, rfl⟩; have st1 : yak Tryz.prog σ 3 (.optr r 3) (.int .i64 ((d.writes + 1 : Nat) : Int)) = some s1 := (by rw [yag h.hd S3 rfl (by simp [ybV]), hs1, hd1]; rfl); obtain ⟨D1, K1⟩ := h.head (d2 := d1) (by rw [hd1]) hs1; have L1 : s1.objs.length = σ.objs.length := (by rw [hs1]; simp); have l2 : yad Tryz.prog s1.objs 3 (.optr r 4) = some (.int .i64 (d.armed : Nat)) := (by rw [yab D1.hd G3, hd1]; rfl); simp only [k39_a, WKV, Nat.reduceLT, Nat.reduceEqDiff, ↓reduceIte, reduceCtorEq, Nat.reduceAdd, Int.reduceLT, Int.reduceNeg, yac, gD0, pFA r 3 (by omega), pFA r 4 (by omega), l1, hww, st1, l2]; by_cases ha : d.armed = 0
   · have ha' : ((d.armed : Nat) : Int) = 0 := (by omega); have e : ybj d = (false, d1) := (by simp [ybj, ha, hd1]); simp only [k39_a, WKV, Nat.reduceLT, Nat.reduceEqDiff, ↓reduceIte, reduceCtorEq, Nat.reduceAdd, Int.reduceLT, Int.reduceNeg, yac, ha', decide_true, e]; exact ⟨D1, K1, L1⟩
   · have ha' : ¬ ((d.armed : Nat) : Int) = 0 := by omega
     have hwa : IntKind.i64.wrap ((d.armed : Int) - 1) = ((d.armed - 1 : Nat) : Int) := by
       have := hok.arm; rw [show (d.armed : Int) - 1 = ((d.armed - 1 : Nat) : Int) by omega]; exact ya8 (by omega)
     obtain ⟨d2, hd2⟩ : ∃ d2 : Dk, d2 = { d with writes := d.writes + 1, armed := d.armed - 1 } := ⟨_, rfl⟩; obtain ⟨s2, hs2⟩ : ∃ s2 : St, s2 = ⟨s1.objs.set r (.cells (ybV rm d2)), s1.toks⟩ := ⟨_, rfl⟩; have st2 : yak Tryz.prog s1 3 (.optr r 4) (.int .i64 ((d.armed - 1 : Nat) : Int)) = some s2 := (by rw [yag D1.hd S3 rfl (by simp [ybV]), hs2, hd1, hd2]; rfl); obtain ⟨D2, K2⟩ := D1.head (d2 := d2) (by rw [hd1, hd2]) hs2; have L2 : s2.objs.length = σ.objs.length := (by rw [hs2]; simp [L1]); have l3 : yad Tryz.prog s2.objs 3 (.optr r 4) = some (.int .i64 ((d.armed - 1 : Nat) : Int)) := (by rw [yab D2.hd G3, hd2]; rfl); have e : ybj d = (decide (d.armed = 1), d2) := (by simp [ybj, ha, hd2]); simp only [k39_a, WKV, Nat.reduceLT, Nat.reduceEqDiff, ↓reduceIte, reduceCtorEq, Nat.reduceAdd, Int.reduceLT, Int.reduceNeg, yac, pFA r 3 (by omega), pFA r 4 (by omega), ha', decide_false, hwa, st2, l3, l2, e]; refine ⟨?_, D2, K1.trans' K2, L2⟩
     congr 2
     by_cases h1 : d.armed = 1
     · simp [h1]
     · have : ¬ ((d.armed - 1 : Nat) : Int) = 0 := (by omega); simp [h1]; omega
 obtain ⟨q, σ', h1, rfl, h2⟩ := key; exact ⟨σ', h1, h2⟩
end Go.Proofs.YtnegdinonfjdfaaGreatDoor.Q
