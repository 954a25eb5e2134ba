/- A part of the proof: Rc, Ta, Ka, Kb, Kc, Kd, Mp, Ke, Kf, Kg. -/
import Derived.Test.YtnegdinonfjdfaaDoorMd4
import Derived.Test.YtnegdinonfjdfaaDoorChecked
import Derived.Test.YtnegdinonfjdfaaDoorMd6
import Derived.Test.YtnegdinonfjdfaaDoorMd5
/- The code of some functions without its ornaments. Written by gen.py. -/
set_option maxRecDepth 100000
namespace Go.Proofs.YtnegdinonfjdfaaDoor.Q
open Go Go.RowKit Go.Proofs
variable {P : Program} {pr : Prim} {N : Nat} {e : Nat → V} {σ : St} {Q : VX → (Nat → V) → St → Prop} {QQ : QD} {SS : QS} {m : Pn}
def k3_r0 : List COp := [o 4 (pO false)]
def k3_r1 : List COp := [o 9 (.call { callee := .value (.func 11), args := #[], argTypes := #[] }),
o 10 (.unOp .not 4 (.tmp 9))]
def k3_r2 : List COp := [o 4 (pO false)]
def k3_r3 : List COp := [o 12 (pM 0),
o 13 (pM 1),
o 14 (pD 12 12 13 3 22),
o 11 (pM 14),
o 15 (pX 11 0),
o 16 (pX 11 1),
o 5 (pA 15),
o 6 (pA 16)]
def k3_r4 : List COp := [o 18 (pM 0),
o 19 (pM 1),
o 20 (pD 13 18 19 3 22),
o 17 (pM 20),
o 21 (pX 17 0),
o 22 (pX 17 1),
o 7 (pA 21),
o 8 (pA 22)]
def k3_r5 : List COp := [o 23 (pM 0),
o 24 (pC 14 23 3),
o 25 (pM 0),
o 26 (pC 15 25 3),
o 27 (pB .eql 9 24 26 9),
o 28 (pM 27),
oT 29 (pM 0) 28,
oT 30 (pM 1) 28,
oT 31 (pD 17 29 30 3 22) 28,
oT 32 (pM 0) 28,
oT 33 (pM 1) 28,
oT 34 (pD 18 32 33 3 22) 28,
oT 35 (pD 16 31 34 22 22) 28,
o 36 (pU 28 35),
o 37 (pM 36),
oT 38 (pM 5) 37,
oT 39 (pM 7) 37,
oT 40 (pD 16 38 39 22 22) 37,
o 41 (pU 37 40),
o 42 (pM 41),
oT 43 (pM 6) 42,
oT 44 (pM 8) 42,
oT 45 (pB .eql 24 43 44 24) 42,
o 46 (pU 42 45),
o 4 (pA 46)]
def k3 : CC := (.seq (.region k3_r0) (.seq (.seq (.region k3_r1) (.cond (.tmp 10) (.seq (.region k3_r2) .ret) .skip)) (.seq (.region k3_r3) (.seq (.region k3_r4) (.seq (.region k3_r5) .ret)))))
def k4_r0 : List COp := [o 6 (pO false)]
def k4_r1 : List COp := [o 13 (.call { callee := .value (.func 11), args := #[], argTypes := #[] }),
o 14 (.unOp .not 4 (.tmp 13))]
def k4_r2 : List COp := [o 6 (pO false)]
def k4_r3 : List COp := [o 15 (pM 1),
o 16 (pN 15 22),
o 17 (pK .gtr 3 16 .i64 4096 3)]
def k4_r4 : List COp := [o 6 (pO true)]
def k4_r5 : List COp := [o 18 (pM 0),
o 19 (pM 1),
o 20 (pD 17 18 19 3 22),
o 7 (pA 20)]
def k4_r6 : List COp := [o 22 (pM 0),
o 23 (pM 7),
o 24 (pD 12 22 23 3 22),
o 21 (pM 24),
o 25 (pX 21 0),
o 26 (pX 21 1),
o 8 (pA 25),
o 9 (pA 26)]
def k4_r7 : List COp := [o 27 (pM 0),
o 28 (pC 14 27 3),
o 29 (.binOp .eql 9 (.tmp 28) (.const (.string { data := #[] })) 9)]
def k4_r8 : List COp := [o 30 (pM 9),
o 31 (pK .eql 24 30 .i64 11 24),
o 6 (pA 31)]
def k4_r9 : List COp := [o 32 (pM 9),
o 33 (pK .neq 24 32 .i64 0 24),
o 34 (pM 33),
oF 35 (pM 8) 34,
oF 36 (pM 1) 34,
oF 37 (pD 16 35 36 22 22) 34,
oF 38 (.unOp .not 4 (.tmp 37)) 34,
o 39 (pV 34 38)]
def k4_r10 : List COp := [o 6 (pO false)]
def k4_r11 : List COp := [o 10 (pZ .i64 0)]
def k4_r12 : List COp := [o 40 (pM 10),
o 41 (pM 7),
o 42 (pN 41 22),
o 43 (pB .lss 3 40 42 3)]
def k4_r14 : List COp := [o 47 (pM 0),
o 48 (pM 7),
o 49 (pM 10),
o 50 (.slice 22 (.tmp 48) .none (some (.tmp 49)) .none),
o 51 (pD 12 47 50 3 22),
o 46 (pM 51),
o 52 (pX 46 0),
o 53 (pX 46 1),
o 9 (pA 53)]
def k4_r15 : List COp := [o 54 (pM 9),
o 55 (pK .neq 24 54 .i64 10 24)]
def k4_r16 : List COp := [o 6 (pO false)]
def k4_r13 : List COp := [o 44 (pM 10),
o 45 (pK .add 3 44 .i64 1 3),
o 10 (pA 45)]
def k4_l0 : CC := (.seq (.seq (.region k4_r12) (.cond (.tmp 43) .skip (.exit 0))) (.seq (.block 1 (.seq (.region k4_r14) (.seq (.region k4_r15) (.cond (.tmp 55) (.seq (.region k4_r16) .ret) .skip)))) (.region k4_r13)))
def k4_r17 : List COp := [o 57 (pM 0),
o 58 (.buildSlice 22 0 #[]),
o 59 (pM 7),
o 60 (pQ 58 59 22 22),
o 61 (.buildSlice 22 1 #[(0, .const (.int .u8 0))]),
o 62 (pQ 60 61 22 22),
o 63 (pD 12 57 62 3 22),
o 56 (pM 63),
o 64 (pX 56 0),
o 65 (pX 56 1),
o 9 (pA 65)]
def k4_r18 : List COp := [o 67 (pM 2),
o 68 (pM 7),
o 69 (pD 12 67 68 3 22),
o 66 (pM 69),
o 70 (pX 66 0),
o 71 (pX 66 1),
o 11 (pA 70),
o 12 (pA 71)]
def k4_r19 : List COp := [o 72 (pM 9),
o 73 (pK .eql 24 72 .i64 11 24),
o 74 (pM 73),
oT 75 (pM 12) 74,
oT 76 (pK .eql 24 75 .i64 0 24) 74,
oT 77 (pM 2) 74,
oT 78 (pM 0) 74,
oT 79 (pB .eql 3 77 78 3) 74,
oT 80 (pB .eql 4 76 79 4) 74,
o 81 (pU 74 80),
o 6 (pA 81)]
def k4 : CC := (.seq (.region k4_r0) (.seq (.seq (.region k4_r1) (.cond (.tmp 14) (.seq (.region k4_r2) .ret) .skip)) (.seq (.seq (.region k4_r3) (.cond (.tmp 17) (.seq (.region k4_r4) .ret) .skip)) (.seq (.region k4_r5) (.seq (.region k4_r6) (.seq (.seq (.region k4_r7) (.cond (.tmp 29) (.seq (.region k4_r8) .ret) .skip)) (.seq (.seq (.region k4_r9) (.cond (.tmp 39) (.seq (.region k4_r10) .ret) .skip)) (.seq (.seq (.region k4_r11) (.block 0 (.loop k4_l0))) (.seq (.region k4_r17) (.seq (.region k4_r18) (.seq (.region k4_r19) .ret)))))))))))
def k6_r0 : List COp := [o 1 (.box 40 (.tmp 0)),
o 2 (pO false)]
def k6_r1 : List COp := [o 18 (.call { callee := .value (.func 11), args := #[], argTypes := #[] }),
o 19 (.unOp .not 4 (.tmp 18))]
def k6_r2 : List COp := [o 2 (pO false)]
def k6_r3 : List COp := [o 3 (pZ .i64 0)]
def k6_r4 : List COp := [o 20 (pF 40 1 0),
o 21 (pL 37 20),
o 22 (pN 21 37),
o 23 (pW .i64 0)]
def k6_r5 : List COp := [o 24 (pB .lss 3 23 22 3)]
def k6_r6 : List COp := [o 25 (pI 37 21 23),
o 26 (pL 22 25),
o 5 (pA 26)]
def k6_r7 : List COp := [o 27 (pM 3),
o 28 (pM 5),
o 29 (pN 28 22),
o 30 (pB .add 3 27 29 3),
o 3 (pA 30)]
def k6_r8 : List COp := [o 31 (pM 3),
o 32 (pK .gtr 3 31 .i64 262144 3)]
def k6_r9 : List COp := [o 2 (pO true)]
def k6_r10 : List COp := [o 33 (pK .add 3 23 .i64 1 3),
o 23 (pM 33)]
def k6_l0 : CC := (.seq (.region k6_r5) (.seq (.cond (.tmp 24) .skip (.exit 0)) (.seq (.block 1 (.seq (.region k6_r6) (.seq (.region k6_r7) (.seq (.region k6_r8) (.cond (.tmp 32) (.seq (.region k6_r9) .ret) .skip))))) (.region k6_r10))))
def k6_r11 : List COp := [o 34 (pF 40 1 0),
o 35 (pL 37 34),
o 36 (pN 35 37),
o 37 (pK .gtr 3 36 .i64 256 3)]
def k6_r12 : List COp := [o 2 (pO true)]
def k6_r13 : List COp := [o 38 (.call { callee := .value (.func 19), args := #[.const (.int .i64 2097152)], argTypes := #[3] }),
o 6 (pA 38)]
def k6_r14 : List COp := [o 39 (pM 6),
o 40 (pF 40 1 2),
o 41 (pL 3 40),
o 42 (pF 40 1 3),
o 43 (pL 3 42),
o 44 (.call { callee := .value (.func 22), args := #[.tmp 39, .tmp 41, .tmp 43], argTypes := #[32, 3, 3] })]
def k6_r15 : List COp := [o 7 (pZ .i64 0)]
def k6_r16 : List COp := [o 8 (pZ .i64 (-1)),
o 9 (.assign (.const (.slice .none 0 0)))]
def k6_r17 : List COp := [o 10 (pZ .i64 (-1)),
o 11 (.assign (.const (.slice .none 0 0)))]
def k6_r18 : List COp := [o 45 (pF 40 1 0),
o 46 (pL 37 45),
o 47 (pN 46 37),
o 48 (pW .i64 0)]
def k6_r19 : List COp := [o 49 (pB .lss 3 48 47 3)]
def k6_r20 : List COp := [o 50 (pM 48),
o 51 (pI 37 46 48),
o 52 (pL 22 51),
o 12 (pA 50),
o 13 (pA 52)]
def k6_r21 : List COp := [o 53 (pM 12),
o 54 (pF 40 1 1),
o 55 (pL 38 54),
o 56 (pN 55 38),
o 57 (pB .lss 3 53 56 3)]
def k6_r22 : List COp := [o 58 (pM 7),
o 59 (pF 40 1 1),
o 60 (pL 38 59),
o 61 (pM 12),
o 62 (pI 38 60 61),
o 63 (pL 3 62),
o 64 (pK .and 3 63 .i64 255 3),
o 65 (.binOp .add 3 (.const (.int .i64 1)) (.tmp 64) 3),
o 66 (pB .add 3 58 65 3),
o 7 (pA 66)]
def k6_r23 : List COp := [o 67 (pM 7),
o 68 (pK .add 3 67 .i64 1 3),
o 7 (pA 68)]
def k6_r24 : List COp := [o 69 (pM 7),
o 70 (pM 13),
o 10 (pA 69),
o 11 (pA 70)]
def k6_r25 : List COp := [o 71 (pM 6),
o 72 (pM 7),
o 73 (pM 13),
o 74 (.call { callee := .value (.func 20), args := #[.tmp 71, .tmp 72, .tmp 73], argTypes := #[32, 3, 22] }),
o 14 (pA 74)]
def k6_r26 : List COp := [o 75 (pM 14),
o 76 (pK .neq 24 75 .i64 0 24)]
def k6_r27 : List COp := [o 77 (pM 14),
o 78 (pK .neq 24 77 .i64 20 24),
o 79 (pM 78),
oF 80 (pM 6) 79,
oF 81 (pC 23 80 32) 79,
oF 82 (.unOp .not 4 (.tmp 81)) 79,
o 83 (pV 79 82)]
def k6_r28 : List COp := [o 2 (pO false)]
def k6_r29 : List COp := [o 84 (pM 7),
o 85 (pM 13),
o 8 (pA 84),
o 9 (pA 85)]
def k6_r30 : List COp := [o 86 (pK .add 3 48 .i64 1 3),
o 48 (pM 86)]
def k6_l1 : CC := (.seq (.region k6_r19) (.seq (.cond (.tmp 49) .skip (.exit 2)) (.seq (.block 3 (.seq (.region k6_r20) (.seq (.seq (.region k6_r21) (.cond (.tmp 57) (.region k6_r22) (.region k6_r23))) (.seq (.region k6_r24) (.seq (.region k6_r25) (.seq (.seq (.region k6_r26) (.cond (.tmp 76) (.seq (.seq (.region k6_r27) (.cond (.tmp 83) (.seq (.region k6_r28) .ret) .skip)) (.exit 2)) .skip)) (.region k6_r29))))))) (.region k6_r30))))
def k6_r31 : List COp := [o 87 (pM 6),
o 88 (pC 23 87 32),
o 89 (.unOp .not 4 (.tmp 88))]
def k6_r32 : List COp := [o 90 (pM 6),
o 91 (pF 40 1 3),
o 92 (pL 3 91),
o 93 (pD 24 90 92 32 3)]
def k6_r33 : List COp := [o 94 (pM 6),
o 95 (pC 25 94 32)]
def k6_r34 : List COp := [o 96 (pM 6),
o 97 (.call { callee := .value (.func 22), args := #[.tmp 96, .const (.int .i64 0), .const (.int .i64 0)], argTypes := #[32, 3, 3] })]
def k6_r35 : List COp := [o 99 (pM 6),
o 100 (pC 21 99 32),
o 98 (pM 100),
o 101 (pX 98 0),
o 102 (pX 98 1),
o 103 (pX 98 2),
o 15 (pA 101),
o 16 (pA 102),
o 17 (pA 103)]
def k6_r36 : List COp := [o 104 (pM 17),
o 105 (pK .neq 24 104 .i64 0 24)]
def k6_r37 : List COp := [o 2 (pO false)]
def k6_r38 : List COp := [o 106 (pM 15),
o 107 (pM 8),
o 108 (pB .neq 3 106 107 3),
o 109 (pM 108),
oT 110 (pM 15) 109,
oT 111 (pM 10) 109,
oT 112 (pB .neq 3 110 111 3) 109,
o 113 (pU 109 112),
o 114 (pM 113),
oF 115 (pM 15) 114,
oF 116 (pM 8) 114,
oF 117 (pB .eql 3 115 116 3) 114,
oF 118 (pM 117) 114,
oT 119 (pM 16) 118,
oT 120 (pM 9) 118,
oT 121 (pD 16 119 120 22 22) 118,
oT 122 (.unOp .not 4 (.tmp 121)) 118,
oF 123 (pU 118 122) 114,
o 124 (pV 114 123),
o 125 (pM 124),
oF 126 (pM 15) 125,
oF 127 (pM 8) 125,
oF 128 (pB .neq 3 126 127 3) 125,
oF 129 (pM 128) 125,
oT 130 (pM 16) 129,
oT 131 (pM 11) 129,
oT 132 (pD 16 130 131 22 22) 129,
oT 133 (.unOp .not 4 (.tmp 132)) 129,
oF 134 (pU 129 133) 125,
o 135 (pV 125 134)]
def k6_r39 : List COp := [o 2 (pO false)]
def k6_r40 : CC := (.hreg [
(false, o 136 (pM 6)),
(false, o 137 (pM 7)),
(false, o 138 (pK .add 3 137 .i64 1 3)),
(true, o 139 (.buildSlice 22 1 #[(0, .const (.int .u8 122))])),
(true, o 140 (.convert 22 22 (.tmp 139))),
(false, o 141 (.call { callee := .value (.func 20), args := #[.tmp 136, .tmp 138, .tmp 140], argTypes := #[32, 3, 22] })),
(false, o 142 (pK .neq 24 141 .i64 0 24))])
def k6_r41 : List COp := [o 2 (pO false)]
def k6_r42 : List COp := [o 144 (pM 6),
o 145 (pC 21 144 32),
o 143 (pM 145),
o 146 (pX 143 0),
o 147 (pX 143 1),
o 148 (pX 143 2),
o 15 (pA 146),
o 16 (pA 147),
o 17 (pA 148)]
def k6_r43 : List COp := [o 149 (pM 15),
o 150 (pM 7),
o 151 (pK .add 3 150 .i64 1 3),
o 152 (pB .eql 3 149 151 3),
o 153 (pM 152),
oT 154 (pM 16) 153,
oT 155 (.convert 22 9 (.tmp 154)) 153,
oT 156 (.binOp .eql 9 (.tmp 155) (.const (.string { data := #[122] })) 9) 153,
o 157 (pU 153 156),
o 158 (pM 157),
oT 159 (pM 17) 158,
oT 160 (pK .eql 24 159 .i64 0 24) 158,
o 161 (pU 158 160),
o 162 (pM 161),
oT 163 (pM 6) 162,
oT 164 (pC 26 163 32) 162,
oT 165 (pN 164 43) 162,
oT 166 (pK .eql 3 165 .i64 1 3) 162,
o 167 (pU 162 166),
o 2 (pA 167)]
def k6 : CC := (.seq (.region k6_r0) (.seq (.seq (.region k6_r1) (.cond (.tmp 19) (.seq (.region k6_r2) .ret) .skip)) (.seq (.region k6_r3) (.seq (.seq (.region k6_r4) (.block 0 (.loop k6_l0))) (.seq (.seq (.region k6_r11) (.cond (.tmp 37) (.seq (.region k6_r12) .ret) .skip)) (.seq (.region k6_r13) (.seq (.region k6_r14) (.seq (.region k6_r15) (.seq (.region k6_r16) (.seq (.region k6_r17) (.seq (.seq (.region k6_r18) (.block 2 (.loop k6_l1))) (.seq (.seq (.region k6_r31) (.cond (.tmp 89) (.region k6_r32) .skip)) (.seq (.region k6_r33) (.seq (.region k6_r34) (.seq (.region k6_r35) (.seq (.seq (.region k6_r36) (.cond (.tmp 105) (.seq (.region k6_r37) .ret) .skip)) (.seq (.seq (.region k6_r38) (.cond (.tmp 135) (.seq (.region k6_r39) .ret) .skip)) (.seq (.seq k6_r40 (.cond (.tmp 142) (.seq (.region k6_r41) .ret) .skip)) (.seq (.region k6_r42) (.seq (.region k6_r43) .ret))))))))))))))))))))
def k7_r0 : List COp := [o 4 (pO false)]
def k7_r1 : List COp := [o 13 (.call { callee := .value (.func 27), args := #[], argTypes := #[] }),
o 14 (.unOp .not 4 (.tmp 13))]
def k7_r2 : List COp := [o 4 (pO false)]
def k7_r3 : List COp := [o 16 (pM 1),
o 17 (pC 28 16 22),
o 15 (pM 17),
o 18 (pX 15 0),
o 19 (pX 15 1),
o 5 (pA 18),
o 6 (pA 19)]
def k7_r4 : List COp := [o 21 (pM 1),
o 22 (pC 29 21 22),
o 20 (pM 22),
o 23 (pX 20 0),
o 24 (pX 20 1),
o 7 (pA 23),
o 8 (pA 24)]
def k7_r5 : List COp := [o 26 (pM 1),
o 27 (pC 30 26 22),
o 25 (pM 27),
o 28 (pX 25 0),
o 29 (pX 25 1),
o 9 (pA 28),
o 10 (pA 29)]
def k7_r6 : List COp := [o 31 (pM 1),
o 32 (pC 31 31 22),
o 30 (pM 32),
o 33 (pX 30 0),
o 34 (pX 30 1),
o 11 (pA 33),
o 12 (pA 34)]
def k7_r7 : List COp := [o 35 (pM 0),
o 36 (pC 32 35 3),
o 37 (pM 0),
o 38 (pC 33 37 3),
o 39 (pB .eql 9 36 38 9),
o 40 (pM 39),
oT 41 (pM 6) 40,
oT 42 (pM 8) 40,
oT 43 (pB .eql 24 41 42 24) 40,
o 44 (pU 40 43),
o 45 (pM 44),
oT 46 (pM 5) 45,
oT 47 (pM 7) 45,
oT 48 (pD 34 46 47 22 22) 45,
o 49 (pU 45 48),
o 50 (pM 49),
oT 51 (pM 9) 50,
oT 52 (pM 11) 50,
oT 53 (pD 35 51 52 37 37) 50,
o 54 (pU 50 53),
o 55 (pM 54),
oT 56 (pM 10) 55,
oT 57 (pM 12) 55,
oT 58 (pB .eql 3 56 57 3) 55,
o 59 (pU 55 58),
o 4 (pA 59)]
def k7 : CC := (.seq (.region k7_r0) (.seq (.seq (.region k7_r1) (.cond (.tmp 14) (.seq (.region k7_r2) .ret) .skip)) (.seq (.region k7_r3) (.seq (.region k7_r4) (.seq (.region k7_r5) (.seq (.region k7_r6) (.seq (.region k7_r7) .ret)))))))
def k8_r0 : List COp := [o 6 (pO false)]
def k8_r1 : List COp := [o 22 (.call { callee := .value (.func 27), args := #[], argTypes := #[] }),
o 23 (.unOp .not 4 (.tmp 22))]
def k8_r2 : List COp := [o 6 (pO false)]
def k8_r3 : List COp := [o 24 (pM 1),
o 25 (pK .lss 3 24 .i64 1 3),
o 26 (pM 25),
oF 27 (pM 0) 26,
oF 28 (pN 27 37) 26,
oF 29 (pM 1) 26,
oF 30 (.binOp .mul 3 (.const (.int .i64 14)) (.tmp 29) 3) 26,
oF 31 (pB .gtr 3 28 30 3) 26,
oF 32 (pM 31) 26,
oT 33 (pM 1) 32,
oT 34 (pK .lss 3 33 .i64 1048576 3) 32,
oF 35 (pU 32 34) 26,
o 36 (pV 26 35),
o 37 (pM 36),
oF 38 (pM 0) 37,
oF 39 (pN 38 37) 37,
oF 40 (pK .gtr 3 39 .i64 200 3) 37,
o 41 (pV 37 40)]
def k8_r4 : List COp := [o 6 (pO true)]
def k8_r5 : List COp := [o 42 (.call { callee := .value (.func 19), args := #[.const (.int .i64 1048576)], argTypes := #[3] }),
o 7 (pA 42)]
def k8_r6 : List COp := [o 44 (pM 7),
o 45 (pM 1),
o 46 (pD 36 44 45 32 3),
o 43 (pM 46),
o 47 (pX 43 0),
o 48 (pX 43 1),
o 49 (pX 43 2),
o 50 (pX 43 3),
o 8 (pA 47),
o 9 (pA 48),
o 10 (pA 49),
o 11 (pA 50)]
def k8_r7 : List COp := [o 51 (pM 11),
o 52 (pK .neq 24 51 .i64 0 24)]
def k8_r8 : List COp := [o 6 (pO false)]
def k8_r9 : List COp := [o 12 (.assign (.const (.slice .none 0 0)))]
def k8_r10 : List COp := [o 53 (pM 0),
o 54 (pN 53 37),
o 55 (pW .i64 0)]
def k8_r11 : List COp := [o 56 (pB .lss 3 55 54 3)]
def k8_r12 : List COp := [o 57 (pM 55),
o 58 (pI 37 53 55),
o 59 (pL 22 58),
o 13 (pA 57),
o 14 (pA 59)]
def k8_r13 : List COp := [o 60 (pM 14),
o 61 (pN 60 22),
o 62 (pK .gtr 3 61 .i64 1024 3)]
def k8_r14 : List COp := [o 6 (pO true)]
def k8_r15 : List COp := [o 63 (pM 13),
o 64 (pM 2),
o 65 (pN 64 38),
o 66 (pB .lss 3 63 65 3)]
def k8_r16 : List COp := [o 67 (pM 7),
o 68 (pM 2),
o 69 (pM 13),
o 70 (pI 38 68 69),
o 71 (pL 3 70),
o 72 (pD 37 67 71 32 3)]
def k8_r17 : List COp := [o 74 (pM 8),
o 75 (pM 14),
o 76 (pD 38 74 75 50 22),
o 73 (pM 76),
o 77 (pX 73 0),
o 78 (pX 73 1),
o 15 (pA 77),
o 16 (pA 78)]
def k8_r18 : List COp := [o 79 (pM 16),
o 80 (pK .neq 24 79 .i64 0 24),
o 81 (pM 80),
oT 82 (pM 16) 81,
oT 83 (pK .neq 24 82 .i64 22 24) 81,
o 84 (pU 81 83)]
def k8_r19 : List COp := [o 6 (pO false)]
def k8_r20 : List COp := [o 85 (pM 16),
o 86 (pK .eql 24 85 .i64 0 24)]
def k8_r21 : List COp := [o 87 (pM 12),
o 88 (pM 14),
o 89 (.buildSlice 37 1 #[(0, .tmp 88)]),
o 90 (pQ 87 89 37 37),
o 12 (pA 90)]
def k8_r22 : List COp := [o 91 (pM 15),
o 92 (pM 12),
o 93 (pN 92 37),
o 94 (pB .neq 3 91 93 3)]
def k8_r23 : List COp := [o 6 (pO false)]
def k8_r24 : List COp := [o 95 (pK .add 3 55 .i64 1 3),
o 55 (pM 95)]
def k8_l0 : CC := (.seq (.region k8_r11) (.seq (.cond (.tmp 56) .skip (.exit 0)) (.seq (.block 1 (.seq (.region k8_r12) (.seq (.seq (.region k8_r13) (.cond (.tmp 62) (.seq (.region k8_r14) .ret) .skip)) (.seq (.seq (.region k8_r15) (.cond (.tmp 66) (.region k8_r16) .skip)) (.seq (.region k8_r17) (.seq (.seq (.region k8_r18) (.cond (.tmp 84) (.seq (.region k8_r19) .ret) .skip)) (.seq (.region k8_r20) (.cond (.tmp 86) (.seq (.region k8_r21) (.seq (.region k8_r22) (.cond (.tmp 94) (.seq (.region k8_r23) .ret) .skip))) .skip)))))))) (.region k8_r24))))
def k8_r25 : List COp := [o 96 (pM 7),
o 97 (.call { callee := .value (.func 37), args := #[.tmp 96, .const (.int .i64 1048576)], argTypes := #[32, 3] })]
def k8_r26 : CC := (.hreg [
(false, o 99 (pM 8)),
(true, o 100 (.buildSlice 22 4 #[(0, .const (.int .u8 108)), (1, .const (.int .u8 97)), (2, .const (.int .u8 115)), (3, .const (.int .u8 116))])),
(true, o 101 (.convert 22 22 (.tmp 100))),
(false, o 102 (pD 38 99 101 50 22)),
(false, o 98 (pM 102)),
(false, o 103 (pX 98 0)),
(false, o 104 (pX 98 1)),
(false, o 17 (pA 103)),
(false, o 11 (pA 104))])
def k8_r27 : List COp := [o 106 (pM 7),
o 107 (pM 1),
o 108 (pD 36 106 107 32 3),
o 105 (pM 108),
o 109 (pX 105 0),
o 110 (pX 105 1),
o 111 (pX 105 2),
o 112 (pX 105 3),
o 18 (pA 109),
o 19 (pA 110),
o 20 (pA 111),
o 21 (pA 112)]
def k8_r28 : List COp := [o 113 (pM 11),
o 114 (pK .eql 24 113 .i64 0 24),
o 115 (pM 114),
oT 116 (pM 17) 115,
oT 117 (pM 12) 115,
oT 118 (pN 117 37) 115,
oT 119 (pK .add 3 118 .i64 1 3) 115,
oT 120 (pB .eql 3 116 119 3) 115,
o 121 (pU 115 120),
o 122 (pM 121),
oT 123 (pM 21) 122,
oT 124 (pK .eql 24 123 .i64 0 24) 122,
o 125 (pU 122 124),
o 126 (pM 125),
oT 127 (pM 20) 126,
oT 128 (pK .eql 3 127 .i64 1 3) 126,
o 129 (pU 126 128),
o 130 (pM 129),
oT 131 (pM 19) 130,
oT 132 (pN 131 37) 130,
oT 133 (pM 17) 130,
oT 134 (pB .eql 3 132 133 3) 130,
o 135 (pU 130 134),
o 136 (pM 135),
oT 137 (pM 19) 136,
oT 138 (pM 17) 136,
oT 139 (pK .sub 3 138 .i64 1 3) 136,
oT 140 (.slice 37 (.tmp 137) .none (some (.tmp 139)) .none) 136,
oT 141 (pM 12) 136,
oT 142 (pD 35 140 141 37 37) 136,
o 143 (pU 136 142),
o 144 (pM 143),
oT 145 (pM 19) 144,
oT 146 (pM 17) 144,
oT 147 (pK .sub 3 146 .i64 1 3) 144,
oT 148 (pI 37 145 147) 144,
oT 149 (pL 22 148) 144,
oT 150 (.convert 22 9 (.tmp 149)) 144,
oT 151 (.binOp .eql 9 (.tmp 150) (.const (.string { data := #[108, 97, 115, 116] })) 9) 144,
o 152 (pU 144 151),
o 6 (pA 152)]
def k8 : CC := (.seq (.region k8_r0) (.seq (.seq (.region k8_r1) (.cond (.tmp 23) (.seq (.region k8_r2) .ret) .skip)) (.seq (.seq (.region k8_r3) (.cond (.tmp 41) (.seq (.region k8_r4) .ret) .skip)) (.seq (.region k8_r5) (.seq (.region k8_r6) (.seq (.seq (.region k8_r7) (.cond (.tmp 52) (.seq (.region k8_r8) .ret) .skip)) (.seq (.region k8_r9) (.seq (.seq (.region k8_r10) (.block 0 (.loop k8_l0))) (.seq (.region k8_r25) (.seq k8_r26 (.seq (.region k8_r27) (.seq (.region k8_r28) .ret))))))))))))
def k10_r0 : List COp := [o 6 (pO false)]
def k10_r1 : List COp := [o 21 (.call { callee := .value (.func 27), args := #[], argTypes := #[] }),
o 22 (.unOp .not 4 (.tmp 21))]
def k10_r2 : List COp := [o 6 (pO false)]
def k10_r3 : List COp := [o 23 (pM 0),
o 24 (pK .and 3 23 .i64 63 3),
o 0 (pA 24)]
def k10_r4 : List COp := [o 25 (pM 1),
o 26 (pK .lss 3 25 .i64 1 3),
o 27 (pM 26),
oF 28 (pM 0) 27,
oF 29 (pM 1) 27,
oF 30 (.binOp .mul 3 (.const (.int .i64 15)) (.tmp 29) 3) 27,
oF 31 (pB .gtr 3 28 30 3) 27,
oF 32 (pM 31) 27,
oT 33 (pM 1) 32,
oT 34 (pK .lss 3 33 .i64 64 3) 32,
oF 35 (pU 32 34) 27,
o 36 (pV 27 35)]
def k10_r5 : List COp := [o 6 (pO true)]
def k10_r6 : List COp := [o 37 (.call { callee := .value (.func 19), args := #[.const (.int .i64 1048576)], argTypes := #[3] }),
o 7 (pA 37)]
def k10_r7 : List COp := [o 39 (pM 7),
o 40 (pM 1),
o 41 (pD 36 39 40 32 3),
o 38 (pM 41),
o 42 (pX 38 0),
o 43 (pX 38 1),
o 44 (pX 38 2),
o 45 (pX 38 3),
o 8 (pA 42),
o 9 (pA 43),
o 10 (pA 44),
o 11 (pA 45)]
def k10_r8 : List COp := [o 46 (pM 11),
o 47 (pK .neq 24 46 .i64 0 24)]
def k10_r9 : List COp := [o 6 (pO false)]
def k10_r10 : List COp := [o 12 (pZ .i64 1)]
def k10_r11 : List COp := [o 48 (pM 12),
o 49 (pM 0),
o 50 (pB .leq 3 48 49 3)]
def k10_r13 : List COp := [o 54 (pM 8),
o 55 (pM 12),
o 56 (.convert 3 5 (.tmp 55)),
o 57 (.buildSlice 22 1 #[(0, .tmp 56)]),
o 58 (pD 38 54 57 50 22),
o 53 (pM 58),
o 59 (pX 53 0),
o 60 (pX 53 1),
o 13 (pA 59),
o 14 (pA 60)]
def k10_r14 : List COp := [o 61 (pM 13),
o 62 (pM 12),
o 63 (pB .neq 3 61 62 3),
o 64 (pM 63),
oF 65 (pM 14) 64,
oF 66 (pK .neq 24 65 .i64 0 24) 64,
o 67 (pV 64 66)]
def k10_r15 : List COp := [o 6 (pO false)]
def k10_r12 : List COp := [o 51 (pM 12),
o 52 (pK .add 3 51 .i64 1 3),
o 12 (pA 52)]
def k10_l0 : CC := (.seq (.seq (.region k10_r11) (.cond (.tmp 50) .skip (.exit 0))) (.seq (.block 1 (.seq (.region k10_r13) (.seq (.region k10_r14) (.cond (.tmp 67) (.seq (.region k10_r15) .ret) .skip)))) (.region k10_r12)))
def k10_r16 : List COp := [o 69 (pM 8),
o 70 (pM 2),
o 71 (pD 39 69 70 50 3),
o 68 (pM 71),
o 72 (pX 68 0),
o 73 (pX 68 1),
o 15 (pA 72),
o 11 (pA 73)]
def k10_r17 : List COp := [o 74 (pM 11),
o 75 (pK .neq 24 74 .i64 0 24)]
def k10_r18 : List COp := [o 6 (pO false)]
def k10_r19 : List COp := [o 77 (pM 7),
o 78 (pM 1),
o 79 (pD 36 77 78 32 3),
o 76 (pM 79),
o 80 (pX 76 0),
o 81 (pX 76 1),
o 82 (pX 76 2),
o 83 (pX 76 3),
o 16 (pA 80),
o 17 (pA 81),
o 18 (pA 82),
o 11 (pA 83)]
def k10_r20 : List COp := [o 84 (pM 11),
o 85 (pK .neq 24 84 .i64 0 24),
o 86 (pM 85),
oF 87 (pM 17) 86,
oF 88 (pN 87 37) 86,
oF 89 (pM 0) 86,
oF 90 (pM 18) 86,
oF 91 (pB .sub 3 89 90 3) 86,
oF 92 (pK .add 3 91 .i64 1 3) 86,
oF 93 (pB .neq 3 88 92 3) 86,
o 94 (pV 86 93),
o 95 (pM 94),
oF 96 (pM 0) 95,
oF 97 (pK .gtr 3 96 .i64 0 3) 95,
oF 98 (pM 97) 95,
oT 99 (pM 18) 98,
oT 100 (pM 2) 98,
oT 101 (.call { callee := .builtin .max, args := #[.tmp 100, .const (.int .i64 1)], argTypes := #[3, 3] }) 98,
oT 102 (pB .gtr 3 99 101 3) 98,
oF 103 (pU 98 102) 95,
o 104 (pV 95 103),
o 105 (pM 104),
oF 106 (pM 15) 105,
oF 107 (pK .eql 3 106 .i64 0 3) 105,
oF 108 (pM 107) 105,
oT 109 (pM 18) 108,
oT 110 (pK .neq 3 109 .i64 1 3) 108,
oF 111 (pU 108 110) 105,
o 112 (pV 105 111)]
def k10_r21 : List COp := [o 6 (pO false)]
def k10_r22 : List COp := [o 113 (pM 0),
o 114 (pK .gtr 3 113 .i64 0 3),
o 115 (pM 114),
oT 116 (pM 18) 115,
oT 117 (pK .sub 3 116 .i64 1 3) 115,
oT 118 (pM 15) 115,
oT 119 (pM 1) 115,
oT 120 (pB .mul 3 118 119 3) 115,
oT 121 (pB .neq 3 117 120 3) 115,
oT 122 (pM 121) 115,
oF 123 (pM 2) 122,
oF 124 (pM 0) 122,
oF 125 (pB .lss 3 123 124 3) 122,
oF 126 (pM 125) 122,
oT 127 (pM 2) 126,
oT 128 (pK .geq 3 127 .i64 1 3) 126,
oF 129 (pU 126 128) 122,
oF 130 (pM 129) 122,
oT 131 (pM 1) 130,
oT 132 (pM 2) 130,
oT 133 (pM 18) 130,
oT 134 (pB .sub 3 132 133 3) 130,
oT 135 (pB .leq 3 131 134 3) 130,
oF 136 (pU 130 135) 122,
oT 137 (pV 122 136) 115,
o 138 (pU 115 137)]
def k10_r23 : List COp := [o 6 (pO false)]
def k10_r24 : List COp := [o 139 (pM 17),
o 140 (pN 139 37),
o 141 (pW .i64 0)]
def k10_r25 : List COp := [o 142 (pB .lss 3 141 140 3)]
def k10_r26 : List COp := [o 143 (pM 141),
o 144 (pI 37 139 141),
o 145 (pL 22 144),
o 19 (pA 143),
o 20 (pA 145)]
def k10_r27 : List COp := [o 146 (pM 20),
o 147 (pN 146 22),
o 148 (pK .neq 3 147 .i64 1 3),
o 149 (pM 148),
oF 150 (pM 20) 149,
oF 151 (.indexAddr 22 (.tmp 150) (.const (.int .i64 0))) 149,
oF 152 (pL 5 151) 149,
oF 153 (pM 18) 149,
oF 154 (pM 19) 149,
oF 155 (pB .add 3 153 154 3) 149,
oF 156 (.convert 3 5 (.tmp 155)) 149,
oF 157 (pB .neq 5 152 156 5) 149,
o 158 (pV 149 157)]
def k10_r28 : List COp := [o 6 (pO false)]
def k10_r29 : List COp := [o 159 (pK .add 3 141 .i64 1 3),
o 141 (pM 159)]
def k10_l1 : CC := (.seq (.region k10_r25) (.seq (.cond (.tmp 142) .skip (.exit 2)) (.seq (.block 3 (.seq (.region k10_r26) (.seq (.region k10_r27) (.cond (.tmp 158) (.seq (.region k10_r28) .ret) .skip)))) (.region k10_r29))))
def k10_r30 : List COp := [o 6 (pO true)]
def k10 : CC := (.seq (.region k10_r0) (.seq (.seq (.region k10_r1) (.cond (.tmp 22) (.seq (.region k10_r2) .ret) .skip)) (.seq (.region k10_r3) (.seq (.seq (.region k10_r4) (.cond (.tmp 36) (.seq (.region k10_r5) .ret) .skip)) (.seq (.region k10_r6) (.seq (.region k10_r7) (.seq (.seq (.region k10_r8) (.cond (.tmp 47) (.seq (.region k10_r9) .ret) .skip)) (.seq (.seq (.region k10_r10) (.block 0 (.loop k10_l0))) (.seq (.region k10_r16) (.seq (.seq (.region k10_r17) (.cond (.tmp 75) (.seq (.region k10_r18) .ret) .skip)) (.seq (.region k10_r19) (.seq (.seq (.region k10_r20) (.cond (.tmp 112) (.seq (.region k10_r21) .ret) .skip)) (.seq (.seq (.region k10_r22) (.cond (.tmp 138) (.seq (.region k10_r23) .ret) .skip)) (.seq (.seq (.region k10_r24) (.block 2 (.loop k10_l1))) (.seq (.region k10_r30) .ret)))))))))))))))
def k10_p := PLift.up <| aI (vE k10.eq_1) <| aI (oE k10_r0.eq_1) <| aI (oE k10_r1.eq_1) <| aI (oE k10_r2.eq_1) <| aI (oE k10_r3.eq_1) <| aI (oE k10_r4.eq_1) <| aI (oE k10_r5.eq_1) <| aI (oE k10_r6.eq_1) <| aI (oE k10_r7.eq_1) <| aI (oE k10_r8.eq_1) <| aI (oE k10_r9.eq_1) <| aI (oE k10_r10.eq_1) <| aI (oE k10_r11.eq_1) <| aI (oE k10_r13.eq_1) <| aI (oE k10_r14.eq_1) <| aI (oE k10_r15.eq_1) <| aI (oE k10_r12.eq_1) <| aI (vE k10_l0.eq_1) <| aI (oE k10_r16.eq_1) <| aI (oE k10_r17.eq_1) <| aI (oE k10_r18.eq_1) <| aI (oE k10_r19.eq_1) <| aI (oE k10_r20.eq_1) <| aI (oE k10_r21.eq_1) <| aI (oE k10_r22.eq_1) <| aI (oE k10_r23.eq_1) <| aI (oE k10_r24.eq_1) <| aI (oE k10_r25.eq_1) <| aI (oE k10_r26.eq_1) <| aI (oE k10_r27.eq_1) <| aI (oE k10_r28.eq_1) <| aI (oE k10_r29.eq_1) <| aI (vE k10_l1.eq_1) (oE k10_r30.eq_1)
theorem k10_a : type_of% k10_p.down := k10_p.down
/-- quern/quernlaw04.WalSegments -/
theorem k10_is : FnIs Tryd.prog prims 10 160 [ResultVar.tmp 6] k10 := FnIs.of_fn Tryd.func10 (by kernel_rfl) rfl
def k19_r0 : List COp := [o 2 (.assign (.const (.pointer .none)))]
def k19_r1 : List COp := [o 3 (.makeMap 68 .none),
o 4 (pM 0),
o 5 (.build 70 #[(0, .tmp 3), (1, .tmp 4)]),
o 6 (.box 70 (.tmp 5)),
o 2 (pA 6)]
def k19 : CC := (.seq (.region k19_r0) (.seq (.region k19_r1) .ret))
def k19_p := PLift.up <| aI (vE k19.eq_1) <| aI (oE k19_r0.eq_1) (oE k19_r1.eq_1)
theorem k19_a : type_of% k19_p.down := k19_p.down
/-- quern/disk.New -/
theorem k19_is : FnIs Tryd.prog prims 19 7 [ResultVar.tmp 2] k19 := FnIs.of_fn Tryd.func19 (by kernel_rfl) rfl
def k23_r0 : List COp := [o 2 (pO false)]
def k23_r1 : List COp := [o 3 (pM 0),
o 4 (.binOp .neq 32 (.tmp 3) (.const (.pointer .none)) 32),
o 5 (pM 4),
oT 6 (pM 0) 5,
oT 7 (.nilCheck (.tmp 6)) 5,
oT 8 (pF 70 7 2) 5,
oT 9 (pL 4 8) 5,
o 10 (pU 5 9),
o 2 (pA 10)]
def k23 : CC := (.seq (.region k23_r0) (.seq (.region k23_r1) .ret))
def k23_p := PLift.up <| aI (vE k23.eq_1) <| aI (oE k23_r0.eq_1) (oE k23_r1.eq_1)
theorem k23_a : type_of% k23_p.down := k23_p.down
/-- (*quern/disk.Disk).Down -/
theorem k23_is : FnIs Tryd.prog prims 23 11 [ResultVar.tmp 2] k23 := FnIs.of_fn Tryd.func23 (by kernel_rfl) rfl
def k25_r0 : List COp := [o 2 (pM 0),
o 3 (.binOp .neq 32 (.tmp 2) (.const (.pointer .none)) 32)]
def k25_r1 : List COp := [o 4 (pM 0),
o 5 (.nilCheck (.tmp 4)),
o 6 (pF 70 5 2),
⟨none, .store 4 (.tmp 6) (.const (.bool false)), none, true⟩]
def k25 : CC := (.seq (.region k25_r0) (.cond (.tmp 3) (.region k25_r1) .skip))
def k26_r0 : List COp := [o 2 (.assign (.const (.slice .none 0 0)))]
def k26_r1 : List COp := [o 3 (pM 0),
o 4 (.binOp .eql 32 (.tmp 3) (.const (.pointer .none)) 32),
o 5 (pM 4),
oF 6 (pM 0) 5,
oF 7 (.nilCheck (.tmp 6)) 5,
oF 8 (pF 70 7 2) 5,
oF 9 (pL 4 8) 5,
o 10 (pV 5 9)]
def k26_r2 : List COp := [o 2 (.assign (.const (.slice .none 0 0)))]
def k26_r3 : List COp := [o 11 (pM 0),
o 12 (.nilCheck (.tmp 11)),
o 13 (pF 70 12 0),
o 14 (pL 68 13),
o 15 (pC 52 14 68),
o 16 (pC 51 15 81),
o 2 (pA 16)]
def k26 : CC := (.seq (.region k26_r0) (.seq (.seq (.region k26_r1) (.cond (.tmp 10) (.seq (.region k26_r2) .ret) .skip)) (.seq (.region k26_r3) .ret)))
def k26_p := PLift.up <| aI (vE k26.eq_1) <| aI (oE k26_r0.eq_1) <| aI (oE k26_r1.eq_1) <| aI (oE k26_r2.eq_1) (oE k26_r3.eq_1)
theorem k26_a : type_of% k26_p.down := k26_p.down
/-- (*quern/disk.Disk).Names -/
theorem k26_is : FnIs Tryd.prog prims 26 17 [ResultVar.tmp 2] k26 := FnIs.of_fn Tryd.func26 (by kernel_rfl) rfl
def k27_r0 : List COp := [o 0 (pO false)]
def k27_r1 : List COp := [o 7 (.call { callee := .value (.func 19), args := #[.const (.int .i64 1000)], argTypes := #[3] }),
o 1 (pA 7)]
def k27_r2 : List COp := [o 9 (pM 1),
o 10 (.call { callee := .value (.func 36), args := #[.tmp 9, .const (.int .i64 2)], argTypes := #[32, 3] }),
o 8 (pM 10),
o 11 (pX 8 0),
o 12 (pX 8 1),
o 13 (pX 8 2),
o 14 (pX 8 3),
o 2 (pA 11),
o 3 (pA 12),
o 4 (pA 13),
o 5 (pA 14)]
def k27_r3 : List COp := [o 15 (pM 5),
o 16 (pK .neq 24 15 .i64 0 24),
o 17 (pM 16),
oF 18 (pM 2) 17,
oF 19 (.binOp .eql 50 (.tmp 18) (.const (.pointer .none)) 50) 17,
o 20 (pV 17 19),
o 21 (pM 20),
oF 22 (pM 3) 21,
oF 23 (pN 22 37) 21,
oF 24 (pK .neq 3 23 .i64 0 3) 21,
o 25 (pV 21 24),
o 26 (pM 25),
oF 27 (pM 4) 26,
oF 28 (pK .neq 3 27 .i64 1 3) 26,
o 29 (pV 26 28)]
def k27_r4 : List COp := [o 0 (pO false)]
def k27_r5 : CC := (.hreg [
(false, o 31 (pM 2)),
(true, o 32 (.buildSlice 22 1 #[(0, .const (.int .u8 97))])),
(true, o 33 (.convert 22 22 (.tmp 32))),
(false, o 34 (pD 38 31 33 50 22)),
(false, o 30 (pM 34)),
(false, o 35 (pX 30 0)),
(false, o 36 (pX 30 1)),
(false, o 6 (pA 35)),
(false, o 5 (pA 36))])
def k27_r6 : List COp := [o 37 (pM 6),
o 38 (pK .neq 3 37 .i64 1 3),
o 39 (pM 38),
oF 40 (pM 5) 39,
oF 41 (pK .neq 24 40 .i64 0 24) 39,
o 42 (pV 39 41)]
def k27_r7 : List COp := [o 0 (pO false)]
def k27_r8 : List COp := [o 44 (pM 1),
o 45 (.call { callee := .value (.func 36), args := #[.tmp 44, .const (.int .i64 2)], argTypes := #[32, 3] }),
o 43 (pM 45),
o 46 (pX 43 0),
o 47 (pX 43 1),
o 48 (pX 43 2),
o 49 (pX 43 3),
o 3 (pA 47),
o 4 (pA 48),
o 5 (pA 49)]
def k27_r9 : List COp := [o 50 (pM 5),
o 51 (pK .eql 24 50 .i64 0 24),
o 52 (pM 51),
oT 53 (pM 4) 52,
oT 54 (pK .eql 3 53 .i64 1 3) 52,
o 55 (pU 52 54),
o 56 (pM 55),
oT 57 (pM 3) 56,
oT 58 (pN 57 37) 56,
oT 59 (pK .eql 3 58 .i64 1 3) 56,
o 60 (pU 56 59),
o 61 (pM 60),
oT 62 (pM 3) 61,
oT 63 (.indexAddr 37 (.tmp 62) (.const (.int .i64 0))) 61,
oT 64 (pL 22 63) 61,
oT 65 (.convert 22 9 (.tmp 64)) 61,
oT 66 (.binOp .eql 9 (.tmp 65) (.const (.string { data := #[97] })) 9) 61,
o 67 (pU 61 66),
o 0 (pA 67)]
def k27 : CC := (.seq (.region k27_r0) (.seq (.region k27_r1) (.seq (.region k27_r2) (.seq (.seq (.region k27_r3) (.cond (.tmp 29) (.seq (.region k27_r4) .ret) .skip)) (.seq k27_r5 (.seq (.seq (.region k27_r6) (.cond (.tmp 42) (.seq (.region k27_r7) .ret) .skip)) (.seq (.region k27_r8) (.seq (.region k27_r9) .ret))))))))
def k28_r0 : List COp := [o 2 (.assign (.const (.slice .none 0 0))),
o 3 (pZ .i64 0)]
def k28_r1 : List COp := [o 7 (pM 0),
o 8 (pN 7 22),
o 9 (pK .gtr 3 8 .i64 65536 3)]
def k28_r2 : List COp := [o 2 (.assign (.const (.slice .none 0 0))),
o 3 (pZ .i64 3)]
def k28_r3 : List COp := [o 10 (pM 0),
o 11 (pN 10 22),
o 12 (.convert 3 61 (.tmp 11)),
o 13 (pM 0),
o 14 (pC 41 13 22),
o 4 (pA 12),
o 5 (pA 14)]
def k28_r4 : List COp := [o 15 (pM 4),
o 16 (.convert 61 5 (.tmp 15)),
o 17 (pM 4),
o 18 (pK .shr 61 17 .u64 8 62),
o 19 (.convert 61 5 (.tmp 18)),
o 20 (pM 4),
o 21 (pK .shr 61 20 .u64 16 62),
o 22 (.convert 61 5 (.tmp 21)),
o 23 (pM 4),
o 24 (pK .shr 61 23 .u64 24 62),
o 25 (.convert 61 5 (.tmp 24)),
o 26 (pM 5),
o 27 (.convert 61 5 (.tmp 26)),
o 28 (pM 5),
o 29 (pK .shr 61 28 .u64 8 62),
o 30 (.convert 61 5 (.tmp 29)),
o 31 (pM 5),
o 32 (pK .shr 61 31 .u64 16 62),
o 33 (.convert 61 5 (.tmp 32)),
o 34 (pM 5),
o 35 (pK .shr 61 34 .u64 24 62),
o 36 (.convert 61 5 (.tmp 35)),
o 37 (.buildSlice 22 8 #[(0, .tmp 16), (1, .tmp 19), (2, .tmp 22), (3, .tmp 25), (4, .tmp 27), (5, .tmp 30), (6, .tmp 33), (7, .tmp 36)]),
o 6 (pA 37)]
def k28_r5 : List COp := [o 38 (pM 6),
o 39 (pM 0),
o 40 (pQ 38 39 22 22),
o 2 (pA 40),
o 3 (pZ .i64 0)]
def k28 : CC := (.seq (.region k28_r0) (.seq (.seq (.region k28_r1) (.cond (.tmp 9) (.seq (.region k28_r2) .ret) .skip)) (.seq (.region k28_r3) (.seq (.region k28_r4) (.seq (.region k28_r5) .ret)))))
def k28_p := PLift.up <| aI (vE k28.eq_1) <| aI (oE k28_r0.eq_1) <| aI (oE k28_r1.eq_1) <| aI (oE k28_r2.eq_1) <| aI (oE k28_r3.eq_1) <| aI (oE k28_r4.eq_1) (oE k28_r5.eq_1)
theorem k28_a : type_of% k28_p.down := k28_p.down
/-- quern/wal.Frame -/
theorem k28_is : FnIs Tryd.prog prims 28 41 [ResultVar.tmp 2, ResultVar.tmp 3] k28 := FnIs.of_fn Tryd.func28 (by kernel_rfl) rfl
def k30_r0 : List COp := [o 2 (.assign (.const (.slice .none 0 0))),
o 3 (pZ .i64 0)]
def k30_r1 : List COp := [o 4 (.assign (.const (.slice .none 0 0)))]
def k30_r2 : List COp := [o 5 (pZ .i64 0)]
def k30_r3 : List COp := [o 9 (pM 0),
o 10 (pN 9 22),
o 11 (pM 5),
o 12 (pB .sub 3 10 11 3),
o 13 (pK .geq 3 12 .i64 8 3)]
def k30_r4 : List COp := [o 14 (pM 0),
o 15 (pM 5),
o 16 (pM 5),
o 17 (pK .add 3 16 .i64 8 3),
o 18 (.slice 22 (.tmp 14) (some (.tmp 15)) (some (.tmp 17)) .none),
o 6 (pA 18)]
def k30_r5 : List COp := [oX 19 (pM 6),
oX 20 (.indexAddr 22 (.tmp 19) (.const (.int .i64 0))),
oX 21 (pL 5 20),
oX 22 (.convert 5 3 (.tmp 21)),
oX 23 (pM 6),
oX 24 (.indexAddr 22 (.tmp 23) (.const (.int .i64 1))),
oX 25 (pL 5 24),
oX 26 (.convert 5 3 (.tmp 25)),
oX 27 (pK .shl 3 26 .u64 8 62),
oX 28 (pB .or 3 22 27 3),
oX 29 (pM 6),
oX 30 (.indexAddr 22 (.tmp 29) (.const (.int .i64 2))),
oX 31 (pL 5 30),
oX 32 (.convert 5 3 (.tmp 31)),
oX 33 (pK .shl 3 32 .u64 16 62),
oX 34 (pB .or 3 28 33 3),
o 35 (pM 6),
o 36 (.indexAddr 22 (.tmp 35) (.const (.int .i64 3))),
o 37 (pL 5 36),
o 38 (.convert 5 3 (.tmp 37)),
o 39 (pK .shl 3 38 .u64 24 62),
o 40 (pB .or 3 34 39 3),
o 7 (pA 40)]
def k30_r6 : List COp := [o 41 (pM 7),
o 42 (pK .gtr 3 41 .i64 65536 3),
o 43 (pM 42),
oF 44 (pM 7) 43,
oF 45 (pM 0) 43,
oF 46 (pN 45 22) 43,
oF 47 (pM 5) 43,
oF 48 (pB .sub 3 46 47 3) 43,
oF 49 (pK .sub 3 48 .i64 8 3) 43,
oF 50 (pB .gtr 3 44 49 3) 43,
o 51 (pV 43 50)]
def k30_r7 : List COp := [o 52 (pM 0),
o 53 (pM 5),
o 54 (pK .add 3 53 .i64 8 3),
o 55 (pM 5),
o 56 (pK .add 3 55 .i64 8 3),
o 57 (pM 7),
o 58 (pB .add 3 56 57 3),
o 59 (.slice 22 (.tmp 52) (some (.tmp 54)) (some (.tmp 58)) .none),
o 8 (pA 59)]
def k30_r8 : CC := (.wregion [
(true, oX 60 (pM 8)),
(false, oX 61 (pC 41 60 22)),
(true, oX 62 (pM 6)),
(false, oX 63 (.indexAddr 22 (.tmp 62) (.const (.int .i64 4)))),
(true, oX 64 (pL 5 63)),
(false, oX 65 (.convert 5 61 (.tmp 64))),
(false, oX 66 (pM 6)),
(false, oX 67 (.indexAddr 22 (.tmp 66) (.const (.int .i64 5)))),
(true, oX 68 (pL 5 67)),
(false, oX 69 (.convert 5 61 (.tmp 68))),
(false, oX 70 (pK .shl 61 69 .u64 8 62)),
(false, oX 71 (pB .or 61 65 70 61)),
(false, oX 72 (pM 6)),
(false, oX 73 (.indexAddr 22 (.tmp 72) (.const (.int .i64 6)))),
(true, oX 74 (pL 5 73)),
(false, oX 75 (.convert 5 61 (.tmp 74))),
(false, oX 76 (pK .shl 61 75 .u64 16 62)),
(false, oX 77 (pB .or 61 71 76 61)),
(false, o 78 (pM 6)),
(false, o 79 (.indexAddr 22 (.tmp 78) (.const (.int .i64 7)))),
(true, o 80 (pL 5 79)),
(false, o 81 (.convert 5 61 (.tmp 80))),
(false, o 82 (pK .shl 61 81 .u64 24 62)),
(false, o 83 (pB .or 61 77 82 61)),
(false, o 84 (pB .neq 61 61 83 61))] false [(4, oX 64 (pL 5 63), [0, 2]), (8, oX 68 (pL 5 67), [0, 2]), (14, oX 74 (pL 5 73), [0, 2]), (20, o 80 (pL 5 79), [0, 2])])
def k30_r9 : List COp := [o 85 (pM 4),
o 86 (.buildSlice 22 0 #[]),
o 87 (pM 8),
o 88 (pQ 86 87 22 22),
o 89 (.buildSlice 37 1 #[(0, .tmp 88)]),
o 90 (pQ 85 89 37 37),
o 4 (pA 90)]
def k30_r10 : List COp := [o 91 (pM 5),
o 92 (pM 7),
o 93 (.binOp .add 3 (.const (.int .i64 8)) (.tmp 92) 3),
o 94 (pB .add 3 91 93 3),
o 5 (pA 94)]
def k30_l0 : CC := (.seq (.seq (.region k30_r3) (.cond (.tmp 13) .skip (.exit 0))) (.block 1 (.seq (.region k30_r4) (.seq (.region k30_r5) (.seq (.seq (.region k30_r6) (.cond (.tmp 51) (.exit 0) .skip)) (.seq (.region k30_r7) (.seq (.seq k30_r8 (.cond (.tmp 84) (.exit 0) .skip)) (.seq (.region k30_r9) (.region k30_r10)))))))))
def k30_r11 : List COp := [o 95 (pM 4),
o 96 (pM 5),
o 2 (pA 95),
o 3 (pA 96)]
def k30 : CC := (.seq (.region k30_r0) (.seq (.region k30_r1) (.seq (.region k30_r2) (.seq (.block 0 (.loop k30_l0)) (.seq (.region k30_r11) .ret)))))
def k30_p := PLift.up <| aI (vE k30.eq_1) <| aI (oE k30_r0.eq_1) <| aI (oE k30_r1.eq_1) <| aI (oE k30_r2.eq_1) <| aI (oE k30_r3.eq_1) <| aI (oE k30_r4.eq_1) <| aI (oE k30_r5.eq_1) <| aI (oE k30_r6.eq_1) <| aI (oE k30_r7.eq_1) <| aI (vE k30_r8.eq_1) <| aI (oE k30_r9.eq_1) <| aI (oE k30_r10.eq_1) <| aI (vE k30_l0.eq_1) (oE k30_r11.eq_1)
theorem k30_a : type_of% k30_p.down := k30_p.down
/-- quern/wal.Records -/
theorem k30_is : FnIs Tryd.prog prims 30 97 [ResultVar.tmp 2, ResultVar.tmp 3] k30 := FnIs.of_fn Tryd.func30 (by kernel_rfl) rfl
def k32_r0 : List COp := [o 2 (.assign (.const (.string { data := #[] })))]
def k32_r1 : List COp := [o 4 (pM 0),
o 5 (pK .lss 3 4 .i64 1 3),
o 6 (pM 5),
oF 7 (pM 0) 6,
oF 8 (pK .gtr 3 7 .i64 999999999 3) 6,
o 9 (pV 6 8)]
def k32_r2 : List COp := [o 2 (.assign (.const (.string { data := #[] })))]
def k32_r3 : List COp := [o 10 (pM 0),
o 11 (pC 43 10 3),
o 3 (pA 11)]
def k32_r4 : List COp := [o 12 (pM 3),
o 13 (pN 12 9),
o 14 (pK .lss 3 13 .i64 9 3)]
def k32_r5 : List COp := [o 15 (pM 3),
o 16 (.binOp .add 9 (.const (.string { data := #[48] })) (.tmp 15) 9),
o 3 (pA 16)]
def k32_l0 : CC := (.seq (.seq (.region k32_r4) (.cond (.tmp 14) .skip (.exit 0))) (.block 1 (.region k32_r5)))
def k32_r6 : List COp := [o 17 (pM 3),
o 18 (.binOp .add 9 (.const (.string { data := #[106] })) (.tmp 17) 9),
o 2 (pA 18)]
def k32 : CC := (.seq (.region k32_r0) (.seq (.seq (.region k32_r1) (.cond (.tmp 9) (.seq (.region k32_r2) .ret) .skip)) (.seq (.region k32_r3) (.seq (.block 0 (.loop k32_l0)) (.seq (.region k32_r6) .ret)))))
def k32_p := PLift.up <| aI (vE k32.eq_1) <| aI (oE k32_r0.eq_1) <| aI (oE k32_r1.eq_1) <| aI (oE k32_r2.eq_1) <| aI (oE k32_r3.eq_1) <| aI (oE k32_r4.eq_1) <| aI (oE k32_r5.eq_1) <| aI (vE k32_l0.eq_1) (oE k32_r6.eq_1)
theorem k32_a : type_of% k32_p.down := k32_p.down
/-- quern/wal.Name -/
theorem k32_is : FnIs Tryd.prog prims 32 19 [ResultVar.tmp 2] k32 := FnIs.of_fn Tryd.func32 (by kernel_rfl) rfl
def k36_r0 : List COp := [o 4 (.alloc 50),
o 5 (.alloc 37),
o 6 (.alloc 3),
o 7 (.alloc 24)]
def k36_r1 : List COp := [o 14 (pM 0),
o 15 (.binOp .eql 32 (.tmp 14) (.const (.pointer .none)) 32),
o 13 (pA 15)]
def k36_r2 : List COp := [⟨none, .store 50 (.tmp 4) (.const (.pointer .none)), none, true⟩,
⟨none, .store 37 (.tmp 5) (.const (.slice .none 0 0)), none, true⟩,
⟨none, .store 3 (.tmp 6) (.const (.int .i64 0)), none, true⟩,
⟨none, .store 24 (.tmp 7) (.const (.int .i64 2)), none, true⟩]
def k36_r3 : List COp := [o 17 (pM 1),
o 18 (pK .lss 3 17 .i64 1 3),
o 16 (pA 18)]
def k36_r4 : List COp := [⟨none, .store 50 (.tmp 4) (.const (.pointer .none)), none, true⟩,
⟨none, .store 37 (.tmp 5) (.const (.slice .none 0 0)), none, true⟩,
⟨none, .store 3 (.tmp 6) (.const (.int .i64 0)), none, true⟩,
⟨none, .store 24 (.tmp 7) (.const (.int .i64 1)), none, true⟩]
def k36_r5 : List COp := [o 20 (pM 0),
o 21 (pC 23 20 32),
o 19 (pA 21)]
def k36_r6 : List COp := [⟨none, .store 50 (.tmp 4) (.const (.pointer .none)), none, true⟩,
⟨none, .store 37 (.tmp 5) (.const (.slice .none 0 0)), none, true⟩,
⟨none, .store 3 (.tmp 6) (.const (.int .i64 0)), none, true⟩,
⟨none, .store 24 (.tmp 7) (.const (.int .i64 20)), none, true⟩]
def k36_r7 : List COp := [o 22 (.makeFunc (.func 54) #[] #[.tmp 7, .tmp 4, .tmp 5, .tmp 6])]
def k36_r8 : List COp := [o 23 (pM 0),
o 24 (pM 1),
o 25 (.build 86 #[(0, .tmp 23), (1, .tmp 24), (2, .const (.int .i64 1)), (3, .const (.int .i64 1))]),
o 26 (.box 86 (.tmp 25)),
oS 50 4 26]
def k36_r9 : List COp := [o 8 (pO false)]
def k36_r10 : List COp := [o 27 (pM 0),
o 28 (pC 26 27 32),
o 29 (pN 28 43),
o 30 (pW .i64 0)]
def k36_r11 : List COp := [o 31 (pB .lss 3 30 29 3)]
def k36_r12 : List COp := [o 32 (pI 43 28 30),
o 33 (pL 9 32),
o 10 (pA 33)]
def k36_r13 : List COp := [o 34 (pM 10),
o 35 (pC 56 34 9),
o 11 (pA 35)]
def k36_r14 : List COp := [o 37 (pM 11),
o 38 (pK .eql 3 37 .i64 0 3),
o 36 (pA 38)]
def k36_r15 : List COp := [o 40 (pL 3 6),
o 41 (pK .gtr 3 40 .i64 0 3),
o 42 (pM 41),
oT 43 (pM 8) 42,
oT 44 (pM 43) 42,
oF 45 (pM 11) 44,
oF 46 (pL 50 4) 44,
oF 47 (.nilCheck (.tmp 46)) 44,
oF 48 (pF 86 47 3) 44,
oF 49 (pL 3 48) 44,
oF 50 (pB .neq 3 45 49 3) 44,
oT 51 (pV 44 50) 42,
o 52 (pU 42 51),
o 39 (pA 52)]
def k36_r16 : List COp := [o 53 (pM 0),
o 54 (pM 10),
o 55 (pD 46 53 54 32 9),
o 56 (pC 57 55 24)]
def k36_r17 : List COp := [o 8 (pO true)]
def k36_r18 : List COp := [o 58 (pL 3 6),
o 59 (pK .eql 3 58 .i64 0 3),
o 57 (pA 59)]
def k36_r19 : List COp := [o 60 (pM 11),
oS 3 6 60]
def k36_r20 : List COp := [o 61 (pM 0),
o 62 (pM 10),
o 63 (pD 58 61 62 32 9),
o 12 (pA 63)]
def k36_r21 : List COp := [o 64 (pL 37 5),
o 65 (pM 12),
o 66 (pQ 64 65 37 37),
oS 37 5 66]
def k36_r22 : CC := (.wregion [
(true, oX 67 (pL 50 4)),
(true, oX 68 (pL 50 4)),
(false, oX 69 (pM 11)),
(false, oX 70 (pM 11)),
(false, oX 71 (pM 12)),
(false, oX 72 (pN 71 37)),
(false, oX 73 (pB .add 3 70 72 3)),
(false, o 74 (.nilCheck (.tmp 67))),
(false, o 75 (pF 86 74 2)),
(false, oS 3 75 69),
(true, o 76 (.nilCheck (.tmp 68))),
(false, o 77 (pF 86 76 3)),
(false, oS 3 77 73)] false [(1, oX 68 (pL 50 4), [0, 10])])
def k36_r23 : List COp := [o 78 (pK .add 3 30 .i64 1 3),
o 30 (pM 78)]
def k36_l0 : CC := (.seq (.region k36_r11) (.seq (.cond (.tmp 31) .skip (.exit 1)) (.seq (.block 2 (.seq (.region k36_r12) (.seq (.region k36_r13) (.seq (.block 3 (.seq (.region k36_r14) (.cond (.tmp 36) (.exit 2) (.seq (.region k36_r15) (.cond (.tmp 39) (.seq (.region k36_r16) (.seq (.region k36_r17) (.exit 2))) (.seq (.region k36_r18) (.cond (.tmp 57) (.region k36_r19) .skip))))))) (.seq (.region k36_r20) (.seq (.region k36_r21) k36_r22)))))) (.region k36_r23))))
def k36_r24 : List COp := [o 79 (pL 3 6),
o 80 (pK .eql 3 79 .i64 0 3)]
def k36_r25 : List COp := [⟨none, .store 3 (.tmp 6) (.const (.int .i64 1)), none, true⟩]
def k36_r26 : CC := (.wregion [
(true, oX 81 (pL 50 4)),
(true, oX 82 (pL 37 5)),
(true, oX 83 (pL 3 6)),
(false, oS 50 4 81),
(true, oS 37 5 82),
(true, oS 3 6 83),
(false, ⟨none, .store 24 (.tmp 7) (.const (.int .i64 0)), none, true⟩)] false [(1, oX 82 (pL 37 5), [0, 4]), (2, oX 83 (pL 3 6), [0, 4, 5])])
def k36 : CD := (.seq (.code (.region k36_r0)) (.seq (.code (.block 0 (.seq (.region k36_r1) (.cond (.tmp 13) (.seq (.region k36_r2) .ret) (.seq (.region k36_r3) (.cond (.tmp 16) (.seq (.region k36_r4) .ret) (.seq (.region k36_r5) (.cond (.tmp 19) (.seq (.region k36_r6) .ret) .skip)))))))) (.seq (.reg k36_r7 (.tmp 22) []) (.seq (.code (.region k36_r8)) (.seq (.code (.region k36_r9)) (.seq (.seq (.code (.region k36_r10)) (.code (.block 1 (.loop k36_l0)))) (.seq (.seq (.code (.region k36_r24)) (.cond (.tmp 80) (.code (.region k36_r25)) (.code .skip))) (.seq (.code k36_r26) (.code .ret)))))))))
theorem k36_e : type_of% (@EvD_of P pr N e σ QQ _ _ k36.eq_1) := EvD_of k36.eq_1
def k36_p := PLift.up <| aI @k36_e <| aI (oE k36_r0.eq_1) <| aI (oE k36_r1.eq_1) <| aI (oE k36_r2.eq_1) <| aI (oE k36_r3.eq_1) <| aI (oE k36_r4.eq_1) <| aI (oE k36_r5.eq_1) <| aI (oE k36_r6.eq_1) <| aI (oE k36_r7.eq_1) <| aI (oE k36_r8.eq_1) <| aI (oE k36_r9.eq_1) <| aI (oE k36_r10.eq_1) <| aI (oE k36_r11.eq_1) <| aI (oE k36_r12.eq_1) <| aI (oE k36_r13.eq_1) <| aI (oE k36_r14.eq_1) <| aI (oE k36_r15.eq_1) <| aI (oE k36_r16.eq_1) <| aI (oE k36_r17.eq_1) <| aI (oE k36_r18.eq_1) <| aI (oE k36_r19.eq_1) <| aI (oE k36_r20.eq_1) <| aI (oE k36_r21.eq_1) <| aI (vE k36_r22.eq_1) <| aI (oE k36_r23.eq_1) <| aI (vE k36_l0.eq_1) <| aI (oE k36_r24.eq_1) <| aI (oE k36_r25.eq_1) (vE k36_r26.eq_1)
theorem k36_a : type_of% k36_p.down := k36_p.down
/-- quern/wal.Open -/
theorem k36_is : FnD Tryd.prog prims 36 84 [ResultVar.cell 4 50, ResultVar.cell 5 37, ResultVar.cell 6 3, ResultVar.cell 7 24] k36 := FnD.of_fn Tryd.func36 (by kernel_rfl) rfl
def k38_r0 : List COp := [o 4 (pZ .i64 0),
o 5 (pZ .i64 0)]
def k38_r1 : List COp := [o 10 (pM 0),
o 11 (.binOp .eql 50 (.tmp 10) (.const (.pointer .none)) 50)]
def k38_r2 : List COp := [o 4 (pZ .i64 0),
o 5 (pZ .i64 2)]
def k38_r3 : List COp := [o 13 (pM 1),
o 14 (pC 28 13 22),
o 12 (pM 14),
o 15 (pX 12 0),
o 16 (pX 12 1),
o 6 (pA 15),
o 7 (pA 16)]
def k38_r4 : List COp := [o 17 (pM 7),
o 18 (pK .neq 24 17 .i64 0 24)]
def k38_r5 : List COp := [o 19 (pM 7),
o 4 (pZ .i64 0),
o 5 (pA 19)]
def k38_r6 : List COp := [o 20 (pM 0),
o 21 (.nilCheck (.tmp 20)),
o 22 (pF 86 21 4),
o 23 (pL 24 22),
o 24 (pK .neq 24 23 .i64 0 24)]
def k38_r7 : List COp := [oX 25 (pM 0),
oX 26 (.nilCheck (.tmp 25)),
oX 27 (pF 86 26 4),
oX 28 (pL 24 27),
o 4 (pZ .i64 0),
o 5 (pA 28)]
def k38_r8 : List COp := [o 29 (pM 0),
o 30 (.nilCheck (.tmp 29)),
o 31 (pF 86 30 2),
o 32 (pL 3 31),
o 8 (pA 32)]
def k38_r9 : List COp := [oX 33 (pM 0),
oX 34 (.nilCheck (.tmp 33)),
oX 35 (pF 86 34 3),
oX 36 (pL 3 35),
oX 37 (pM 8),
oX 38 (pB .sub 3 36 37 3),
o 39 (pM 0),
o 40 (.nilCheck (.tmp 39)),
o 41 (pF 86 40 1),
o 42 (pL 3 41),
o 43 (pB .geq 3 38 42 3)]
def k38_r10 : List COp := [o 44 (pM 0),
o 45 (.nilCheck (.tmp 44)),
o 46 (pF 86 45 3),
o 47 (pL 3 46),
o 8 (pA 47)]
def k38_r11 : List COp := [o 48 (pM 8),
o 49 (pC 32 48 3),
o 9 (pA 49)]
def k38_r12 : List COp := [o 50 (pM 9),
o 51 (.binOp .eql 9 (.tmp 50) (.const (.string { data := #[] })) 9)]
def k38_r13 : List COp := [o 4 (pZ .i64 0),
o 5 (pZ .i64 22)]
def k38_r14 : List COp := [o 52 (pM 0),
o 53 (.nilCheck (.tmp 52)),
o 54 (pF 86 53 0),
o 55 (pL 32 54),
o 56 (pM 9),
o 57 (pM 6),
o 58 (.call { callee := .value (.func 47), args := #[.tmp 55, .tmp 56, .tmp 57], argTypes := #[32, 9, 22] }),
o 7 (pA 58)]
def k38_r15 : List COp := [o 59 (pM 7),
o 60 (pK .eql 24 59 .i64 3 24),
o 61 (pM 60),
oF 62 (pM 7) 61,
oF 63 (pK .eql 24 62 .i64 22 24) 61,
o 64 (pV 61 63)]
def k38_r16 : List COp := [o 4 (pZ .i64 0),
o 5 (pZ .i64 22)]
def k38_r17 : List COp := [o 65 (pM 7),
o 66 (pK .eql 24 65 .i64 0 24)]
def k38_r18 : List COp := [o 67 (pM 0),
o 68 (.nilCheck (.tmp 67)),
o 69 (pF 86 68 0),
o 70 (pL 32 69),
o 71 (pM 9),
o 72 (pD 48 70 71 32 9),
o 7 (pA 72)]
def k38_r19 : List COp := [o 73 (pM 7),
o 74 (pK .neq 24 73 .i64 0 24)]
def k38_r20 : List COp := [o 75 (pM 0),
o 76 (pM 7),
o 77 (.nilCheck (.tmp 75)),
o 78 (pF 86 77 4),
oS 24 78 76]
def k38_r21 : List COp := [o 79 (pM 7),
o 4 (pZ .i64 0),
o 5 (pA 79)]
def k38_r22 : List COp := [o 80 (pM 0),
o 81 (pM 0),
o 82 (pM 8),
o 83 (pM 0),
o 84 (.nilCheck (.tmp 83)),
o 85 (pF 86 84 3),
o 86 (pL 3 85),
o 87 (pK .add 3 86 .i64 1 3),
o 88 (.nilCheck (.tmp 80)),
o 89 (pF 86 88 2),
oS 3 89 82,
o 90 (.nilCheck (.tmp 81)),
o 91 (pF 86 90 3),
oS 3 91 87]
def k38_r23 : List COp := [o 92 (pM 0),
o 93 (.nilCheck (.tmp 92)),
o 94 (pF 86 93 3),
o 95 (pL 3 94),
o 96 (pK .sub 3 95 .i64 1 3),
o 4 (pA 96),
o 5 (pZ .i64 0)]
def k38 : CC := (.seq (.region k38_r0) (.seq (.seq (.region k38_r1) (.cond (.tmp 11) (.seq (.region k38_r2) .ret) .skip)) (.seq (.region k38_r3) (.seq (.seq (.region k38_r4) (.cond (.tmp 18) (.seq (.region k38_r5) .ret) .skip)) (.seq (.seq (.region k38_r6) (.cond (.tmp 24) (.seq (.region k38_r7) .ret) .skip)) (.seq (.region k38_r8) (.seq (.seq (.region k38_r9) (.cond (.tmp 43) (.region k38_r10) .skip)) (.seq (.region k38_r11) (.seq (.seq (.region k38_r12) (.cond (.tmp 51) (.seq (.region k38_r13) .ret) .skip)) (.seq (.region k38_r14) (.seq (.seq (.region k38_r15) (.cond (.tmp 64) (.seq (.region k38_r16) .ret) .skip)) (.seq (.seq (.region k38_r17) (.cond (.tmp 66) (.region k38_r18) .skip)) (.seq (.seq (.region k38_r19) (.cond (.tmp 74) (.seq (.region k38_r20) (.seq (.region k38_r21) .ret)) .skip)) (.seq (.region k38_r22) (.seq (.region k38_r23) .ret)))))))))))))))
def k38_p := PLift.up <| aI (vE k38.eq_1) <| aI (oE k38_r0.eq_1) <| aI (oE k38_r1.eq_1) <| aI (oE k38_r2.eq_1) <| aI (oE k38_r3.eq_1) <| aI (oE k38_r4.eq_1) <| aI (oE k38_r5.eq_1) <| aI (oE k38_r6.eq_1) <| aI (oE k38_r7.eq_1) <| aI (oE k38_r8.eq_1) <| aI (oE k38_r9.eq_1) <| aI (oE k38_r10.eq_1) <| aI (oE k38_r11.eq_1) <| aI (oE k38_r12.eq_1) <| aI (oE k38_r13.eq_1) <| aI (oE k38_r14.eq_1) <| aI (oE k38_r15.eq_1) <| aI (oE k38_r16.eq_1) <| aI (oE k38_r17.eq_1) <| aI (oE k38_r18.eq_1) <| aI (oE k38_r19.eq_1) <| aI (oE k38_r20.eq_1) <| aI (oE k38_r21.eq_1) <| aI (oE k38_r22.eq_1) (oE k38_r23.eq_1)
theorem k38_a : type_of% k38_p.down := k38_p.down
/-- (*quern/wal.Wal).Append -/
theorem k38_is : FnIs Tryd.prog prims 38 97 [ResultVar.tmp 4, ResultVar.tmp 5] k38 := FnIs.of_fn Tryd.func38 (by kernel_rfl) rfl
def k39_r0 : List COp := [o 4 (pZ .i64 0),
o 5 (pZ .i64 0)]
def k39_r1 : List COp := [o 13 (pM 0),
o 14 (.binOp .eql 50 (.tmp 13) (.const (.pointer .none)) 50)]
def k39_r2 : List COp := [o 4 (pZ .i64 0),
o 5 (pZ .i64 2)]
def k39_r3 : List COp := [o 15 (pM 0),
o 16 (.nilCheck (.tmp 15)),
o 17 (pF 86 16 4),
o 18 (pL 24 17),
o 19 (pK .neq 24 18 .i64 0 24)]
def k39_r4 : List COp := [oX 20 (pM 0),
oX 21 (.nilCheck (.tmp 20)),
oX 22 (pF 86 21 4),
oX 23 (pL 24 22),
o 4 (pZ .i64 0),
o 5 (pA 23)]
def k39_r5 : List COp := [o 6 (.assign (.const (.slice .none 0 0)))]
def k39_r6 : List COp := [o 24 (pM 0),
o 25 (.nilCheck (.tmp 24)),
o 26 (pF 86 25 0),
o 27 (pL 32 26),
o 28 (pC 26 27 32),
o 29 (pN 28 43),
o 30 (pW .i64 0)]
def k39_r7 : List COp := [o 31 (pB .lss 3 30 29 3)]
def k39_r8 : List COp := [o 32 (pI 43 28 30),
o 33 (pL 9 32),
o 8 (pA 33)]
def k39_r9 : List COp := [o 34 (pM 8),
o 35 (pC 56 34 9),
o 9 (pA 35)]
def k39_r10 : List COp := [o 36 (pM 9),
o 37 (pK .gtr 3 36 .i64 0 3)]
def k39_r11 : List COp := [o 38 (pM 6),
o 39 (pM 9),
o 40 (.buildSlice 38 1 #[(0, .tmp 39)]),
o 41 (pQ 38 40 38 38),
o 6 (pA 41)]
def k39_r12 : List COp := [o 42 (pK .add 3 30 .i64 1 3),
o 30 (pM 42)]
def k39_l0 : CC := (.seq (.region k39_r7) (.seq (.cond (.tmp 31) .skip (.exit 0)) (.seq (.block 1 (.seq (.region k39_r8) (.seq (.region k39_r9) (.seq (.region k39_r10) (.cond (.tmp 37) (.region k39_r11) .skip))))) (.region k39_r12))))
def k39_r13 : List COp := [o 10 (pZ .i64 0)]
def k39_r14 : List COp := [o 11 (pZ .i64 0)]
def k39_r15 : List COp := [o 43 (pM 11),
o 44 (pK .add 3 43 .i64 1 3),
o 45 (pM 6),
o 46 (pN 45 38),
o 47 (pB .lss 3 44 46 3),
o 48 (pM 47),
oT 49 (pM 6) 48,
oT 50 (pM 11) 48,
oT 51 (pK .add 3 50 .i64 1 3) 48,
oT 52 (pI 38 49 51) 48,
oT 53 (pL 3 52) 48,
oT 54 (pM 1) 48,
oT 55 (pB .leq 3 53 54 3) 48,
o 56 (pU 48 55)]
def k39_r17 : CC := (.wregion [
(true, oX 59 (pM 0)),
(false, oX 60 (.nilCheck (.tmp 59))),
(false, oX 61 (pF 86 60 0)),
(true, oX 62 (pL 32 61)),
(false, oX 63 (pM 6)),
(false, o 64 (pM 11)),
(false, o 65 (pI 38 63 64)),
(false, o 66 (pL 3 65)),
(false, o 67 (pC 32 66 3)),
(true, o 68 (pD 46 62 67 32 9)),
(false, o 12 (pA 68))] false [(3, oX 62 (pL 32 61), [0, 9])])
def k39_r18 : List COp := [o 69 (pM 12),
o 70 (pK .neq 24 69 .i64 0 24)]
def k39_r19 : List COp := [o 71 (pM 0),
o 72 (pM 12),
o 73 (.nilCheck (.tmp 71)),
o 74 (pF 86 73 4),
oS 24 74 72]
def k39_r20 : List COp := [o 75 (pM 12),
o 4 (pZ .i64 0),
o 5 (pA 75)]
def k39_r21 : List COp := [o 76 (pM 10),
o 77 (pK .add 3 76 .i64 1 3),
o 10 (pA 77)]
def k39_r16 : List COp := [o 57 (pM 11),
o 58 (pK .add 3 57 .i64 1 3),
o 11 (pA 58)]
def k39_l1 : CC := (.seq (.seq (.region k39_r15) (.cond (.tmp 56) .skip (.exit 2))) (.seq (.block 3 (.seq (.seq k39_r17 (.seq (.region k39_r18) (.cond (.tmp 70) (.seq (.region k39_r19) (.seq (.region k39_r20) .ret)) .skip))) (.region k39_r21))) (.region k39_r16)))
def k39_r22 : List COp := [o 78 (pM 10),
o 4 (pA 78),
o 5 (pZ .i64 0)]
def k39 : CC := (.seq (.region k39_r0) (.seq (.seq (.region k39_r1) (.cond (.tmp 14) (.seq (.region k39_r2) .ret) .skip)) (.seq (.seq (.region k39_r3) (.cond (.tmp 19) (.seq (.region k39_r4) .ret) .skip)) (.seq (.region k39_r5) (.seq (.seq (.region k39_r6) (.block 0 (.loop k39_l0))) (.seq (.region k39_r13) (.seq (.seq (.region k39_r14) (.block 2 (.loop k39_l1))) (.seq (.region k39_r22) .ret))))))))
def k39_p := PLift.up <| aI (vE k39.eq_1) <| aI (oE k39_r0.eq_1) <| aI (oE k39_r1.eq_1) <| aI (oE k39_r2.eq_1) <| aI (oE k39_r3.eq_1) <| aI (oE k39_r4.eq_1) <| aI (oE k39_r5.eq_1) <| aI (oE k39_r6.eq_1) <| aI (oE k39_r7.eq_1) <| aI (oE k39_r8.eq_1) <| aI (oE k39_r9.eq_1) <| aI (oE k39_r10.eq_1) <| aI (oE k39_r11.eq_1) <| aI (oE k39_r12.eq_1) <| aI (vE k39_l0.eq_1) <| aI (oE k39_r13.eq_1) <| aI (oE k39_r14.eq_1) <| aI (oE k39_r15.eq_1) <| aI (vE k39_r17.eq_1) <| aI (oE k39_r18.eq_1) <| aI (oE k39_r19.eq_1) <| aI (oE k39_r20.eq_1) <| aI (oE k39_r21.eq_1) <| aI (oE k39_r16.eq_1) <| aI (vE k39_l1.eq_1) (oE k39_r22.eq_1)
theorem k39_a : type_of% k39_p.down := k39_p.down
/-- (*quern/wal.Wal).Prune -/
theorem k39_is : FnIs Tryd.prog prims 39 79 [ResultVar.tmp 4, ResultVar.tmp 5] k39 := FnIs.of_fn Tryd.func39 (by kernel_rfl) rfl
def k41_r0 : List COp := [o 2 (pZ .u32 0)]
def k41_r1 : List COp := [o 3 (pM 0),
o 4 (.call { callee := .value (.func 59), args := #[.const (.int .u32 0), .tmp 3], argTypes := #[61, 22] }),
o 2 (pA 4)]
def k41 : CC := (.seq (.region k41_r0) (.seq (.region k41_r1) .ret))
def k41_p := PLift.up <| aI (vE k41.eq_1) <| aI (oE k41_r0.eq_1) (oE k41_r1.eq_1)
theorem k41_a : type_of% k41_p.down := k41_p.down
/-- quern/crc.Sum -/
theorem k41_is : FnIs Tryd.prog prims 41 5 [ResultVar.tmp 2] k41 := FnIs.of_fn Tryd.func41 (by kernel_rfl) rfl
def k45_r0 : List COp := [o 4 (.assign (.const (.slice .none 0 0))),
o 5 (pZ .i64 0)]
def k45_r1 : List COp := [o 9 (pM 0),
o 10 (pM 1),
o 11 (pD 62 9 10 32 9),
o 8 (pM 11),
o 12 (pX 8 0),
o 13 (pX 8 1),
o 6 (pA 12),
o 7 (pA 13)]
def k45_r2 : List COp := [o 14 (pM 7),
o 15 (pK .neq 24 14 .i64 0 24)]
def k45_r3 : List COp := [o 16 (pM 7),
o 4 (.assign (.const (.slice .none 0 0))),
o 5 (pA 16)]
def k45_r4 : List COp := [oX 17 (pM 6),
oX 18 (.nilCheck (.tmp 17)),
oX 19 (pF 78 18 0),
oX 20 (pL 22 19),
o 21 (pM 6),
o 22 (.nilCheck (.tmp 21)),
o 23 (pF 78 22 1),
o 24 (pL 22 23),
o 25 (.buildSlice 37 2 #[(0, .tmp 20), (1, .tmp 24)]),
o 26 (pC 63 25 37),
o 4 (pA 26),
o 5 (pZ .i64 0)]
def k45 : CC := (.seq (.region k45_r0) (.seq (.region k45_r1) (.seq (.seq (.region k45_r2) (.cond (.tmp 15) (.seq (.region k45_r3) .ret) .skip)) (.seq (.region k45_r4) .ret))))
def k45_p := PLift.up <| aI (vE k45.eq_1) <| aI (oE k45_r0.eq_1) <| aI (oE k45_r1.eq_1) <| aI (oE k45_r2.eq_1) <| aI (oE k45_r3.eq_1) (oE k45_r4.eq_1)
theorem k45_a : type_of% k45_p.down := k45_p.down
/-- (*quern/disk.Disk).Read -/
theorem k45_is : FnIs Tryd.prog prims 45 27 [ResultVar.tmp 4, ResultVar.tmp 5] k45 := FnIs.of_fn Tryd.func45 (by kernel_rfl) rfl
def k46_r0 : List COp := [o 4 (pZ .i64 0)]
def k46_r1 : List COp := [o 8 (pM 0),
o 9 (pM 1),
o 10 (pD 62 8 9 32 9),
o 7 (pM 10),
o 11 (pX 7 0),
o 12 (pX 7 1),
o 5 (pA 11),
o 6 (pA 12)]
def k46_r2 : List COp := [o 13 (pM 6),
o 14 (pK .neq 24 13 .i64 0 24)]
def k46_r3 : List COp := [o 15 (pM 6),
o 4 (pA 15)]
def k46_r4 : List COp := [o 16 (pM 0),
o 17 (pC 64 16 32)]
def k46_r5 : List COp := [o 18 (pM 0),
o 19 (pC 65 18 32),
o 4 (pA 19)]
def k46_r6 : CC := (.hreg [
(false, o 20 (pM 0)),
(false, o 21 (.nilCheck (.tmp 20))),
(false, o 22 (pF 70 21 0)),
(false, o 23 (pL 68 22)),
(false, o 24 (pM 1)),
(true, ⟨none, .call { callee := .builtin .delete, args := #[.tmp 23, .tmp 24], argTypes := #[68, 9] }, none, true⟩)])
def k46_r7 : List COp := [o 4 (pZ .i64 0)]
def k46 : CC := (.seq (.region k46_r0) (.seq (.seq (.region k46_r1) (.seq (.region k46_r2) (.cond (.tmp 14) (.seq (.region k46_r3) .ret) .skip))) (.seq (.seq (.region k46_r4) (.cond (.tmp 17) (.seq (.region k46_r5) .ret) .skip)) (.seq k46_r6 (.seq (.region k46_r7) .ret)))))
def k46_p := PLift.up <| aI (vE k46.eq_1) <| aI (oE k46_r0.eq_1) <| aI (oE k46_r1.eq_1) <| aI (oE k46_r2.eq_1) <| aI (oE k46_r3.eq_1) <| aI (oE k46_r4.eq_1) <| aI (oE k46_r5.eq_1) <| aI (vE k46_r6.eq_1) (oE k46_r7.eq_1)
theorem k46_a : type_of% k46_p.down := k46_p.down
/-- (*quern/disk.Disk).Remove -/
theorem k46_is : FnIs Tryd.prog prims 46 25 [ResultVar.tmp 4] k46 := FnIs.of_fn Tryd.func46 (by kernel_rfl) rfl
def k47_r0 : List COp := [o 6 (pZ .i64 0)]
def k47_r1 : List COp := [o 9 (pM 0),
o 10 (pM 1),
o 11 (pD 66 9 10 32 9),
o 7 (pA 11)]
def k47_r2 : List COp := [o 12 (pM 7),
o 13 (pK .neq 24 12 .i64 0 24)]
def k47_r3 : List COp := [o 14 (pM 7),
o 6 (pA 14)]
def k47_r4 : List COp := [o 15 (pM 0),
o 16 (.nilCheck (.tmp 15)),
o 17 (pF 70 16 0),
o 18 (pL 68 17),
o 19 (pM 1),
o 20 (.lookup 68 (.tmp 18) (.tmp 19) false),
o 8 (pA 20)]
def k47_r5 : List COp := [o 22 (pM 8),
o 23 (.binOp .neq 76 (.tmp 22) (.const (.pointer .none)) 76),
o 24 (pM 23),
⟨some 25, .move (.tmp 2), some (24, true), false⟩,
⟨some 26, .call { callee := .builtin .len, args := #[.tmp 25], argTypes := #[22] }, some (24, true), false⟩,
⟨some 27, .move (.tmp 8), some (24, true), false⟩,
⟨some 28, .nilCheck (.tmp 27), some (24, true), false⟩,
⟨some 29, .fieldAddr 78 (.tmp 28) 0, some (24, true), false⟩,
⟨some 30, .load 22 (.tmp 29), some (24, true), false⟩,
⟨some 31, .call { callee := .builtin .len, args := #[.tmp 30], argTypes := #[22] }, some (24, true), false⟩,
⟨some 32, .binOp .sub 3 (.const (.int .i64 1048576)) (.tmp 31) 3, some (24, true), false⟩,
oT 33 (pM 8) 24,
oT 34 (.nilCheck (.tmp 33)) 24,
oT 35 (pF 78 34 1) 24,
oT 36 (pL 22 35) 24,
oT 37 (pN 36 22) 24,
oT 38 (pB .sub 3 32 37 3) 24,
oT 39 (pB .gtr 3 26 38 3) 24,
o 40 (pU 24 39),
o 21 (pA 40)]
def k47_r6 : List COp := [o 41 (pM 2),
o 42 (pN 41 22),
o 43 (pK .gtr 3 42 .i64 1048576 3),
o 21 (pA 43)]
def k47_r7 : List COp := [o 6 (pZ .i64 3)]
def k47_r8 : CC := (.hreg [
(false, o 45 (pM 8)),
(false, o 46 (.binOp .eql 76 (.tmp 45) (.const (.pointer .none)) 76)),
(false, o 47 (pM 46)),
(false, oT 48 (pM 0) 47),
(false, oT 49 (.nilCheck (.tmp 48)) 47),
(false, oT 50 (pF 70 49 0) 47),
(false, oT 51 (pL 68 50) 47),
(true, oT 52 (pN 51 68) 47),
(false, oT 53 (pK .geq 3 52 .i64 16 3) 47),
(false, o 54 (pU 47 53)),
(false, o 44 (pA 54))])
def k47_r9 : CC := (.wregion [
(true, oX 55 (pM 0)),
(false, oX 56 (pC 67 55 32)),
(true, oX 57 (pM 2)),
(false, oX 58 (pN 57 22)),
(false, oX 59 (pB .add 3 56 58 3)),
(false, o 60 (pM 0)),
(false, o 61 (.nilCheck (.tmp 60))),
(false, o 62 (pF 70 61 1)),
(true, o 63 (pL 3 62)),
(false, o 64 (pB .gtr 3 59 63 3)),
(false, o 44 (pA 64))] false [(8, o 63 (pL 3 62), [0, 2])])
def k47_r10 : List COp := [o 6 (pZ .i64 22)]
def k47_r11 : List COp := [o 65 (pM 8),
o 66 (.binOp .eql 76 (.tmp 65) (.const (.pointer .none)) 76)]
def k47_r12 : List COp := [o 67 (.build 78 #[]),
o 68 (.box 78 (.tmp 67)),
o 8 (pA 68)]
def k47_r13 : List COp := [o 69 (pM 0),
o 70 (.nilCheck (.tmp 69)),
o 71 (pF 70 70 0),
o 72 (pL 68 71),
o 73 (pM 1),
o 74 (pM 8),
⟨none, .mapUpdate 68 (.tmp 72) (.tmp 73) (.tmp 74), none, true⟩]
def k47_r14 : CC := (.hreg [
(false, o 75 (pM 8)),
(false, o 76 (pM 8)),
(false, o 77 (.nilCheck (.tmp 76))),
(false, o 78 (pF 78 77 1)),
(false, o 79 (pL 22 78)),
(false, o 80 (pM 2)),
(true, o 81 (pQ 79 80 22 22)),
(false, o 82 (.nilCheck (.tmp 75))),
(false, o 83 (pF 78 82 1)),
(false, oS 22 83 81)])
def k47_r15 : List COp := [o 84 (pM 0),
o 85 (pC 64 84 32)]
def k47_r16 : List COp := [o 86 (pM 0),
o 87 (pC 65 86 32),
o 6 (pA 87)]
def k47_r17 : List COp := [o 6 (pZ .i64 0)]
def k47 : CC := (.seq (.region k47_r0) (.seq (.seq (.region k47_r1) (.seq (.region k47_r2) (.cond (.tmp 13) (.seq (.region k47_r3) .ret) .skip))) (.seq (.region k47_r4) (.seq (.block 0 (.seq (.seq (.region k47_r5) (.cond (.tmp 21) .skip (.region k47_r6))) (.cond (.tmp 21) (.seq (.region k47_r7) .ret) (.seq (.seq k47_r8 (.cond (.tmp 44) .skip k47_r9)) (.cond (.tmp 44) (.seq (.region k47_r10) .ret) .skip))))) (.seq (.seq (.region k47_r11) (.cond (.tmp 66) (.seq (.region k47_r12) (.region k47_r13)) .skip)) (.seq k47_r14 (.seq (.seq (.region k47_r15) (.cond (.tmp 85) (.seq (.region k47_r16) .ret) .skip)) (.seq (.region k47_r17) .ret))))))))
def k47_p := PLift.up <| aI (vE k47.eq_1) <| aI (oE k47_r0.eq_1) <| aI (oE k47_r1.eq_1) <| aI (oE k47_r2.eq_1) <| aI (oE k47_r3.eq_1) <| aI (oE k47_r4.eq_1) <| aI (oE k47_r5.eq_1) <| aI (oE k47_r6.eq_1) <| aI (oE k47_r7.eq_1) <| aI (vE k47_r8.eq_1) <| aI (vE k47_r9.eq_1) <| aI (oE k47_r10.eq_1) <| aI (oE k47_r11.eq_1) <| aI (oE k47_r12.eq_1) <| aI (oE k47_r13.eq_1) <| aI (vE k47_r14.eq_1) <| aI (oE k47_r15.eq_1) <| aI (oE k47_r16.eq_1) (oE k47_r17.eq_1)
theorem k47_a : type_of% k47_p.down := k47_p.down
/-- (*quern/disk.Disk).Append -/
theorem k47_is : FnIs Tryd.prog prims 47 88 [ResultVar.tmp 6] k47 := FnIs.of_fn Tryd.func47 (by kernel_rfl) rfl
def k48_r0 : List COp := [o 4 (pZ .i64 0)]
def k48_r1 : List COp := [o 8 (pM 0),
o 9 (pM 1),
o 10 (pD 62 8 9 32 9),
o 7 (pM 10),
o 11 (pX 7 0),
o 12 (pX 7 1),
o 5 (pA 11),
o 6 (pA 12)]
def k48_r2 : List COp := [o 13 (pM 6),
o 14 (pK .neq 24 13 .i64 0 24)]
def k48_r3 : List COp := [o 15 (pM 6),
o 4 (pA 15)]
def k48_r4 : List COp := [o 16 (pM 0),
o 17 (pC 64 16 32)]
def k48_r5 : List COp := [o 18 (pM 0),
o 19 (pC 65 18 32),
o 4 (pA 19)]
def k48_r6 : List COp := [oX 20 (pM 5),
oX 21 (pM 5),
oX 22 (pM 5),
oX 23 (.nilCheck (.tmp 22)),
oX 24 (pF 78 23 0),
oX 25 (pL 22 24),
o 26 (pM 5),
o 27 (.nilCheck (.tmp 26)),
o 28 (pF 78 27 1),
o 29 (pL 22 28),
o 30 (.call { callee := .builtin .append, args := #[.tmp 25, .tmp 29], argTypes := #[22, 22, 0] }),
o 31 (.nilCheck (.tmp 20)),
o 32 (pF 78 31 0),
oS 22 32 30,
o 33 (.nilCheck (.tmp 21)),
o 34 (pF 78 33 1),
⟨none, .store 22 (.tmp 34) (.const (.slice .none 0 0)), none, true⟩]
def k48_r7 : List COp := [o 4 (pZ .i64 0)]
def k48 : CC := (.seq (.region k48_r0) (.seq (.region k48_r1) (.seq (.seq (.region k48_r2) (.cond (.tmp 14) (.seq (.region k48_r3) .ret) .skip)) (.seq (.seq (.region k48_r4) (.cond (.tmp 17) (.seq (.region k48_r5) .ret) .skip)) (.seq (.region k48_r6) (.seq (.region k48_r7) .ret))))))
def k48_p := PLift.up <| aI (vE k48.eq_1) <| aI (oE k48_r0.eq_1) <| aI (oE k48_r1.eq_1) <| aI (oE k48_r2.eq_1) <| aI (oE k48_r3.eq_1) <| aI (oE k48_r4.eq_1) <| aI (oE k48_r5.eq_1) <| aI (oE k48_r6.eq_1) (oE k48_r7.eq_1)
theorem k48_a : type_of% k48_p.down := k48_p.down
/-- (*quern/disk.Disk).Sync -/
theorem k48_is : FnIs Tryd.prog prims 48 35 [ResultVar.tmp 4] k48 := FnIs.of_fn Tryd.func48 (by kernel_rfl) rfl
def k52_r0 : List COp := [o 1 (.box 68 (.tmp 0)),
o 2 (.assign (.const .nilFunc))]
def k52_r1 : List COp := [o 3 (.makeFunc (.func 72) #[] #[.tmp 1]),
o 2 (pA 3)]
def k52 : CC := (.seq (.region k52_r0) (.seq (.region k52_r1) .ret))
def k52_p := PLift.up <| aI (vE k52.eq_1) <| aI (oE k52_r0.eq_1) (oE k52_r1.eq_1)
theorem k52_a : type_of% k52_p.down := k52_p.down
/-- maps.Keys[map[string]*quern/disk.file,string,*quern/disk.file] -/
theorem k52_is : FnIs Tryd.prog prims 52 4 [ResultVar.tmp 2] k52 := FnIs.of_fn Tryd.func52 (by kernel_rfl) rfl
def k54_r0 : List COp := [o 5 (pD 55 0 4 84 20)]
def k54_r1 : List COp := [o 6 (pL 24 0),
o 7 (pK .neq 24 6 .i64 0 24)]
def k54_r2 : List COp := [⟨none, .store 50 (.tmp 1) (.const (.pointer .none)), none, true⟩,
⟨none, .store 37 (.tmp 2) (.const (.slice .none 0 0)), none, true⟩,
⟨none, .store 3 (.tmp 3) (.const (.int .i64 0)), none, true⟩]
def k54 : CS := (.seq (.reg (some 4) k54_r0) (.seq (.code (.region k54_r1)) (.cond (.tmp 7) (.code (.region k54_r2)) (.code .skip))))
theorem k54_e : type_of% (@EvS_of P pr N e m σ SS _ _ k54.eq_1) := EvS_of k54.eq_1
def k54_p := PLift.up <| aI @k54_e <| aI (oE k54_r0.eq_1) <| aI (oE k54_r1.eq_1) (oE k54_r2.eq_1)
theorem k54_a : type_of% k54_p.down := k54_p.down
/-- quern/wal.Open$1 -/
theorem k54_is : FnS Tryd.prog prims 54 8 [] k54 := FnS.of_fn Tryd.func54 (by kernel_rfl)
def k55_r0 : List COp := [o 7 (pM 1)]
def k55_r3 : List COp := [o 9 (.binOp .eql 20 (.tmp 7) (.const .nilIface) 20)]
def k55_r4 : List COp := [o 4 (pA 7)]
def k55_r5 : List COp := [o 10 (.typeAssert (.tmp 7) 20 102 true),
o 11 (pX 10 1),
o 12 (pX 10 0)]
def k55_r6 : List COp := [o 5 (.alloc 102),
oS 102 5 12]
def k55_r7 : List COp := [o 13 (pM 0),
o 14 (pF 102 5 0),
o 15 (pL 24 14),
o 16 (.nilCheck (.tmp 13)),
oS 24 16 15]
def k55_r1 : List COp := [o 6 (pA 7)]
def k55_r2 : List COp := [o 8 (pM 1),
⟨none, .panic (.tmp 8), none, true⟩]
def k55 : CC := (.seq (.region k55_r0) (.block 0 (.seq (.region k55_r3) (.cond (.tmp 9) (.region k55_r4) (.seq (.region k55_r5) (.cond (.tmp 11) (.seq (.region k55_r6) (.region k55_r7)) (.seq (.region k55_r1) (.region k55_r2))))))))
def k55_p := PLift.up <| aI (vE k55.eq_1) <| aI (oE k55_r0.eq_1) <| aI (oE k55_r3.eq_1) <| aI (oE k55_r4.eq_1) <| aI (oE k55_r5.eq_1) <| aI (oE k55_r6.eq_1) <| aI (oE k55_r7.eq_1) <| aI (oE k55_r1.eq_1) (oE k55_r2.eq_1)
theorem k55_a : type_of% k55_p.down := k55_p.down
/-- quern/wal.caught -/
theorem k55_is : FnIs Tryd.prog prims 55 17 [] k55 := FnIs.of_fn Tryd.func55 (by kernel_rfl) rfl
def k56_r0 : List COp := [o 2 (pZ .i64 0)]
def k56_r1 : List COp := [o 5 (pM 0),
o 6 (pN 5 9),
o 7 (pK .neq 3 6 .i64 10 3),
o 8 (pM 7),
oF 9 (pM 0) 8,
oF 10 (.index 9 (.tmp 9) (.const (.int .i64 0))) 8,
oF 11 (pK .neq 5 10 .u8 106 5) 8,
o 12 (pV 8 11)]
def k56_r2 : List COp := [o 2 (pZ .i64 0)]
def k56_r3 : List COp := [o 14 (pM 0),
o 15 (.slice 9 (.tmp 14) (some (.const (.int .i64 1))) .none .none),
o 16 (pC 69 15 9),
o 13 (pM 16),
o 17 (pX 13 0),
o 18 (pX 13 1),
o 3 (pA 17),
o 4 (pA 18)]
def k56_r4 : List COp := [o 19 (pM 3),
o 20 (pC 32 19 3),
o 21 (pM 0),
o 22 (pB .neq 9 20 21 9)]
def k56_r5 : List COp := [o 2 (pZ .i64 0)]
def k56_r6 : List COp := [o 23 (pM 3),
o 2 (pA 23)]
def k56 : CC := (.seq (.region k56_r0) (.seq (.seq (.region k56_r1) (.cond (.tmp 12) (.seq (.region k56_r2) .ret) .skip)) (.seq (.region k56_r3) (.seq (.seq (.region k56_r4) (.cond (.tmp 22) (.seq (.region k56_r5) .ret) .skip)) (.seq (.region k56_r6) .ret)))))
def k56_p := PLift.up <| aI (vE k56.eq_1) <| aI (oE k56_r0.eq_1) <| aI (oE k56_r1.eq_1) <| aI (oE k56_r2.eq_1) <| aI (oE k56_r3.eq_1) <| aI (oE k56_r4.eq_1) <| aI (oE k56_r5.eq_1) (oE k56_r6.eq_1)
theorem k56_a : type_of% k56_p.down := k56_p.down
/-- quern/wal.number -/
theorem k56_is : FnIs Tryd.prog prims 56 24 [ResultVar.tmp 2] k56 := FnIs.of_fn Tryd.func56 (by kernel_rfl) rfl
def k57_r0 : List COp := [o 2 (pM 0),
o 3 (pK .neq 24 2 .i64 0 24)]
def k57_r1 : List COp := [o 4 (pM 0),
o 5 (.build 102 #[(0, .tmp 4)]),
o 6 (.makeInterface 102 (.tmp 5)),
⟨none, .panic (.tmp 6), none, true⟩]
def k57 : CC := (.seq (.region k57_r0) (.cond (.tmp 3) (.region k57_r1) .skip))
def k57_p := PLift.up <| aI (vE k57.eq_1) <| aI (oE k57_r0.eq_1) (oE k57_r1.eq_1)
theorem k57_a : type_of% k57_p.down := k57_p.down
/-- quern/wal.must -/
theorem k57_is : FnIs Tryd.prog prims 57 7 [] k57 := FnIs.of_fn Tryd.func57 (by kernel_rfl) rfl
def k58_r0 : List COp := [o 4 (.assign (.const (.slice .none 0 0)))]
def k58_r1 : CC := (.hreg [
(false, o 10 (pM 0)),
(false, o 11 (pM 1)),
(false, o 12 (pD 45 10 11 32 9)),
(false, o 9 (pM 12)),
(false, o 13 (pX 9 0)),
(false, o 14 (pX 9 1)),
(true, o 5 (pA 13)),
(true, o 6 (pA 14))])
def k58_r2 : List COp := [o 15 (pM 6),
o 16 (pC 57 15 24)]
def k58_r3 : List COp := [o 18 (pM 5),
o 19 (pC 30 18 22),
o 17 (pM 19),
o 20 (pX 17 0),
o 21 (pX 17 1),
o 7 (pA 20),
o 8 (pA 21)]
def k58_r4 : List COp := [o 22 (pM 8),
o 23 (pM 5),
o 24 (pN 23 22),
o 25 (pB .lss 3 22 24 3)]
def k58_r5 : List COp := [o 26 (pM 0),
o 27 (pM 1),
o 28 (pM 8),
o 29 (.call { callee := .value (.func 73), args := #[.tmp 26, .tmp 27, .tmp 28], argTypes := #[32, 9, 3] }),
o 30 (pC 57 29 24)]
def k58_r6 : List COp := [o 31 (pM 0),
o 32 (pM 1),
o 33 (pD 48 31 32 32 9),
o 34 (pC 57 33 24)]
def k58_r7 : List COp := [o 35 (pM 7),
o 4 (pA 35)]
def k58 : CC := (.seq (.region k58_r0) (.seq k58_r1 (.seq (.region k58_r2) (.seq (.region k58_r3) (.seq (.seq (.region k58_r4) (.cond (.tmp 25) (.region k58_r5) .skip)) (.seq (.region k58_r6) (.seq (.region k58_r7) .ret)))))))
def k58_p := PLift.up <| aI (vE k58.eq_1) <| aI (oE k58_r0.eq_1) <| aI (vE k58_r1.eq_1) <| aI (oE k58_r2.eq_1) <| aI (oE k58_r3.eq_1) <| aI (oE k58_r4.eq_1) <| aI (oE k58_r5.eq_1) <| aI (oE k58_r6.eq_1) (oE k58_r7.eq_1)
theorem k58_a : type_of% k58_p.down := k58_p.down
/-- quern/wal.segment -/
theorem k58_is : FnIs Tryd.prog prims 58 36 [ResultVar.tmp 4] k58 := FnIs.of_fn Tryd.func58 (by kernel_rfl) rfl
def k62_r0 : List COp := [o 4 (.assign (.const (.pointer .none))),
o 5 (pZ .i64 0)]
def k62_r1 : List COp := [o 8 (pM 0),
o 9 (pM 1),
o 10 (pD 66 8 9 32 9),
o 6 (pA 10)]
def k62_r2 : List COp := [o 11 (pM 6),
o 12 (pK .neq 24 11 .i64 0 24)]
def k62_r3 : List COp := [o 13 (pM 6),
o 4 (.assign (.const (.pointer .none))),
o 5 (pA 13)]
def k62_r4 : List COp := [o 14 (pM 0),
o 15 (.nilCheck (.tmp 14)),
o 16 (pF 70 15 0),
o 17 (pL 68 16),
o 18 (pM 1),
o 19 (.lookup 68 (.tmp 17) (.tmp 18) false),
o 7 (pA 19)]
def k62_r5 : List COp := [o 20 (pM 7),
o 21 (.binOp .eql 76 (.tmp 20) (.const (.pointer .none)) 76)]
def k62_r6 : List COp := [o 4 (.assign (.const (.pointer .none))),
o 5 (pZ .i64 21)]
def k62_r7 : List COp := [o 22 (pM 7),
o 4 (pA 22),
o 5 (pZ .i64 0)]
def k62 : CC := (.seq (.region k62_r0) (.seq (.seq (.region k62_r1) (.seq (.region k62_r2) (.cond (.tmp 12) (.seq (.region k62_r3) .ret) .skip))) (.seq (.region k62_r4) (.seq (.seq (.region k62_r5) (.cond (.tmp 21) (.seq (.region k62_r6) .ret) .skip)) (.seq (.region k62_r7) .ret)))))
def k62_p := PLift.up <| aI (vE k62.eq_1) <| aI (oE k62_r0.eq_1) <| aI (oE k62_r1.eq_1) <| aI (oE k62_r2.eq_1) <| aI (oE k62_r3.eq_1) <| aI (oE k62_r4.eq_1) <| aI (oE k62_r5.eq_1) <| aI (oE k62_r6.eq_1) (oE k62_r7.eq_1)
theorem k62_a : type_of% k62_p.down := k62_p.down
/-- (*quern/disk.Disk).there -/
theorem k62_is : FnIs Tryd.prog prims 62 23 [ResultVar.tmp 4, ResultVar.tmp 5] k62 := FnIs.of_fn Tryd.func62 (by kernel_rfl) rfl
def k63_r0 : List COp := [o 2 (.assign (.const (.slice .none 0 0)))]
def k63_r1 : List COp := [o 3 (pZ .i64 0)]
def k63_r2 : List COp := [o 9 (pM 0),
o 10 (pN 9 37),
o 11 (pW .i64 0)]
def k63_r3 : List COp := [o 12 (pB .lss 3 11 10 3)]
def k63_r4 : List COp := [o 13 (pI 37 9 11),
o 14 (pL 22 13),
o 5 (pA 14)]
def k63_r5 : List COp := [o 15 (pM 3),
o 16 (pM 5),
o 17 (pN 16 22),
o 18 (pB .add 3 15 17 3),
o 3 (pA 18)]
def k63_r6 : List COp := [o 19 (pM 3),
o 20 (pK .lss 3 19 .i64 0 3)]
def k63_r7 : List COp := [o 21 (.makeInterface 9 (.const (.string { data := #[108, 101, 110, 32, 111, 117, 116, 32, 111, 102, 32, 114, 97, 110, 103, 101] }))),
⟨none, .panic (.tmp 21), none, true⟩]
def k63_r8 : List COp := [o 22 (pK .add 3 11 .i64 1 3),
o 11 (pM 22)]
def k63_l0 : CC := (.seq (.region k63_r3) (.seq (.cond (.tmp 12) .skip (.exit 0)) (.seq (.block 1 (.seq (.region k63_r4) (.seq (.region k63_r5) (.seq (.region k63_r6) (.cond (.tmp 20) (.region k63_r7) .skip))))) (.region k63_r8))))
def k63_r9 : List COp := [o 23 (pM 3),
o 24 (.call { callee := .value (.func 75), args := #[.const (.slice .none 0 0), .tmp 23], argTypes := #[22, 3] }),
o 6 (pA 24)]
def k63_r10 : List COp := [o 25 (pM 0),
o 26 (pN 25 37),
o 27 (pW .i64 0)]
def k63_r11 : List COp := [o 28 (pB .lss 3 27 26 3)]
def k63_r12 : List COp := [o 29 (pI 37 25 27),
o 30 (pL 22 29),
o 8 (pA 30)]
def k63_r13 : CC := (.hreg [
(false, o 31 (pM 6)),
(false, o 32 (pM 8)),
(true, o 33 (pQ 31 32 22 22)),
(false, o 6 (pA 33))])
def k63_r14 : List COp := [o 34 (pK .add 3 27 .i64 1 3),
o 27 (pM 34)]
def k63_l1 : CC := (.seq (.region k63_r11) (.seq (.cond (.tmp 28) .skip (.exit 2)) (.seq (.block 3 (.seq (.region k63_r12) k63_r13)) (.region k63_r14))))
def k63_r15 : List COp := [o 35 (pM 6),
o 2 (pA 35)]
def k63 : CC := (.seq (.region k63_r0) (.seq (.region k63_r1) (.seq (.seq (.region k63_r2) (.block 0 (.loop k63_l0))) (.seq (.region k63_r9) (.seq (.seq (.region k63_r10) (.block 2 (.loop k63_l1))) (.seq (.region k63_r15) .ret))))))
def k63_p := PLift.up <| aI (vE k63.eq_1) <| aI (oE k63_r0.eq_1) <| aI (oE k63_r1.eq_1) <| aI (oE k63_r2.eq_1) <| aI (oE k63_r3.eq_1) <| aI (oE k63_r4.eq_1) <| aI (oE k63_r5.eq_1) <| aI (oE k63_r6.eq_1) <| aI (oE k63_r7.eq_1) <| aI (oE k63_r8.eq_1) <| aI (vE k63_l0.eq_1) <| aI (oE k63_r9.eq_1) <| aI (oE k63_r10.eq_1) <| aI (oE k63_r11.eq_1) <| aI (oE k63_r12.eq_1) <| aI (vE k63_r13.eq_1) <| aI (oE k63_r14.eq_1) <| aI (vE k63_l1.eq_1) (oE k63_r15.eq_1)
theorem k63_a : type_of% k63_p.down := k63_p.down
/-- slices.Concat[[]byte,byte] -/
theorem k63_is : FnIs Tryd.prog prims 63 36 [ResultVar.tmp 2] k63 := FnIs.of_fn Tryd.func63 (by kernel_rfl) rfl
def k64_r0 : List COp := [o 2 (pO false)]
def k64_r1 : List COp := [o 3 (pM 0),
o 4 (.nilCheck (.tmp 3)),
o 5 (pF 70 4 3),
o 6 (pL 3 5),
o 7 (pK .add 3 6 .i64 1 3),
o 8 (.nilCheck (.tmp 3)),
o 9 (pF 70 8 3),
oS 3 9 7]
def k64_r2 : List COp := [o 10 (pM 0),
o 11 (.nilCheck (.tmp 10)),
o 12 (pF 70 11 4),
o 13 (pL 3 12),
o 14 (pK .eql 3 13 .i64 0 3)]
def k64_r3 : List COp := [o 2 (pO false)]
def k64_r4 : List COp := [o 15 (pM 0),
o 16 (.nilCheck (.tmp 15)),
o 17 (pF 70 16 4),
o 18 (pL 3 17),
o 19 (pK .sub 3 18 .i64 1 3),
o 20 (.nilCheck (.tmp 15)),
o 21 (pF 70 20 4),
oS 3 21 19]
def k64_r5 : List COp := [o 22 (pM 0),
o 23 (.nilCheck (.tmp 22)),
o 24 (pF 70 23 4),
o 25 (pL 3 24),
o 26 (pK .eql 3 25 .i64 0 3),
o 2 (pA 26)]
def k64 : CC := (.seq (.region k64_r0) (.seq (.region k64_r1) (.seq (.seq (.region k64_r2) (.cond (.tmp 14) (.seq (.region k64_r3) .ret) .skip)) (.seq (.region k64_r4) (.seq (.region k64_r5) .ret)))))
def k64_p := PLift.up <| aI (vE k64.eq_1) <| aI (oE k64_r0.eq_1) <| aI (oE k64_r1.eq_1) <| aI (oE k64_r2.eq_1) <| aI (oE k64_r3.eq_1) <| aI (oE k64_r4.eq_1) (oE k64_r5.eq_1)
theorem k64_a : type_of% k64_p.down := k64_p.down
/-- (*quern/disk.Disk).raw -/
theorem k64_is : FnIs Tryd.prog prims 64 27 [ResultVar.tmp 2] k64 := FnIs.of_fn Tryd.func64 (by kernel_rfl) rfl
def k65_r0 : List COp := [o 2 (pZ .i64 0)]
def k65_r1 : List COp := [o 3 (pM 0),
o 4 (pM 0),
o 5 (.nilCheck (.tmp 4)),
o 6 (pF 70 5 5),
o 7 (pL 3 6),
o 8 (pD 24 3 7 32 3)]
def k65_r2 : List COp := [o 2 (pZ .i64 20)]
def k65 : CC := (.seq (.region k65_r0) (.seq (.region k65_r1) (.seq (.region k65_r2) .ret)))
def k65_p := PLift.up <| aI (vE k65.eq_1) <| aI (oE k65_r0.eq_1) <| aI (oE k65_r1.eq_1) (oE k65_r2.eq_1)
theorem k65_a : type_of% k65_p.down := k65_p.down
/-- (*quern/disk.Disk).ends -/
theorem k65_is : FnIs Tryd.prog prims 65 9 [ResultVar.tmp 2] k65 := FnIs.of_fn Tryd.func65 (by kernel_rfl) rfl
def k66_r0 : List COp := [o 4 (pZ .i64 0)]
def k66_r1 : List COp := [o 6 (pM 0),
o 7 (.binOp .eql 32 (.tmp 6) (.const (.pointer .none)) 32),
o 5 (pA 7)]
def k66_r2 : List COp := [o 4 (pZ .i64 2)]
def k66_r3 : List COp := [o 9 (pM 1),
o 10 (pC 68 9 9),
o 11 (.unOp .not 4 (.tmp 10)),
o 8 (pA 11)]
def k66_r4 : List COp := [o 4 (pZ .i64 1)]
def k66_r5 : List COp := [o 13 (pM 0),
o 14 (.nilCheck (.tmp 13)),
o 15 (pF 70 14 2),
o 16 (pL 4 15),
o 12 (pA 16)]
def k66_r6 : List COp := [o 4 (pZ .i64 20)]
def k66_r7 : List COp := [o 4 (pZ .i64 0)]
def k66 : CC := (.seq (.region k66_r0) (.seq (.block 0 (.seq (.region k66_r1) (.cond (.tmp 5) (.seq (.region k66_r2) .ret) (.seq (.region k66_r3) (.cond (.tmp 8) (.seq (.region k66_r4) .ret) (.seq (.region k66_r5) (.cond (.tmp 12) (.seq (.region k66_r6) .ret) .skip))))))) (.seq (.region k66_r7) .ret)))
def k66_p := PLift.up <| aI (vE k66.eq_1) <| aI (oE k66_r0.eq_1) <| aI (oE k66_r1.eq_1) <| aI (oE k66_r2.eq_1) <| aI (oE k66_r3.eq_1) <| aI (oE k66_r4.eq_1) <| aI (oE k66_r5.eq_1) <| aI (oE k66_r6.eq_1) (oE k66_r7.eq_1)
theorem k66_a : type_of% k66_p.down := k66_p.down
/-- (*quern/disk.Disk).ready -/
theorem k66_is : FnIs Tryd.prog prims 66 17 [ResultVar.tmp 4] k66 := FnIs.of_fn Tryd.func66 (by kernel_rfl) rfl
def k68_r0 : List COp := [o 2 (pO false)]
def k68_r1 : List COp := [o 3 (pM 0),
o 4 (pN 3 9),
o 5 (pK .geq 3 4 .i64 1 3),
o 6 (pM 5),
oT 7 (pM 0) 6,
oT 8 (pN 7 9) 6,
oT 9 (pK .leq 3 8 .i64 16 3) 6,
o 10 (pU 6 9),
o 2 (pA 10)]
def k68 : CC := (.seq (.region k68_r0) (.seq (.region k68_r1) .ret))
def k68_p := PLift.up <| aI (vE k68.eq_1) <| aI (oE k68_r0.eq_1) (oE k68_r1.eq_1)
theorem k68_a : type_of% k68_p.down := k68_p.down
/-- quern/disk.named -/
theorem k68_is : FnIs Tryd.prog prims 68 11 [ResultVar.tmp 2] k68 := FnIs.of_fn Tryd.func68 (by kernel_rfl) rfl
def k73_r0 : List COp := [o 6 (pZ .i64 0)]
def k73_r1 : List COp := [o 10 (pM 0),
o 11 (pM 1),
o 12 (pD 62 10 11 32 9),
o 9 (pM 12),
o 13 (pX 9 0),
o 14 (pX 9 1),
o 7 (pA 13),
o 8 (pA 14)]
def k73_r2 : List COp := [o 16 (pM 8),
o 17 (pK .neq 24 16 .i64 0 24),
o 15 (pA 17)]
def k73_r3 : List COp := [o 18 (pM 8),
o 6 (pA 18)]
def k73_r4 : List COp := [o 20 (pM 2),
o 21 (pK .lss 3 20 .i64 0 3),
o 22 (pM 21),
⟨some 23, .move (.tmp 2), some (22, false), false⟩,
⟨some 24, .move (.tmp 7), some (22, false), false⟩,
⟨some 25, .nilCheck (.tmp 24), some (22, false), false⟩,
⟨some 26, .fieldAddr 78 (.tmp 25) 0, some (22, false), false⟩,
⟨some 27, .load 22 (.tmp 26), some (22, false), false⟩,
⟨some 28, .call { callee := .builtin .len, args := #[.tmp 27], argTypes := #[22] }, some (22, false), false⟩,
oF 29 (pM 7) 22,
oF 30 (.nilCheck (.tmp 29)) 22,
oF 31 (pF 78 30 1) 22,
oF 32 (pL 22 31) 22,
oF 33 (pN 32 22) 22,
oF 34 (pB .add 3 28 33 3) 22,
oF 35 (pB .gtr 3 23 34 3) 22,
o 36 (pV 22 35),
o 19 (pA 36)]
def k73_r5 : List COp := [o 6 (pZ .i64 3)]
def k73_r6 : List COp := [o 37 (pM 0),
o 38 (pC 64 37 32)]
def k73_r7 : List COp := [o 39 (pM 0),
o 40 (pC 65 39 32),
o 6 (pA 40)]
def k73_r8 : List COp := [oX 41 (pM 7),
oX 42 (pM 7),
oX 43 (.nilCheck (.tmp 42)),
oX 44 (pF 78 43 1),
oX 45 (pL 22 44),
oX 46 (pM 2),
o 47 (pM 7),
o 48 (.nilCheck (.tmp 47)),
o 49 (pF 78 48 0),
o 50 (pL 22 49),
o 51 (pN 50 22),
o 52 (pB .sub 3 46 51 3),
o 53 (.call { callee := .builtin .max, args := #[.const (.int .i64 0), .tmp 52], argTypes := #[3, 3] }),
o 54 (.slice 22 (.tmp 45) .none (some (.tmp 53)) .none),
o 55 (.nilCheck (.tmp 41)),
o 56 (pF 78 55 1),
oS 22 56 54]
def k73_r9 : List COp := [oX 57 (pM 7),
oX 58 (pM 7),
oX 59 (.nilCheck (.tmp 58)),
oX 60 (pF 78 59 0),
oX 61 (pL 22 60),
oX 62 (pM 2),
o 63 (pM 7),
o 64 (.nilCheck (.tmp 63)),
o 65 (pF 78 64 0),
o 66 (pL 22 65),
o 67 (pN 66 22),
o 68 (.call { callee := .builtin .min, args := #[.tmp 62, .tmp 67], argTypes := #[3, 3] }),
o 69 (.slice 22 (.tmp 61) .none (some (.tmp 68)) .none),
o 70 (.nilCheck (.tmp 57)),
o 71 (pF 78 70 0),
oS 22 71 69]
def k73_r10 : List COp := [o 6 (pZ .i64 0)]
def k73 : CC := (.seq (.region k73_r0) (.seq (.region k73_r1) (.seq (.block 0 (.seq (.region k73_r2) (.cond (.tmp 15) (.seq (.region k73_r3) .ret) (.seq (.region k73_r4) (.cond (.tmp 19) (.seq (.region k73_r5) .ret) .skip))))) (.seq (.seq (.region k73_r6) (.cond (.tmp 38) (.seq (.region k73_r7) .ret) .skip)) (.seq (.region k73_r8) (.seq (.region k73_r9) (.seq (.region k73_r10) .ret)))))))
def k73_p := PLift.up <| aI (vE k73.eq_1) <| aI (oE k73_r0.eq_1) <| aI (oE k73_r1.eq_1) <| aI (oE k73_r2.eq_1) <| aI (oE k73_r3.eq_1) <| aI (oE k73_r4.eq_1) <| aI (oE k73_r5.eq_1) <| aI (oE k73_r6.eq_1) <| aI (oE k73_r7.eq_1) <| aI (oE k73_r8.eq_1) <| aI (oE k73_r9.eq_1) (oE k73_r10.eq_1)
theorem k73_a : type_of% k73_p.down := k73_p.down
/-- (*quern/disk.Disk).Truncate -/
theorem k73_is : FnIs Tryd.prog prims 73 72 [ResultVar.tmp 6] k73 := FnIs.of_fn Tryd.func73 (by kernel_rfl) rfl
def k75_r0 : List COp := [o 4 (.assign (.const (.slice .none 0 0)))]
def k75_r1 : List COp := [o 5 (pM 1),
o 6 (pK .lss 3 5 .i64 0 3)]
def k75_r2 : List COp := [o 7 (.makeInterface 9 (.const (.string { data := #[99, 97, 110, 110, 111, 116, 32, 98, 101, 32, 110, 101, 103, 97, 116, 105, 118, 101] }))),
⟨none, .panic (.tmp 7), none, true⟩]
def k75_r3 : CC := (.hreg [
(false, o 8 (pM 1)),
(false, o 9 (pM 0)),
(true, o 10 (.call { callee := .builtin .cap, args := #[.tmp 9], argTypes := #[22] })),
(false, o 11 (pM 0)),
(true, o 12 (pN 11 22)),
(false, o 13 (pB .sub 3 10 12 3)),
(false, o 14 (pB .sub 3 8 13 3)),
(false, o 1 (pA 14))])
def k75_r4 : List COp := [o 15 (pM 1),
o 16 (pK .gtr 3 15 .i64 0 3)]
def k75_r5 : CC := (.hreg [
(false, o 17 (pM 0)),
(false, o 18 (pM 0)),
(true, o 19 (.call { callee := .builtin .cap, args := #[.tmp 18], argTypes := #[22] })),
(false, o 20 (.slice 22 (.tmp 17) .none (some (.tmp 19)) .none)),
(false, o 21 (pM 1)),
(true, o 22 (pQ 20 21 22 3)),
(false, o 23 (pM 0)),
(true, o 24 (pN 23 22)),
(false, o 25 (.slice 22 (.tmp 22) .none (some (.tmp 24)) .none)),
(false, o 0 (pA 25))])
def k75_r6 : List COp := [o 26 (pM 0),
o 4 (pA 26)]
def k75 : CC := (.seq (.region k75_r0) (.seq (.seq (.region k75_r1) (.cond (.tmp 6) (.region k75_r2) .skip)) (.seq (.seq k75_r3 (.seq (.region k75_r4) (.cond (.tmp 16) k75_r5 .skip))) (.seq (.region k75_r6) .ret))))
def k75_p := PLift.up <| aI (vE k75.eq_1) <| aI (oE k75_r0.eq_1) <| aI (oE k75_r1.eq_1) <| aI (oE k75_r2.eq_1) <| aI (vE k75_r3.eq_1) <| aI (oE k75_r4.eq_1) <| aI (vE k75_r5.eq_1) (oE k75_r6.eq_1)
theorem k75_a : type_of% k75_p.down := k75_p.down
/-- slices.Grow[[]byte,byte] -/
theorem k75_is : FnIs Tryd.prog prims 75 27 [ResultVar.tmp 4] k75 := FnIs.of_fn Tryd.func75 (by kernel_rfl) rfl
theorem noSB : isSB Tryd.prog 3 = false ∧ isSB Tryd.prog 24 = false ∧ isSB Tryd.prog 37 = false ∧ isSB Tryd.prog 50 = false ∧ isSB Tryd.prog 102 = false ∧ isMapT Tryd.prog 22 = false ∧ isMapT Tryd.prog 40 = false ∧ isMapT Tryd.prog 57 = false ∧ isMapT Tryd.prog 68 = true ∧ isMapT Tryd.prog 70 = false ∧ isMapT Tryd.prog 78 = false ∧ isMapT Tryd.prog 86 = false ∧ True := ⟨by kernel_rfl, by kernel_rfl, by kernel_rfl, by kernel_rfl, by kernel_rfl, by kernel_rfl, by kernel_rfl, by kernel_rfl, by kernel_rfl, by kernel_rfl, by kernel_rfl, by kernel_rfl, trivial⟩
end Go.Proofs.YtnegdinonfjdfaaDoor.Q

set_option linter.unusedVariables false
set_option linter.unusedSimpArgs false
namespace Go.Proofs.YtnegdinonfjdfaaDoor.Q
open Go Go.RowKit Go.Proofs
theorem T22 : Tryd.prog.underlying 22 = some (.slice 5) := by kernel_rfl
theorem T5 : Tryd.prog.underlying 5 = some (.int .u8) := by kernel_rfl
theorem T3 : Tryd.prog.underlying 3 = some (.int .i64) := by kernel_rfl
theorem S5 : sizeT Tryd.prog 5 = some 1 := by kernel_rfl
theorem G5 : isAggT Tryd.prog 5 = some false := by kernel_rfl
theorem C5 : Tryd.prog.cellsOf 5 = 1 := by kernel_rfl
theorem G3 : isAggT Tryd.prog 3 = some false := by kernel_rfl
theorem G4 : isAggT Tryd.prog 4 = some false := by kernel_rfl
theorem S3 : sizeT Tryd.prog 3 = some 1 := by kernel_rfl
theorem BT : ByteT Tryd.prog 22 5 := ⟨T22, T5, S5, by kernel_rfl, by kernel_rfl, G5, C5⟩
def isTrue : Option (VRes × St) → Bool
  | some (.ret (.bool true), _) => true
  | _ => false
theorem isTrue_eq {o : Option (VRes × St)} (h : isTrue o = true) : ∃ σ, o = some (.ret (.bool true), σ) := by
  unfold isTrue at h
  split at h
  · exact ⟨_, rfl⟩
  · cases h
theorem wrap_nat {n : Nat} (h : n < 2 ^ 63) : IntKind.i64.wrap (n : Int) = n := wrap_i64 (by omega) (by omega)
end Go.Proofs.YtnegdinonfjdfaaDoor.Q

/- Disks, plainly: files by rising names, and what is done to them. -/
set_option linter.unusedVariables false
namespace Go.Proofs.YtnegdinonfjdfaaDoor.Q
structure Fl where
  name : List UInt8
  safe : List UInt8
  wait : List UInt8
  deriving DecidableEq, Inhabited
structure Dk where
  files : List Fl
  room : Int
  on : Bool
  writes : Nat
  armed : Nat
  keep : Int
abbrev Fl.len (f : Fl) : Nat := f.safe.length + f.wait.length
def sizeD (l : List Fl) : Nat := (l.map Fl.len).sum
def namedD (n : List UInt8) : Bool := decide (1 ≤ n.length ∧ n.length ≤ 16)
/-- 0 OK, 1 Arg, 2 Nil, 3 Long, 20 Down, 21 File, 22 Full. -/
def readyD (d : Dk) (n : List UInt8) : Nat := if namedD n = false then 1 else if d.on = false then 20 else 0
def getF (l : List Fl) (n : List UInt8) : Option Fl := l.find? fun f => decide (f.name = n)
def putF (x : Fl) (l : List Fl) : List Fl := (l.filter fun f => decide (f.name < x.name)) ++ x :: (l.filter fun f => decide (x.name < f.name))
def dropF (n : List UInt8) (l : List Fl) : List Fl := l.filter fun f => decide (f.name ≠ n)
def offF (k : Int) (f : Fl) : Fl := ⟨f.name, f.safe ++ f.wait.take k.toNat, []⟩
def offD (k : Int) (d : Dk) : Dk := if d.on = true then { d with files := d.files.map (offF k), on := false, armed := 0 } else d
/-- A raw write is counted; does the power go in it? -/
def rawD (d : Dk) : Bool × Dk := if d.armed = 0 then (false, { d with writes := d.writes + 1 }) else (decide (d.armed = 1), { d with writes := d.writes + 1, armed := d.armed - 1 })
def appendD (n b : List UInt8) (d : Dk) : Nat × Dk :=
  if readyD d n ≠ 0 then (readyD d n, d) else
  let f := (getF d.files n).getD ⟨n, [], []⟩
  if 1048576 < f.len + b.length then (3, d) else
  if ((getF d.files n).isNone = true ∧ 16 ≤ d.files.length) ∨ d.room < ((sizeD d.files + b.length : Nat) : Int) then (22, d) else
  let d2 := { d with files := putF ⟨n, f.safe, f.wait ++ b⟩ d.files }
  if (rawD d2).1 = true then (20, offD d.keep (rawD d2).2) else (0, (rawD d2).2)
def thereD (d : Dk) (n : List UInt8) : Nat := if readyD d n ≠ 0 then readyD d n else if (getF d.files n).isNone = true then 21 else 0
def syncD (n : List UInt8) (d : Dk) : Nat × Dk :=
  if thereD d n ≠ 0 then (thereD d n, d) else
  if (rawD d).1 = true then (20, offD d.keep (rawD d).2) else
  let f := (getF d.files n).getD default
  (0, { (rawD d).2 with files := putF ⟨n, f.safe ++ f.wait, []⟩ d.files })
def truncD (n : List UInt8) (k : Int) (d : Dk) : Nat × Dk :=
  if thereD d n ≠ 0 then (thereD d n, d) else
  let f := (getF d.files n).getD default
  if k < 0 ∨ (f.len : Int) < k then (3, d) else
  if (rawD d).1 = true then (20, offD d.keep (rawD d).2) else
  (0, { (rawD d).2 with files := putF ⟨n, f.safe.take k.toNat, f.wait.take (k.toNat - f.safe.length)⟩ d.files })
def renameD (a b : List UInt8) (d : Dk) : Nat × Dk :=
  if namedD a = false ∨ namedD b = false then (1, d) else
  if thereD d a ≠ 0 then (thereD d a, d) else
  if (rawD d).1 = true then (20, offD d.keep (rawD d).2) else
  let f := (getF d.files a).getD default
  (0, { (rawD d).2 with files := putF ⟨b, f.safe, f.wait⟩ (dropF a d.files) })
def removeD (n : List UInt8) (d : Dk) : Nat × Dk :=
  if thereD d n ≠ 0 then (thereD d n, d) else
  if (rawD d).1 = true then (20, offD d.keep (rawD d).2) else
  (0, { (rawD d).2 with files := dropF n d.files })
def readD (n : List UInt8) (d : Dk) : Nat × List UInt8 :=
  if thereD d n ≠ 0 then (thereD d n, []) else
  let f := (getF d.files n).getD default
  (0, f.safe ++ f.wait)
def namesD (d : Dk) : List (List UInt8) := if d.on = true then d.files.map Fl.name else []
def armD (n k : Int) (d : Dk) : Dk := { d with armed := n.toNat, keep := k }
/-- What a disk keeps to. -/
structure Dk.Ok (d : Dk) : Prop where
  rise : d.files.Pairwise fun f g => f.name < g.name
  nm : ∀ f ∈ d.files, namedD f.name = true
  few : d.files.length ≤ 16
  sm : ∀ f ∈ d.files, f.len ≤ 1048576
  arm : (d.armed : Int) ≤ 9223372036854775807
  rm : InI64 d.room
  kp : InI64 d.keep
theorem lt_irrefl' (a : List UInt8) : ¬ a < a := List.lt_irrefl a
theorem lt_trans' {a b c : List UInt8} (h : a < b) (h2 : b < c) : a < c := List.lt_trans h h2
theorem lt_or {a b : List UInt8} (h : a ≠ b) : a < b ∨ b < a := by
  rcases Classical.em (a < b) with h1 | h1
  · exact .inl h1
  · rcases Classical.em (b < a) with h2 | h2
    · exact .inr h2
    · exact absurd (List.le_antisymm h2 h1) h
theorem Dk.Ok.nodup {d : Dk} (h : d.Ok) : (d.files.map Fl.name).Nodup := by
  rw [List.nodup_iff_pairwise_ne, List.pairwise_map]
  exact h.rise.imp fun {f g} hlt (he : f.name = g.name) => lt_irrefl' f.name (by rw [← he] at hlt; exact hlt)
theorem mem_putF {x f : Fl} {l : List Fl} : f ∈ putF x l ↔ f = x ∨ (f ∈ l ∧ f.name ≠ x.name) := by
  unfold putF
  simp only [List.mem_append, List.mem_cons, List.mem_filter, decide_eq_true_eq]
  constructor
  · rintro (⟨h1, h2⟩ | rfl | ⟨h1, h2⟩)
    · exact .inr ⟨h1, fun e => lt_irrefl' x.name (by rw [e] at h2; exact h2)⟩
    · exact .inl rfl
    · exact .inr ⟨h1, fun e => lt_irrefl' x.name (by rw [e] at h2; exact h2)⟩
  · rintro (rfl | ⟨h1, h2⟩)
    · exact .inr (.inl rfl)
    · rcases lt_or h2 with h | h
      · exact .inl ⟨h1, h⟩
      · exact .inr (.inr ⟨h1, h⟩)
theorem mem_dropF {n : List UInt8} {f : Fl} {l : List Fl} : f ∈ dropF n l ↔ f ∈ l ∧ f.name ≠ n := by
  simp [dropF]
theorem rise_putF {x : Fl} {l : List Fl} (h : l.Pairwise fun f g => f.name < g.name) : (putF x l).Pairwise fun f g => f.name < g.name := by
  unfold putF
  rw [List.pairwise_append, List.pairwise_cons]
  refine ⟨h.filter _, ⟨fun g hg => ?_, h.filter _⟩, fun f hf g hg => ?_⟩
  · simpa using (List.mem_filter.1 hg).2
  · have hf2 : f.name < x.name := by simpa using (List.mem_filter.1 hf).2
    rcases List.mem_cons.1 hg with rfl | hg
    · exact hf2
    · exact lt_trans' hf2 (by simpa using (List.mem_filter.1 hg).2)
theorem rise_dropF {n : List UInt8} {l : List Fl} (h : l.Pairwise fun f g => f.name < g.name) : (dropF n l).Pairwise fun f g => f.name < g.name := h.filter _
theorem getF_some {l : List Fl} {n : List UInt8} {f : Fl} (h : getF l n = some f) : f ∈ l ∧ f.name = n := by
  unfold getF at h
  exact ⟨List.mem_of_find?_eq_some h, by simpa using List.find?_some h⟩
theorem getF_none {l : List Fl} {n : List UInt8} (h : getF l n = none) : ∀ f ∈ l, f.name ≠ n := by
  unfold getF at h
  rw [List.find?_eq_none] at h
  intro f hf e
  exact h f hf (by simp [e])
theorem mem_name {l : List Fl} (hn : (l.map Fl.name).Nodup) {f g : Fl} (hf : f ∈ l) (hg : g ∈ l) (h : f.name = g.name) : f = g := by
  induction l with
  | nil => cases hf
  | cons a l ih =>
    simp only [List.map_cons, List.nodup_cons] at hn
    rcases List.mem_cons.1 hf with rfl | hf' <;> rcases List.mem_cons.1 hg with rfl | hg'
    · rfl
    · exact absurd (by rw [h]; exact List.mem_map_of_mem hg') hn.1
    · exact absurd (by rw [← h]; exact List.mem_map_of_mem hf') hn.1
    · exact ih hn.2 hf' hg'
theorem getF_mem {l : List Fl} (hn : (l.map Fl.name).Nodup) {f : Fl} (hf : f ∈ l) : getF l f.name = some f := by
  cases h : getF l f.name with
  | none => exact absurd rfl (getF_none h f hf)
  | some g =>
    obtain ⟨h1, h2⟩ := getF_some h
    rw [mem_name hn h1 hf h2]
theorem fl_nodup {l : List Fl} (hn : (l.map Fl.name).Nodup) : l.Nodup := by
  rw [List.nodup_iff_pairwise_ne] at hn ⊢
  rw [List.pairwise_map] at hn
  exact hn.imp fun {f g} h e => h (by rw [e])
theorem fl_perm {l m : List Fl} (hl : (l.map Fl.name).Nodup) (hm : (m.map Fl.name).Nodup) (h : ∀ f, f ∈ l ↔ f ∈ m) : l.Perm m := (List.perm_ext_iff_of_nodup (fl_nodup hl) (fl_nodup hm)).2 h
theorem len_putF {x : Fl} {l : List Fl} (hr : l.Pairwise fun f g => f.name < g.name) : (putF x l).length = if (getF l x.name).isNone = true then l.length + 1 else l.length := by
  have hn : (l.map Fl.name).Nodup := by
    rw [List.nodup_iff_pairwise_ne, List.pairwise_map]
    exact hr.imp fun {f g} hlt (he : f.name = g.name) => lt_irrefl' f.name (by rw [← he] at hlt; exact hlt)
  have hn2 : ((putF x l).map Fl.name).Nodup := by
    rw [List.nodup_iff_pairwise_ne, List.pairwise_map]
    exact (rise_putF hr).imp fun {f g} hlt (he : f.name = g.name) => lt_irrefl' f.name (by rw [← he] at hlt; exact hlt)
  have hp : (putF x l).Perm (x :: dropF x.name l) := by
    refine fl_perm hn2 ?_ fun f => ?_
    · simp only [List.map_cons, List.nodup_cons]
      refine ⟨fun h => ?_, ?_⟩
      · obtain ⟨g, hg, he⟩ := List.mem_map.1 h
        exact (mem_dropF.1 hg).2 he
      · exact List.Sublist.nodup ((List.filter_sublist).map _) hn
    · rw [mem_putF, List.mem_cons, mem_dropF]
  rw [hp.length_eq, List.length_cons]
  cases h : getF l x.name with
  | none =>
    have : dropF x.name l = l := by
      unfold dropF
      rw [List.filter_eq_self]
      intro f hf
      simpa using getF_none h f hf
    simp [this]
  | some f =>
    obtain ⟨h1, h2⟩ := getF_some h
    have hq : l.Perm (f :: dropF x.name l) := by
      refine fl_perm hn ?_ fun g => ?_
      · simp only [List.map_cons, List.nodup_cons]
        refine ⟨fun h => ?_, List.Sublist.nodup ((List.filter_sublist).map _) hn⟩
        obtain ⟨g, hg, he⟩ := List.mem_map.1 h
        exact (mem_dropF.1 hg).2 (he.trans h2)
      · rw [List.mem_cons, mem_dropF]
        constructor
        · intro hg
          by_cases e : g.name = x.name
          · exact .inl (mem_name hn hg h1 (e.trans h2.symm))
          · exact .inr ⟨hg, e⟩
        · rintro (rfl | h3)
          · exact h1
          · exact h3.1
    have := hq.length_eq
    simp at this ⊢
    omega
end Go.Proofs.YtnegdinonfjdfaaDoor.Q

/- Disks as they lie in memory. -/
set_option linter.unusedVariables false
set_option linter.unusedSimpArgs false
set_option maxRecDepth 100000
namespace Go.Proofs.YtnegdinonfjdfaaDoor.Q
open Go Go.RowKit Go.Proofs
/-! ### What stays -/
structure KS (S : List Nat) (σ σ' : St) : Prop where
  ko : ∀ r o, r ∉ S → σ.objs[r]? = some o → σ'.objs[r]? = some o
  le : σ.objs.length ≤ σ'.objs.length
  tl : σ.toks.length ≤ σ'.toks.length
  tk : ∀ k, tokLive σ.toks k = true → tokLive σ'.toks k = true
theorem KS.refl (S : List Nat) (σ : St) : KS S σ σ := ⟨fun _ _ _ h => h, Nat.le_refl _, Nat.le_refl _, fun _ h => h⟩
theorem KS.trans {S S1 : List Nat} {σ σ1 σ2 : St} (h : KS S σ σ1) (h2 : KS S1 σ1 σ2) (hs : ∀ x ∈ S1, x ∈ S ∨ σ.objs.length ≤ x) : KS S σ σ2 :=
  ⟨fun r o hr ho => h2.ko r o (fun hx => by
    have := (List.getElem?_eq_some_iff.1 ho).1
    rcases hs r hx with h | h
    · exact hr h
    · omega) (h.ko r o hr ho), Nat.le_trans h.le h2.le, Nat.le_trans h.tl h2.tl, fun k hk => h2.tk k (h.tk k hk)⟩
theorem KS.trans' {S : List Nat} {σ σ1 σ2 : St} (h : KS S σ σ1) (h2 : KS S σ1 σ2) : KS S σ σ2 := h.trans h2 fun _ hx => .inl hx
theorem KS.mono {S S1 : List Nat} {σ σ1 : St} (h : KS S1 σ σ1) (hs : ∀ x ∈ S1, x ∈ S ∨ σ.objs.length ≤ x) : KS S σ σ1 := (KS.refl S σ).trans h hs
theorem KS.push (S : List Nat) (σ : St) (o : Ob) : KS S σ ⟨σ.objs ++ [o], σ.toks⟩ := ⟨fun r p _ hp => by
  simp only; rw [List.getElem?_append_left (List.getElem?_eq_some_iff.1 hp).1]; exact hp, by simp, Nat.le_refl _, fun _ h => h⟩
theorem KS.set {S : List Nat} {σ : St} {k : Nat} (hk : k ∈ S ∨ σ.objs.length ≤ k) (o : Ob) : KS S σ ⟨σ.objs.set k o, σ.toks⟩ := ⟨fun r p hr hp => by
  have h2 := (List.getElem?_eq_some_iff.1 hp).1
  simp only
  rw [List.getElem?_set_ne]
  · exact hp
  · rintro rfl
    rcases hk with hk | hk
    · exact hr hk
    · omega, by simp, Nat.le_refl _, fun _ h => h⟩
theorem Keep.ks {σ σ' : St} (h : Keep σ σ') (S : List Nat) : KS S σ σ' := by
  refine ⟨fun r o _ ho => h.1 r o ho, ?_, h.2.1, h.2.2⟩
  rcases Nat.eq_zero_or_pos σ.objs.length with h0 | h0
  · omega
  · have := (List.getElem?_eq_some_iff.1 (h.1 (σ.objs.length - 1) _ (List.getElem?_eq_getElem (by omega)))).1
    omega
theorem KS.keep {σ σ' : St} (h : KS [] σ σ') : Keep σ σ' := ⟨fun r o ho => h.ko r o (by simp) ho, h.tl, h.tk⟩
/-! ### A disk -/
abbrev Ent := Fl × FO
def fent (p : Ent) : V × V := (.str p.1.name, .optr p.2.rf 0)
structure FAt (objs : List Ob) (p : Ent) : Prop where
  ob : objs[p.2.rf]? = some (.cells [p.2.s, p.2.w])
  s : rowOf objs p.2.s = some (p.2.rs, p.1.safe.map byteV)
  w : rowOf objs p.2.w = some (p.2.rw, p.1.wait.map byteV)
  cs : p.2.cs = p.1.safe.map byteV
  ds : p.2.ds = p.1.wait.map byteV
def dcells (rm : Nat) (d : Dk) : List V := [.omap rm, .int .i64 d.room, .bool (!d.on), .int .i64 (d.writes : Nat), .int .i64 (d.armed : Nat), .int .i64 d.keep]
def foot (r rm : Nat) (fs : List Ent) : List Nat := r :: rm :: fs.flatMap fun p => p.2.ids
structure DiskAt (σ : St) (r : Nat) (d : Dk) (rm : Nat) (fs : List Ent) : Prop where
  hd : σ.objs[r]? = some (.cells (dcells rm d))
  hm : σ.objs[rm]? = some (.mp (fs.map fent))
  hf : ∀ p ∈ fs, FAt σ.objs p
  nd : (foot r rm fs).Nodup
  pm : (fs.map (·.1)).Perm d.files
theorem FAt.file {objs : List Ob} {p : Ent} (h : FAt objs p) : fileOf objs (fent p) = some p.2 := by
  have h1 := h.s
  have h2 := h.w
  rw [← h.cs] at h1
  rw [← h.ds] at h2
  simp only [fent, fileOf, h.ob, h1, h2]
theorem files_all {objs : List Ob} : ∀ {fs : List Ent}, (∀ p ∈ fs, FAt objs p) → filesOf objs (fs.map fent) = some (fs.map (·.2))
  | [], _ => rfl
  | p :: fs, h => by
    simp only [List.map_cons, filesOf, (h p (List.mem_cons_self ..)).file, files_all fun q hq => h q (List.mem_cons_of_mem _ hq)]
theorem FAt.frame {objs objs2 : List Ob} {p : Ent} (h : FAt objs p) (hk : ∀ x ∈ p.2.ids, ∀ o, objs[x]? = some o → objs2[x]? = some o) : FAt objs2 p := by
  refine ⟨hk _ (by simp [FO.ids]) _ h.ob, ?_, ?_, h.cs, h.ds⟩
  · rcases rowOf_spec h.s with ⟨e1, e2, e3⟩ | ⟨r, full, e1, e2, hr, hl, hc⟩
    · rw [← h.s]; rw [e1]; rfl
    · exact rowOf_eq h.s fun q hq => by
        rw [e2] at hq; injection hq with hq; subst hq
        rw [hr]; exact hk _ (by simp [FO.ids, e2]) _ hr
  · rcases rowOf_spec h.w with ⟨e1, e2, e3⟩ | ⟨r, full, e1, e2, hr, hl, hc⟩
    · rw [← h.w]; rw [e1]; rfl
    · exact rowOf_eq h.w fun q hq => by
        rw [e2] at hq; injection hq with hq; subst hq
        rw [hr]; exact hk _ (by simp [FO.ids, e2]) _ hr
/-- Other objects change. -/
theorem DiskAt.keep {σ σ' : St} {r rm : Nat} {d : Dk} {fs : List Ent} {S : List Nat} (h : DiskAt σ r d rm fs) (hk : KS S σ σ') (hs : ∀ x ∈ foot r rm fs, x ∉ S) : DiskAt σ' r d rm fs := by
  refine ⟨hk.ko _ _ (hs _ (by simp [foot])) h.hd, hk.ko _ _ (hs _ (by simp [foot])) h.hm, fun p hp => (h.hf p hp).frame fun x hx o ho => hk.ko _ _ (hs _ ?_) ho, h.nd, h.pm⟩
  simp only [foot, List.mem_cons, List.mem_flatMap]
  exact .inr (.inr ⟨p, hp, hx⟩)
theorem DiskAt.lt {σ : St} {r rm : Nat} {d : Dk} {fs : List Ent} (h : DiskAt σ r d rm fs) : ∀ x ∈ foot r rm fs, x < σ.objs.length := by
  intro x hx
  simp only [foot, List.mem_cons, List.mem_flatMap] at hx
  rcases hx with rfl | rfl | ⟨p, hp, hx⟩
  · exact (List.getElem?_eq_some_iff.1 h.hd).1
  · exact (List.getElem?_eq_some_iff.1 h.hm).1
  · obtain ⟨cs, hc⟩ := ids_lt (h.hf p hp).file hx
    exact (List.getElem?_eq_some_iff.1 hc).1
/-- Only its head changes. -/
theorem DiskAt.head {σ : St} {r rm : Nat} {d d2 : Dk} {fs : List Ent} (h : DiskAt σ r d rm fs) (hf : d2.files = d.files) {σ' : St} (hs : σ' = ⟨σ.objs.set r (.cells (dcells rm d2)), σ.toks⟩) : DiskAt σ' r d2 rm fs ∧ KS (foot r rm fs) σ σ' := by
  subst hs
  have hr := (List.getElem?_eq_some_iff.1 h.hd).1
  have hn := h.nd
  unfold foot at hn
  rw [List.nodup_cons, List.nodup_cons] at hn
  have hne : ∀ x, x ∈ rm :: fs.flatMap (fun p => p.2.ids) → r ≠ x := fun x hx e => hn.1 (by rw [e]; exact hx)
  refine ⟨⟨by simp only; rw [List.getElem?_set_self hr], ?_, fun p hp => (h.hf p hp).frame fun x hx o ho => ?_, h.nd, by rw [hf]; exact h.pm⟩, KS.set (.inl (by simp [foot])) _⟩
  · simp only
    rw [List.getElem?_set_ne (hne _ (List.mem_cons_self ..))]; exact h.hm
  · simp only
    rw [List.getElem?_set_ne (hne _ (List.mem_cons_of_mem _ (List.mem_flatMap.2 ⟨p, hp, hx⟩)))]; exact ho
end Go.Proofs.YtnegdinonfjdfaaDoor.Q

/- The small functions of a disk. -/
set_option linter.unusedVariables false
set_option linter.unusedSimpArgs false
set_option maxRecDepth 100000
namespace Go.Proofs.YtnegdinonfjdfaaDoor.Q
open Go Go.RowKit Go.Proofs
theorem T9 : Tryd.prog.underlying 9 = some .string := by kernel_rfl
theorem G9 : isAggT Tryd.prog 9 = some false := by kernel_rfl
theorem zeroF : zeroT Tryd.prog 76 = some .nilp := by kernel_rfl
theorem keyD : keyDesc Tryd.prog 9 = some .string := by kernel_rfl
theorem ofNilP : ofVal (.pointer none) = some .nilp := by kernel_rfl
theorem ofInt (k : IntKind) (n : Int) : ofVal (.int k n) = some (.int k n) := rfl
/-- A file is found. -/
theorem find_no {fs : List Ent} {n : List UInt8} (h : ∀ p ∈ fs, p.1.name ≠ n) (i : Nat) : vfind .string (.str n) (fs.map fent) i = some none := by
  induction fs generalizing i with
  | nil => rfl
  | cons p fs ih =>
    have h1 := h p (List.mem_cons_self ..)
    have : keyEq .string (.str n) (.str p.1.name) = some false := by simp only [keyEq]; rw [decide_eq_false (fun e => h1 e.symm)]
    simp only [List.map_cons, vfind, fent, this]
    exact ih (fun q hq => h q (List.mem_cons_of_mem _ hq)) _
theorem find_yes {a b : List Ent} {p : Ent} (h : ∀ q ∈ a, q.1.name ≠ p.1.name) (i : Nat) : vfind .string (.str p.1.name) ((a ++ p :: b).map fent) i = some (some (i + a.length, .optr p.2.rf 0)) := by
  induction a generalizing i with
  | nil => simp [vfind, fent, keyEq]
  | cons q a ih =>
    have h1 := h q (List.mem_cons_self ..)
    have : keyEq .string (.str p.1.name) (.str q.1.name) = some false := by simp only [keyEq]; rw [decide_eq_false (fun e => h1 e.symm)]
    simp only [List.cons_append, List.map_cons, vfind, fent, this]
    have := ih (fun r hr => h r (List.mem_cons_of_mem _ hr)) (i + 1)
    rw [show i + (q :: a).length = i + 1 + a.length by rw [List.length_cons]; omega]
    exact this
/-- A file of the disk, and the others. -/
structure Has (d : Dk) (fs a b : List Ent) (p : Ent) (n : List UInt8) : Prop where
  e : fs = a ++ p :: b
  nm : p.1.name = n
  g : getF d.files n = some p.1
  a : ∀ q ∈ a, q.1.name ≠ n
  b : ∀ q ∈ b, q.1.name ≠ n
theorem DiskAt.names {σ : St} {r rm : Nat} {d : Dk} {fs : List Ent} (h : DiskAt σ r d rm fs) (hok : d.Ok) : (fs.map fun p => p.1.name).Nodup := by
  have h1 := (h.pm.map Fl.name).nodup_iff.2 hok.nodup
  rwa [List.map_map] at h1
theorem DiskAt.get_no {σ : St} {r rm : Nat} {d : Dk} {fs : List Ent} (h : DiskAt σ r d rm fs) {n : List UInt8} (hg : getF d.files n = none) : ∀ p ∈ fs, p.1.name ≠ n := fun p hp =>
  getF_none hg _ (h.pm.mem_iff.1 (List.mem_map_of_mem hp))
theorem DiskAt.get_yes {σ : St} {r rm : Nat} {d : Dk} {fs : List Ent} (h : DiskAt σ r d rm fs) (hok : d.Ok) {n : List UInt8} {f : Fl} (hg : getF d.files n = some f) : ∃ a p b, Has d fs a b p n := by
  obtain ⟨hf, hn⟩ := getF_some hg
  obtain ⟨p, hp, rfl⟩ := List.mem_map.1 (h.pm.mem_iff.2 hf)
  obtain ⟨a, b, rfl⟩ := List.append_of_mem hp
  have hd := h.names hok
  rw [List.map_append, List.map_cons, List.nodup_append, List.nodup_cons] at hd
  exact ⟨a, p, b, rfl, hn, hg, fun q hq e => hd.2.2 _ (List.mem_map_of_mem hq) _ (List.mem_cons_self ..) (by rw [e, hn]), fun q hq e => hd.2.1.1 (by rw [hn, ← e]; exact List.mem_map_of_mem hq)⟩
theorem DiskAt.look_no {σ : St} {r rm : Nat} {d : Dk} {fs : List Ent} (h : DiskAt σ r d rm fs) {n : List UInt8} (hg : getF d.files n = none) : vlookup Tryd.prog σ.objs 68 (.omap rm) (.str n) false = some .nilp := by
  simp only [vlookup, pTM, h.hm, keyD, zeroF, find_no (h.get_no hg)]
  rfl
theorem DiskAt.look_yes {σ : St} {r rm : Nat} {d : Dk} {fs a b : List Ent} {p : Ent} (h : DiskAt σ r d rm fs) {n : List UInt8} (hg : Has d fs a b p n) : vlookup Tryd.prog σ.objs 68 (.omap rm) (.str n) false = some (.optr p.2.rf 0) := by
  have hm := h.hm
  rw [hg.e] at hm
  have hv := find_yes (a := a) (b := b) (p := p) (by rw [hg.nm]; exact hg.a) 0
  rw [hg.nm] at hv
  simp only [vlookup, pTM, hm, keyD, zeroF, hv]
  rfl
theorem named_does (n : List UInt8) (σ : St) : Does Tryd.prog prims 68 [.str n] σ (.ret (.bool (namedD n))) σ := by
  apply k68_is.ret (by simp)
  have e : vlen Tryd.prog 9 (.str n) = some (.int .i64 (n.length : Nat)) := by simp [vlen, T9]
  simp only [k68_a, WK, vop, evAll, evOpt, evParts, vbuiltin, vun, vextract, Nat.reduceLT, Nat.reduceEqDiff, ↓reduceIte, reduceCtorEq, Nat.reduceAdd, Int.reduceLT, Int.reduceNeg, valloc_std, noSB, vhot, List.getD_cons_zero, e]
  by_cases h1 : 1 ≤ n.length
  · have h1' : (1 : Int) ≤ (n.length : Int) := by omega
    simp only [k68_a, WK, vop, evAll, evOpt, evParts, vbuiltin, vun, vextract, Nat.reduceLT, Nat.reduceEqDiff, ↓reduceIte, reduceCtorEq, Nat.reduceAdd, Int.reduceLT, Int.reduceNeg, valloc_std, noSB, vhot, h1', decide_true, List.getD_cons_zero, e]
    by_cases h2 : n.length ≤ 16
    · have h2' : (n.length : Int) ≤ 16 := by omega
      simp [k68_a, WK, vop, evAll, evOpt, evParts, vbuiltin, vun, vextract, Nat.reduceLT, Nat.reduceEqDiff, ↓reduceIte, reduceCtorEq, Nat.reduceAdd, Int.reduceLT, Int.reduceNeg, valloc_std, noSB, vhot, h2', namedD, h1, h2]
    · have h2' : ¬ (n.length : Int) ≤ 16 := by omega
      simp [k68_a, WK, vop, evAll, evOpt, evParts, vbuiltin, vun, vextract, Nat.reduceLT, Nat.reduceEqDiff, ↓reduceIte, reduceCtorEq, Nat.reduceAdd, Int.reduceLT, Int.reduceNeg, valloc_std, noSB, vhot, h2', namedD, h1, h2]
  · have h1' : ¬ (1 : Int) ≤ (n.length : Int) := by omega
    simp only [k68_a, WK, vop, evAll, evOpt, evParts, vbuiltin, vun, vextract, Nat.reduceLT, Nat.reduceEqDiff, ↓reduceIte, reduceCtorEq, Nat.reduceAdd, Int.reduceLT, Int.reduceNeg, valloc_std, noSB, vhot, h1', decide_false]
    simp [namedD, h1]
theorem ready_does {σ : St} {r rm : Nat} {d : Dk} {fs : List Ent} (h : DiskAt σ r d rm fs) (n : List UInt8) : Does Tryd.prog prims 66 [.optr r 0, .str n] σ (.ret (.int .i64 (readyD d n : Nat))) σ := by
  apply k66_is.ret (by simp)
  simp only [k66_a, WK, vop, evAll, evOpt, evParts, vbuiltin, vun, vextract, Nat.reduceLT, Nat.reduceEqDiff, ↓reduceIte, reduceCtorEq, Nat.reduceAdd, Int.reduceLT, Int.reduceNeg, valloc_std, noSB, vhot, List.getD_cons_zero, List.getD_cons_succ, eql_optr pTD]
  refine KD.ret (named_does n σ) ?_
  simp only [k66_a, WK, vop, evAll, evOpt, evParts, vbuiltin, vun, vextract, Nat.reduceLT, Nat.reduceEqDiff, ↓reduceIte, reduceCtorEq, Nat.reduceAdd, Int.reduceLT, Int.reduceNeg, valloc_std, noSB, vhot]
  have hl : vload Tryd.prog σ.objs 4 (.optr r 2) = some (.bool (!d.on)) := by rw [vload_obj h.hd G4]; rfl
  cases hn : namedD n with
  | false => simp [k66_a, WK, vop, evAll, evOpt, evParts, vbuiltin, vun, vextract, Nat.reduceLT, Nat.reduceEqDiff, ↓reduceIte, reduceCtorEq, Nat.reduceAdd, Int.reduceLT, Int.reduceNeg, valloc_std, noSB, vhot, readyD, hn]
  | true =>
    simp only [k66_a, WK, vop, evAll, evOpt, evParts, vbuiltin, vun, vextract, Nat.reduceLT, Nat.reduceEqDiff, ↓reduceIte, reduceCtorEq, Nat.reduceAdd, Int.reduceLT, Int.reduceNeg, valloc_std, noSB, vhot, Bool.not_true, pFA r 2 (by omega), hl]
    cases ho : d.on <;> simp [k66_a, WK, vop, evAll, evOpt, evParts, vbuiltin, vun, vextract, Nat.reduceLT, Nat.reduceEqDiff, ↓reduceIte, reduceCtorEq, Nat.reduceAdd, Int.reduceLT, Int.reduceNeg, valloc_std, noSB, vhot, readyD, hn, ho]
theorem there_no {σ : St} {r rm : Nat} {d : Dk} {fs : List Ent} (h : DiskAt σ r d rm fs) (n : List UInt8) (hz : thereD d n ≠ 0) : Does Tryd.prog prims 62 [.optr r 0, .str n] σ (.ret (.tuple [.nilp, .int .i64 (thereD d n : Nat)])) σ := by
  apply k62_is.ret (by simp)
  simp only [k62_a, WK, vop, evAll, evOpt, evParts, vbuiltin, vun, vextract, Nat.reduceLT, Nat.reduceEqDiff, ↓reduceIte, reduceCtorEq, Nat.reduceAdd, Int.reduceLT, Int.reduceNeg, valloc_std, noSB, vhot, List.getD_cons_zero, List.getD_cons_succ, ofNilP]
  refine KD.ret (ready_does h n) ?_
  have hl : vload Tryd.prog σ.objs 68 (.optr r 0) = some (.omap rm) := by rw [vload_obj h.hd pGM]; rfl
  simp only [k62_a, WK, vop, evAll, evOpt, evParts, vbuiltin, vun, vextract, Nat.reduceLT, Nat.reduceEqDiff, ↓reduceIte, reduceCtorEq, Nat.reduceAdd, Int.reduceLT, Int.reduceNeg, valloc_std, noSB, vhot]
  unfold thereD at hz ⊢
  by_cases hr : readyD d n = 0
  · have hr' : ((readyD d n : Nat) : Int) = 0 := by omega
    have hr2 : ¬ readyD d n ≠ 0 := fun h => h hr
    rw [if_neg hr2] at hz ⊢
    cases hg : getF d.files n with
    | some f => rw [hg] at hz; exact absurd rfl hz
    | none =>
      simp only [k62_a, WK, vop, evAll, evOpt, evParts, vbuiltin, vun, vextract, Nat.reduceLT, Nat.reduceEqDiff, ↓reduceIte, reduceCtorEq, Nat.reduceAdd, Int.reduceLT, Int.reduceNeg, valloc_std, noSB, vhot, hr', pFA r 0 (by omega), hl, h.look_no hg, eql_nilp pTF, ofNilP]
      simp
  · have hr' : ¬ ((readyD d n : Nat) : Int) = 0 := by omega
    rw [if_pos hr]
    simp only [k62_a, WK, vop, evAll, evOpt, evParts, vbuiltin, vun, vextract, Nat.reduceLT, Nat.reduceEqDiff, ↓reduceIte, reduceCtorEq, Nat.reduceAdd, Int.reduceLT, Int.reduceNeg, valloc_std, noSB, vhot, hr', ofNilP]
theorem there_yes {σ : St} {r rm : Nat} {d : Dk} {fs a b : List Ent} {p : Ent} (h : DiskAt σ r d rm fs) {n : List UInt8} (hr : readyD d n = 0) (hg : Has d fs a b p n) : Does Tryd.prog prims 62 [.optr r 0, .str n] σ (.ret (.tuple [.optr p.2.rf 0, .int .i64 0])) σ := by
  apply k62_is.ret (by simp)
  have hl : vload Tryd.prog σ.objs 68 (.optr r 0) = some (.omap rm) := by rw [vload_obj h.hd pGM]; rfl
  have hr' : ((readyD d n : Nat) : Int) = 0 := by omega
  simp only [k62_a, WK, vop, evAll, evOpt, evParts, vbuiltin, vun, vextract, Nat.reduceLT, Nat.reduceEqDiff, ↓reduceIte, reduceCtorEq, Nat.reduceAdd, Int.reduceLT, Int.reduceNeg, valloc_std, noSB, vhot, List.getD_cons_zero, List.getD_cons_succ, ofNilP]
  refine KD.ret (ready_does h n) ?_
  simp only [k62_a, WK, vop, evAll, evOpt, evParts, vbuiltin, vun, vextract, Nat.reduceLT, Nat.reduceEqDiff, ↓reduceIte, reduceCtorEq, Nat.reduceAdd, Int.reduceLT, Int.reduceNeg, valloc_std, noSB, vhot, hr', pFA r 0 (by omega), hl, h.look_yes hg, eql_optr pTF, ofNilP]
theorem there_ok {σ : St} {r rm : Nat} {d : Dk} {fs : List Ent} (h : DiskAt σ r d rm fs) (hok : d.Ok) {n : List UInt8} (hz : thereD d n = 0) : ∃ a b p, Has d fs a b p n ∧ readyD d n = 0 := by
  unfold thereD at hz
  split at hz
  · rename_i h1; exact absurd hz h1
  · rename_i h1
    have h1 : readyD d n = 0 := Classical.byContradiction h1
    cases hg : getF d.files n with
    | none => rw [hg] at hz; cases hz
    | some f =>
      obtain ⟨a, p, b, hA⟩ := h.get_yes hok hg
      exact ⟨a, b, p, hA, h1⟩
/-- A raw write. -/
theorem raw_does {σ : St} {r rm : Nat} {d : Dk} {fs : List Ent} (h : DiskAt σ r d rm fs) (hok : d.Ok) (hw : d.writes < 4611686018427387904) :
    ∃ σ', Does Tryd.prog prims 64 [.optr r 0] σ (.ret (.bool (rawD d).1)) σ' ∧ DiskAt σ' r (rawD d).2 rm fs ∧ KS (foot r rm fs) σ σ' ∧ σ'.objs.length = σ.objs.length := by
  have key : ∃ q σ', Does Tryd.prog prims 64 [.optr r 0] σ q σ' ∧ (q = .ret (.bool (rawD d).1) ∧ DiskAt σ' r (rawD d).2 rm fs ∧ KS (foot r rm fs) σ σ' ∧ σ'.objs.length = σ.objs.length) := by
    apply k64_is.does (by simp)
    have hww : IntKind.i64.wrap ((d.writes : Int) + 1) = ((d.writes + 1 : Nat) : Int) := by rw [show (d.writes : Int) + 1 = ((d.writes + 1 : Nat) : Int) by omega]; exact wrap_nat (by omega)
    have l1 : vload Tryd.prog σ.objs 3 (.optr r 3) = some (.int .i64 (d.writes : Nat)) := by rw [vload_obj h.hd G3]; rfl
    obtain ⟨d1, hd1⟩ : ∃ d1 : Dk, d1 = { d with writes := d.writes + 1 } := ⟨_, rfl⟩
    obtain ⟨s1, hs1⟩ : ∃ s1 : St, s1 = ⟨σ.objs.set r (.cells (dcells rm d1)), σ.toks⟩ := ⟨_, rfl⟩
    have st1 : vstore Tryd.prog σ 3 (.optr r 3) (.int .i64 ((d.writes + 1 : Nat) : Int)) = some s1 := by rw [vstore_obj h.hd S3 rfl (by simp [dcells]), hs1, hd1]; rfl
    obtain ⟨D1, K1⟩ := h.head (d2 := d1) (by rw [hd1]) hs1
    have L1 : s1.objs.length = σ.objs.length := by rw [hs1]; simp
    have l2 : vload Tryd.prog s1.objs 3 (.optr r 4) = some (.int .i64 (d.armed : Nat)) := by rw [vload_obj D1.hd G3, hd1]; rfl
    simp only [k64_a, WK, vop, evAll, evOpt, evParts, vbuiltin, vun, vextract, Nat.reduceLT, Nat.reduceEqDiff, ↓reduceIte, reduceCtorEq, Nat.reduceAdd, Int.reduceLT, Int.reduceNeg, valloc_std, noSB, vhot, List.getD_cons_zero, pFA r 3 (by omega), pFA r 4 (by omega), l1, hww, st1, l2]
    by_cases ha : d.armed = 0
    · have ha' : ((d.armed : Nat) : Int) = 0 := by omega
      have e : rawD d = (false, d1) := by simp [rawD, ha, hd1]
      simp only [k64_a, WK, vop, evAll, evOpt, evParts, vbuiltin, vun, vextract, Nat.reduceLT, Nat.reduceEqDiff, ↓reduceIte, reduceCtorEq, Nat.reduceAdd, Int.reduceLT, Int.reduceNeg, valloc_std, noSB, vhot, ha', decide_true, e]
      exact ⟨D1, K1, L1⟩
    · have ha' : ¬ ((d.armed : Nat) : Int) = 0 := by omega
      have hwa : IntKind.i64.wrap ((d.armed : Int) - 1) = ((d.armed - 1 : Nat) : Int) := by
        have := hok.arm
        rw [show (d.armed : Int) - 1 = ((d.armed - 1 : Nat) : Int) by omega]; exact wrap_nat (by omega)
      obtain ⟨d2, hd2⟩ : ∃ d2 : Dk, d2 = { d with writes := d.writes + 1, armed := d.armed - 1 } := ⟨_, rfl⟩
      obtain ⟨s2, hs2⟩ : ∃ s2 : St, s2 = ⟨s1.objs.set r (.cells (dcells rm d2)), s1.toks⟩ := ⟨_, rfl⟩
      have st2 : vstore Tryd.prog s1 3 (.optr r 4) (.int .i64 ((d.armed - 1 : Nat) : Int)) = some s2 := by rw [vstore_obj D1.hd S3 rfl (by simp [dcells]), hs2, hd1, hd2]; rfl
      obtain ⟨D2, K2⟩ := D1.head (d2 := d2) (by rw [hd1, hd2]) hs2
      have L2 : s2.objs.length = σ.objs.length := by rw [hs2]; simp [L1]
      have l3 : vload Tryd.prog s2.objs 3 (.optr r 4) = some (.int .i64 ((d.armed - 1 : Nat) : Int)) := by rw [vload_obj D2.hd G3, hd2]; rfl
      have e : rawD d = (decide (d.armed = 1), d2) := by simp [rawD, ha, hd2]
      simp only [k64_a, WK, vop, evAll, evOpt, evParts, vbuiltin, vun, vextract, Nat.reduceLT, Nat.reduceEqDiff, ↓reduceIte, reduceCtorEq, Nat.reduceAdd, Int.reduceLT, Int.reduceNeg, valloc_std, noSB, vhot, pFA r 3 (by omega), pFA r 4 (by omega), ha', decide_false, hwa, st2, l3, l2, e]
      refine ⟨?_, D2, K1.trans' K2, L2⟩
      congr 2
      by_cases h1 : d.armed = 1
      · simp [h1]
      · have : ¬ ((d.armed - 1 : Nat) : Int) = 0 := by omega
        simp [h1]; omega
  obtain ⟨q, σ', h1, rfl, h2⟩ := key
  exact ⟨σ', h1, h2⟩
end Go.Proofs.YtnegdinonfjdfaaDoor.Q

/- The power goes. -/
set_option linter.unusedVariables false
set_option linter.unusedSimpArgs false
set_option maxRecDepth 100000
namespace Go.Proofs.YtnegdinonfjdfaaDoor.Q
open Go Go.RowKit Go.Proofs
theorem Does.prim {f : FuncId} {vs : List V} {σ : St} {v : V} {σ' : St} (hi : prims.is f = true) (h : prims.f f vs σ = some (v, σ')) : Does Tryd.prog prims f vs σ (.ret v) σ' := ⟨1, by rw [vcall, if_pos hi, h]; rfl⟩
def w1 (k : Int) (b : Nat) (f : FO) : List (Nat × Ob) :=
  if f.kept k = [] then [(f.rf, .cells [f.s, .nils])] else
    f.rs.toList.map (·, Ob.dead) ++ [(f.rf, .cells [.hslice b 0 1 (f.cs.length + (f.kept k).length), .nils]), (b, .cells (f.cs ++ f.kept k))]
def wAll (k : Int) : Nat → List FO → List (Nat × Ob)
  | _, [] => []
  | b, f :: fos => w1 k b f ++ wAll k (b + 1) fos
def off1 (k : Int) (b : Nat) (p : Ent) : Ent := (offF k p.1, if p.2.kept k = [] then { p.2 with w := .nils, rw := none, ds := [] } else { rf := p.2.rf, s := .hslice b 0 1 (p.2.cs.length + (p.2.kept k).length), rs := some b, cs := p.2.cs ++ p.2.kept k, w := .nils, rw := none, ds := [] })
def offL (k : Int) : Nat → List Ent → List Ent
  | _, [] => []
  | b, p :: fs => off1 k b p :: offL k (b + 1) fs
theorem fwrites_all (k : Int) : ∀ (fos : List FO) (b : Nat), (List.range fos.length).flatMap (fwrites k b fos) = wAll k b fos
  | [], b => rfl
  | f :: fos, b => by
    rw [List.length_cons, List.range_succ_eq_map, List.flatMap_cons, List.flatMap_map, wAll, ← fwrites_all k fos (b + 1)]
    congr 1
    · by_cases hk : f.kept k = []
      · rw [fwrites_none (f := f) rfl hk, w1, if_pos hk]
      · rw [fwrites_some (f := f) rfl hk, w1, if_neg hk]; rfl
    refine congrArg (fun g => List.flatMap g (List.range fos.length)) (funext fun i => ?_)
    show fwrites k b (f :: fos) (i + 1) = fwrites k (b + 1) fos i
    by_cases hk : (fos.getD i default).kept k = []
    · rw [fwrites_none (fos := f :: fos) (i := i + 1) (f := fos.getD i default) (by simp) hk, fwrites_none (fos := fos) (i := i) (f := fos.getD i default) rfl hk]
    · rw [fwrites_some (fos := f :: fos) (i := i + 1) (f := fos.getD i default) (by simp) hk, fwrites_some (fos := fos) (i := i) (f := fos.getD i default) rfl hk, show b + (i + 1) = b + 1 + i by omega]
theorem off1_ids {k : Int} {b : Nat} {p : Ent} : ∀ x ∈ (off1 k b p).2.ids, x ∈ p.2.ids ∨ x = b := by
  intro x hx
  simp only [off1] at hx
  split at hx
  · simp only [FO.ids, List.mem_cons, List.mem_append] at hx ⊢
    rcases hx with h | h | h
    · exact .inl (.inl h)
    · exact .inl (.inr (.inl h))
    · cases h
  · simp only [FO.ids, List.mem_cons, List.mem_append] at hx ⊢
    rcases hx with h | h | h
    · exact .inl (.inl h)
    · simp at h; exact .inr h
    · cases h
theorem off1_nodup {k : Int} {b : Nat} {p : Ent} (h : p.2.ids.Nodup) (hb : ∀ x ∈ p.2.ids, x < b) : (off1 k b p).2.ids.Nodup := by
  have hrf : p.2.rf < b := hb _ (by simp [FO.ids])
  simp only [off1]
  split
  · simp only [FO.ids, List.nodup_cons] at h ⊢
    refine ⟨fun hx => h.1 ?_, ?_⟩
    · simp only [Option.toList, List.append_nil, List.mem_append] at hx ⊢
      exact .inl hx
    · have := (List.nodup_append.1 h.2).1
      simpa using this
  · simp only [FO.ids, Option.toList, List.append_nil, List.nodup_cons, List.mem_singleton]
    exact ⟨by omega, by simp, by simp⟩
theorem offL_ids {k : Int} : ∀ {fs : List Ent} {b : Nat}, ∀ x ∈ (offL k b fs).flatMap (fun p => p.2.ids), x ∈ fs.flatMap (fun p => p.2.ids) ∨ b ≤ x
  | [], b, x, hx => by simp [offL] at hx
  | p :: fs, b, x, hx => by
    simp only [offL, List.flatMap_cons, List.mem_append] at hx ⊢
    rcases hx with h | h
    · rcases off1_ids x h with h | h
      · exact .inl (.inl h)
      · exact .inr (by omega)
    · rcases offL_ids x h with h | h
      · exact .inl (.inr h)
      · exact .inr (by omega)
theorem offL_nodup {k : Int} : ∀ {fs : List Ent} {b : Nat}, (fs.flatMap fun p => p.2.ids).Nodup → (∀ x ∈ fs.flatMap (fun p => p.2.ids), x < b) → ((offL k b fs).flatMap fun p => p.2.ids).Nodup
  | [], b, _, _ => by simp [offL]
  | p :: fs, b, h, hb => by
    simp only [offL, List.flatMap_cons] at h hb ⊢
    rw [List.nodup_append] at h ⊢
    have hb1 : ∀ x ∈ p.2.ids, x < b := fun x hx => hb x (List.mem_append_left _ hx)
    have hb2 : ∀ x ∈ fs.flatMap (fun p => p.2.ids), x < b := fun x hx => hb x (List.mem_append_right _ hx)
    refine ⟨off1_nodup h.1 hb1, offL_nodup h.2.1 fun x hx => by have := hb2 x hx; omega, fun x hx y hy e => ?_⟩
    subst e
    rcases off1_ids x hx with h1 | h1 <;> rcases offL_ids x hy with h2 | h2
    · exact h.2.2 x h1 x h2 rfl
    · have := hb1 x h1; omega
    · have := hb2 x h2; omega
    · omega
theorem bytes_take (l : List UInt8) (n : Nat) : (l.map byteV).take n = (l.take n).map byteV := (List.map_take ..).symm
theorem w1_at {k : Int} {b : Nat} {O : List Ob} {p : Ent} (h : FAt O p) (hn : p.2.ids.Nodup) (hb : ∀ x ∈ p.2.ids, x < b) (hl : b < O.length) :
    FAt (applyW (w1 k b p.2) O) (off1 k b p) ∧ ∀ q, q ∉ p.2.ids → q ≠ b → (applyW (w1 k b p.2) O)[q]? = O[q]? := by
  have hrf : p.2.rf < b := hb _ (by simp [FO.ids])
  have hkm : p.2.kept k = (p.1.wait.take k.toNat).map byteV := by rw [FO.kept, h.ds, bytes_take]
  by_cases hk : p.2.kept k = []
  · have e : w1 k b p.2 = [(p.2.rf, .cells [p.2.s, .nils])] := by unfold w1; rw [if_pos hk]
    have e2 : off1 k b p = (offF k p.1, { p.2 with w := .nils, rw := none, ds := [] }) := by unfold off1; rw [if_pos hk]
    have hw0 : p.1.wait.take k.toNat = [] := by rw [hk] at hkm; exact List.map_eq_nil_iff.1 hkm.symm
    rw [e, e2]
    simp only [applyW, List.foldl_cons, List.foldl_nil]
    refine ⟨⟨by simp only; rw [List.getElem?_set_self (by omega)], ?_, rfl, ?_, rfl⟩, fun q hq _ => ?_⟩
    · simp only [offF, hw0, List.append_nil]
      refine rowOf_eq h.s fun q hq => ?_
      rw [List.getElem?_set_ne]
      intro e3
      simp only [FO.ids, List.nodup_cons] at hn
      exact hn.1 (by simp [hq, e3])
    · simp only [offF, hw0, List.append_nil]; exact h.cs
    · rw [List.getElem?_set_ne]
      intro e3
      exact hq (by simp [FO.ids, e3])
  · have e : w1 k b p.2 = p.2.rs.toList.map (·, Ob.dead) ++ [(p.2.rf, .cells [.hslice b 0 1 (p.2.cs.length + (p.2.kept k).length), .nils]), (b, .cells (p.2.cs ++ p.2.kept k))] := by unfold w1; rw [if_neg hk]
    have e2 : off1 k b p = (offF k p.1, { rf := p.2.rf, s := .hslice b 0 1 (p.2.cs.length + (p.2.kept k).length), rs := some b, cs := p.2.cs ++ p.2.kept k, w := .nils, rw := none, ds := [] }) := by unfold off1; rw [if_neg hk]
    have hcat : p.2.cs ++ p.2.kept k = (p.1.safe ++ p.1.wait.take k.toNat).map byteV := by rw [h.cs, hkm, List.map_append]
    rw [e, e2, applyW_append]
    obtain ⟨O1, hO1⟩ : ∃ O1, O1 = applyW (p.2.rs.toList.map (·, Ob.dead)) O := ⟨_, rfl⟩
    have hl1 : O1.length = O.length := by rw [hO1, applyW_len]
    rw [← hO1]
    simp only [applyW, List.foldl_cons, List.foldl_nil]
    refine ⟨⟨?_, ?_, rfl, ?_, rfl⟩, fun q hq hqb => ?_⟩
    · simp only; rw [List.getElem?_set_ne (by omega), List.getElem?_set_self (by omega)]
    · simp only [rowOf]
      rw [List.getElem?_set_self (by rw [List.length_set]; omega)]
      simp only [offF, List.length_append, Nat.le_refl, ↓reduceIte]
      rw [List.take_of_length_le (by simp), hcat]
    · simp only [offF]; exact hcat
    · rw [List.getElem?_set_ne (Ne.symm hqb), List.getElem?_set_ne, hO1, applyW_ne]
      · intro hm
        rw [List.map_map, List.mem_map] at hm
        obtain ⟨x, hx, rfl⟩ := hm
        exact hq (by simp only [FO.ids, List.mem_cons, List.mem_append]; exact .inr (.inl hx))
      · intro e3
        exact hq (by simp [FO.ids, e3])
theorem offW {k : Int} : ∀ {fs : List Ent} {b : Nat} {O : List Ob}, (fs.flatMap fun p => p.2.ids).Nodup → (∀ x ∈ fs.flatMap (fun p => p.2.ids), x < b) → b + fs.length ≤ O.length → (∀ p ∈ fs, FAt O p) →
    (∀ p ∈ offL k b fs, FAt (applyW (wAll k b (fs.map (·.2))) O) p) ∧ ∀ q, q ∉ fs.flatMap (fun p => p.2.ids) → q < b → (applyW (wAll k b (fs.map (·.2))) O)[q]? = O[q]?
  | [], b, O, _, _, _, _ => ⟨fun p hp => by simp [offL] at hp, fun q _ _ => rfl⟩
  | p :: fs, b, O, hn, hb, hl, hF => by
    simp only [List.flatMap_cons, List.length_cons] at hn hb hl
    rw [List.nodup_append] at hn
    have hb1 : ∀ x ∈ p.2.ids, x < b := fun x hx => hb x (List.mem_append_left _ hx)
    have hb2 : ∀ x ∈ fs.flatMap (fun p => p.2.ids), x < b := fun x hx => hb x (List.mem_append_right _ hx)
    obtain ⟨g1, g2⟩ := w1_at (k := k) (hF p (List.mem_cons_self ..)) hn.1 hb1 (by omega)
    obtain ⟨O1, hO1⟩ : ∃ O1, O1 = applyW (w1 k b p.2) O := ⟨_, rfl⟩
    have hl1 : O1.length = O.length := by rw [hO1, applyW_len]
    rw [← hO1] at g1 g2
    have hF1 : ∀ q ∈ fs, FAt O1 q := fun q hq => (hF q (List.mem_cons_of_mem _ hq)).frame fun x hx o ho => by
      have hxm : x ∈ fs.flatMap (fun p => p.2.ids) := List.mem_flatMap.2 ⟨q, hq, hx⟩
      have := hb2 x hxm
      rw [g2 x (fun h => hn.2.2 x h x hxm rfl) (by omega)]
      exact ho
    obtain ⟨i1, i2⟩ := offW (k := k) (b := b + 1) (O := O1) hn.2.1 (fun x hx => by have := hb2 x hx; omega) (by omega) hF1
    simp only [List.map_cons, wAll, applyW_append, offL, ← hO1]
    refine ⟨fun q hq => ?_, fun q hq hqb => ?_⟩
    · rcases List.mem_cons.1 hq with rfl | hq
      · refine g1.frame fun x hx o ho => ?_
        rw [i2 x ?_ ?_]
        · exact ho
        · intro hxm
          rcases off1_ids x hx with h | h
          · exact hn.2.2 x h x hxm rfl
          · have := hb2 x hxm; omega
        · rcases off1_ids x hx with h | h
          · have := hb1 x h; omega
          · omega
      · exact i1 q hq
    · rw [List.flatMap_cons, List.mem_append] at hq
      rw [i2 q (fun h => hq (.inr h)) (by omega), g2 q (fun h => hq (.inl h)) (by omega)]
theorem offL_ent {k : Int} : ∀ {fs : List Ent} {b : Nat}, (offL k b fs).map fent = fs.map fent
  | [], b => rfl
  | p :: fs, b => by
    simp only [offL, List.map_cons, offL_ent (k := k) (fs := fs) (b := b + 1)]
    congr 1
    simp only [fent, off1, offF]
    split <;> rfl
theorem offL_fst {k : Int} : ∀ {fs : List Ent} {b : Nat}, (offL k b fs).map (·.1) = (fs.map (·.1)).map (offF k)
  | [], b => rfl
  | p :: fs, b => by
    simp only [offL, List.map_cons, offL_fst (k := k) (fs := fs) (b := b + 1)]
    rfl
theorem off_does {σ : St} {r rm : Nat} {d : Dk} {fs : List Ent} (h : DiskAt σ r d rm fs) (hok : d.Ok) (k : Int) :
    ∃ σ' fs', Does Tryd.prog prims 24 [.optr r 0, .int .i64 k] σ (.ret (.tuple [])) σ' ∧ DiskAt σ' r (offD k d) rm fs' ∧ KS (foot r rm fs) σ σ' ∧ ∀ x ∈ foot r rm fs', x ∈ foot r rm fs ∨ σ.objs.length ≤ x := by
  cases hon : d.on with
  | false =>
    refine ⟨σ, fs, Does.prim (by kernel_rfl) ?_, by simp only [offD, hon]; exact h, KS.refl _ _, fun x hx => .inl hx⟩
    simp only [prims]
    rw [if_neg (by decide +kernel), if_pos trivial]
    simp only [offP, h.hd, dcells, hon, Bool.not_false, ↓reduceIte]
  | true =>
    have hnd := h.nd
    unfold foot at hnd
    rw [List.nodup_cons, List.nodup_cons] at hnd
    have hlt := h.lt
    have hids : ∀ x ∈ fs.flatMap (fun p => p.2.ids), x < σ.objs.length := fun x hx => hlt x (by simp only [foot, List.mem_cons]; exact .inr (.inr hx))
    have hrl := hlt r (by simp [foot])
    have hml := hlt rm (by simp [foot])
    have hne : r ≠ rm := fun e => hnd.1 (by rw [e]; exact List.mem_cons_self ..)
    have hfm : (fs.map (·.2)).flatMap FO.ids = fs.flatMap fun p => p.2.ids := by rw [List.flatMap_map]
    obtain ⟨O, hO⟩ : ∃ O, O = σ.objs ++ [Ob.dead] ++ List.replicate fs.length Ob.unb := ⟨_, rfl⟩
    have hOl : O.length = σ.objs.length + 1 + fs.length := by rw [hO]; simp; omega
    have hOo : ∀ q, q < σ.objs.length → O[q]? = σ.objs[q]? := fun q hq => by
      rw [hO, List.getElem?_append_left (by simp; omega), List.getElem?_append_left hq]
    have hFO : ∀ p ∈ fs, FAt O p := fun p hp => (h.hf p hp).frame fun x hx o ho => by
      rw [hOo x (hids x (List.mem_flatMap.2 ⟨p, hp, hx⟩))]; exact ho
    obtain ⟨i1, i2⟩ := offW (k := k) (b := σ.objs.length + 1) (O := O) hnd.2.2 (fun x hx => by have := hids x hx; omega) (by omega) hFO
    obtain ⟨O1, hO1⟩ : ∃ O1, O1 = applyW (wAll k (σ.objs.length + 1) (fs.map (·.2))) O := ⟨_, rfl⟩
    have hO1l : O1.length = O.length := by rw [hO1, applyW_len]
    rw [← hO1] at i1 i2
    have hrn : r ∉ fs.flatMap fun p => p.2.ids := fun hx => hnd.1 (List.mem_cons_of_mem _ hx)
    have hd2 : offD k d = { d with files := d.files.map (offF k), on := false, armed := 0 } := by simp [offD, hon]
    have hids2 : ∀ x ∈ (offL k (σ.objs.length + 1) fs).flatMap (fun p => p.2.ids), x ∈ fs.flatMap (fun p => p.2.ids) ∨ σ.objs.length + 1 ≤ x := fun x hx => offL_ids x hx
    refine ⟨⟨O1.set r (.cells (dcells rm (offD k d))), σ.toks⟩, offL k (σ.objs.length + 1) fs, Does.prim (by kernel_rfl) ?_, ⟨?_, ?_, fun p hp => (i1 p hp).frame fun x hx o ho => ?_, ?_, ?_⟩, ⟨fun q o hq ho => ?_, ?_, Nat.le_refl _, fun _ h => h⟩, fun x hx => ?_⟩
    · simp only [prims]
      rw [if_neg (by decide +kernel), if_pos trivial]
      have hc : (((fs.map (·.2)).flatMap FO.ids).Nodup ∧ r ∉ (fs.map (·.2)).flatMap FO.ids ∧ ((fs.map (·.2)).all fun f => (f.kept k).all one && decide (f.cs.length + (f.kept k).length ≤ 140737488355328)) = true) := by
        rw [hfm]
        refine ⟨hnd.2.2, hrn, ?_⟩
        rw [List.all_eq_true]
        intro f hf
        obtain ⟨p, hp, rfl⟩ := List.mem_map.1 hf
        have hF := h.hf p hp
        have hsm := hok.sm p.1 (h.pm.mem_iff.1 (List.mem_map_of_mem hp))
        have hkm : p.2.kept k = (p.1.wait.take k.toNat).map byteV := by rw [FO.kept, hF.ds, bytes_take]
        rw [hkm, hF.cs, Bool.and_eq_true, decide_eq_true_eq]
        refine ⟨byteV_one _, ?_⟩
        simp only [Fl.len, List.length_map, List.length_take] at hsm ⊢
        omega
      simp only [offP, h.hd, dcells, hon, Bool.not_true, Bool.false_eq_true, ↓reduceIte, h.hm, files_all h.hf]
      rw [if_pos hc, List.length_map, ← hO]
      have := fwrites_all k (fs.map (·.2)) (σ.objs.length + 1)
      rw [List.length_map] at this
      rw [this, ← hO1, hd2]
      rfl
    · simp only; rw [List.getElem?_set_self (by omega)]
    · simp only
      rw [List.getElem?_set_ne hne, i2 rm hnd.2.1 (by omega), hOo rm hml, offL_ent]
      exact h.hm
    · simp only
      rw [List.getElem?_set_ne]
      · exact ho
      · rintro rfl
        rcases hids2 r (List.mem_flatMap.2 ⟨p, hp, hx⟩) with h | h
        · exact hrn h
        · omega
    · unfold foot
      rw [List.nodup_cons, List.nodup_cons]
      refine ⟨fun hx => ?_, fun hx => ?_, offL_nodup hnd.2.2 fun x hx => by have := hids x hx; omega⟩
      · rcases List.mem_cons.1 hx with e | hx
        · exact hne e
        · rcases hids2 _ hx with h | h
          · exact hrn h
          · omega
      · rcases hids2 _ hx with h | h
        · exact hnd.2.1 h
        · omega
    · rw [offL_fst, hd2]
      exact h.pm.map _
    · have hql := (List.getElem?_eq_some_iff.1 ho).1
      simp only [foot, List.mem_cons, not_or] at hq
      simp only
      rw [List.getElem?_set_ne (Ne.symm hq.1), i2 q hq.2.2 (by omega), hOo q hql]
      exact ho
    · simp only [List.length_set]; omega
    · simp only [foot, List.mem_cons] at hx ⊢
      rcases hx with h | h | h
      · exact .inl (.inl h)
      · exact .inl (.inr (.inl h))
      · rcases hids2 x h with h | h
        · exact .inl (.inr (.inr h))
        · exact .inr (by omega)
theorem ends_does {σ : St} {r rm : Nat} {d : Dk} {fs : List Ent} (h : DiskAt σ r d rm fs) (hok : d.Ok) :
    ∃ σ' fs', Does Tryd.prog prims 65 [.optr r 0] σ (.ret (.int .i64 20)) σ' ∧ DiskAt σ' r (offD d.keep d) rm fs' ∧ KS (foot r rm fs) σ σ' ∧ ∀ x ∈ foot r rm fs', x ∈ foot r rm fs ∨ σ.objs.length ≤ x := by
  obtain ⟨σ', fs', h1, h2, h3, h4⟩ := off_does h hok d.keep
  refine ⟨σ', fs', ?_, h2, h3, h4⟩
  have key : ∃ q s, Does Tryd.prog prims 65 [.optr r 0] σ q s ∧ (q = .ret (.int .i64 20) ∧ s = σ') := by
    apply k65_is.does (by simp)
    have l1 : vload Tryd.prog σ.objs 3 (.optr r 5) = some (.int .i64 d.keep) := by rw [vload_obj h.hd G3]; rfl
    simp only [k65_a, WK, vop, evAll, evOpt, evParts, vbuiltin, vun, vextract, Nat.reduceLT, Nat.reduceEqDiff, ↓reduceIte, reduceCtorEq, Nat.reduceAdd, Int.reduceLT, Int.reduceNeg, valloc_std, noSB, vhot, List.getD_cons_zero, pFA r 5 (by omega), l1]
    refine KD.ret h1 ?_
    simp only [k65_a, WK, vop, evAll, evOpt, evParts, vbuiltin, vun, vextract, Nat.reduceLT, Nat.reduceEqDiff, ↓reduceIte, reduceCtorEq, Nat.reduceAdd, Int.reduceLT, Int.reduceNeg, valloc_std, noSB, vhot]
  obtain ⟨q, s, h5, rfl, rfl⟩ := key
  exact h5
end Go.Proofs.YtnegdinonfjdfaaDoor.Q

set_option linter.unusedVariables false
set_option linter.unusedSimpArgs false
set_option maxRecDepth 100000
namespace Go.Proofs.YtnegdinonfjdfaaDoor.Q
open Go Go.RowKit Go.Proofs
theorem IT : IntT Tryd.prog 38 3 := ⟨by kernel_rfl, T3, by kernel_rfl, by kernel_rfl, by kernel_rfl, by kernel_rfl, by kernel_rfl⟩
/-- v is a written row: the whole of object r, that has these bytes. -/
def HB (σ : St) (v : V) (r : Nat) (bs : List UInt8) : Prop := v = .hslice r 0 1 bs.length ∧ σ.objs[r]? = some (.cells (bs.map byteV))
theorem HB.keep {σ σ' : St} {v : V} {r : Nat} {bs : List UInt8} (h : HB σ v r bs) (hk : Keep σ σ') : HB σ' v r bs := ⟨h.1, hk.1 _ _ h.2⟩
theorem HB.lt {σ : St} {v : V} {r : Nat} {bs : List UInt8} (h : HB σ v r bs) : r < σ.objs.length := (List.getElem?_eq_some_iff.1 h.2).1
/-- A row of bytes, written or not. -/
def RB (σ : St) (v : V) (bs : List UInt8) : Prop := BtsV v bs ∨ ∃ r off cs, v = .hslice r off 1 bs.length ∧ σ.objs[r]? = some (.cells cs) ∧ off + bs.length ≤ cs.length ∧ (cs.drop off).take bs.length = bs.map byteV
theorem HB.rb {σ : St} {v : V} {r : Nat} {bs : List UInt8} (h : HB σ v r bs) : RB σ v bs := .inr ⟨r, 0, _, h.1, h.2, by simp, by rw [List.drop_zero]; exact List.take_of_length_le (by simp)⟩
theorem RB.keep {σ σ' : St} {v : V} {bs : List UInt8} (h : RB σ v bs) (hk : Keep σ σ') : RB σ' v bs := by
  rcases h with h | ⟨r, off, cs, h1, h2, h3⟩
  · exact .inl h
  · exact .inr ⟨r, off, cs, h1, hk.1 _ _ h2, h3⟩
theorem RB.len {σ : St} {v : V} {bs : List UInt8} (h : RB σ v bs) : vlen Tryd.prog 22 v = some (.int .i64 (bs.length : Nat)) := by
  rcases h with h | ⟨r, off, cs, rfl, _⟩
  · exact h.len T22
  · simp [vlen, T22]
theorem RB.news {σ : St} {v : V} {bs : List UInt8} (h : RB σ v bs) : vnewsO Tryd.prog σ.objs 22 v 1 = some (bs.map byteV, bs.length) := by
  rcases h with h | ⟨r, off, cs, rfl, h2, h3, h4⟩
  · refine vnewsO_of ?_
    rcases h with ⟨rfl, rfl⟩ | ⟨p, rfl⟩ <;> simp [vnews, T22]
  · simp [vnewsO, vnews, T22, h2, h3, h4]
/-- Its places. -/
theorem RB.at {σ : St} {v : V} {bs : List UInt8} (h : RB σ v bs) {i : Nat} (hi : i < bs.length) : ∃ p, vindexAddr Tryd.prog 22 v (.int .i64 (i : Int)) = some p ∧ vload Tryd.prog σ.objs 5 p = some (.int .u8 (bs[i].toNat : Nat)) := by
  have hi' : (i : Int) < bs.length := by omega
  rcases h with h | ⟨r, off, cs, rfl, h2, h3, h4⟩
  · refine ⟨_, h.addr T22 S5 (Int.natCast_nonneg i) hi', ?_⟩
    have := BtsV.load (P := Tryd.prog) (objs := σ.objs) G5 hi
    simpa using this
  · refine ⟨.optr r (off + i), by simp [vindexAddr, T22, S5, hi'], ?_⟩
    have h5 : cs[off + i]? = some (byteV bs[i]) := by
      have := congrArg (·[i]?) h4
      simp only [List.getElem?_take_of_lt hi, List.getElem?_drop, List.getElem?_map, List.getElem?_eq_getElem hi] at this
      simpa using this
    rw [vload_obj h2 G5, h5]
    rfl
theorem HB.slice {σ : St} {v : V} {r : Nat} {bs : List UInt8} (h : HB σ v r bs) {n : Nat} (hn : n ≤ bs.length) (hl : bs.length ≤ 1000000000) : ∃ w, vslice Tryd.prog 22 v none (some (.int .i64 (n : Int))) none = some w ∧ RB σ w (bs.take n) := by
  have hb : vbounds bs.length none (some (.int .i64 (n : Int))) none = some (0, n, none) := vbounds_hi (by omega) (by omega)
  refine ⟨.hslice r 0 1 n, by rw [h.1]; simp [vslice, T22, S5, hb], .inr ⟨r, 0, _, by rw [List.length_take, Nat.min_eq_left hn], h.2, by rw [List.length_take, List.length_map]; omega, ?_⟩⟩
  rw [List.drop_zero, List.length_take, Nat.min_eq_left hn, ← List.map_take]
/-! ### Rows that are made as objects -/
theorem made {σ : St} (v : V) (bs : List UInt8) (hv : v = .hslice σ.objs.length 0 1 bs.length) : HB ⟨σ.objs ++ [.cells (bs.map byteV)], σ.toks⟩ v σ.objs.length bs := ⟨hv, push_new _ _⟩
/-- An append behind such a row. -/
theorem HB.append {σ : St} {v y : V} {r : Nat} {bs ys : List UInt8} (h : HB σ v r bs) (hy : RB σ y ys) (hl : bs.length + ys.length ≤ 140737488355328) :
    ∃ v' r' σ', vappendRow Tryd.prog σ 22 22 v y = some (v', σ') ∧ HB σ' v' r' (bs ++ ys) ∧ KeepX r σ σ' ∧ (r' = r ∨ σ.objs.length ≤ r') := by
  have hb := BT.b
  have hz := BT.z
  have hn := hy.news
  rw [h.1]
  by_cases hm : ys.length = 0
  · have : ys = [] := List.length_eq_zero_iff.1 hm
    subst this
    refine ⟨_, r, σ, ?_, by rw [List.append_nil]; exact ⟨rfl, h.2⟩, KeepX.refl _ _, .inl rfl⟩
    simp [vappendRow, T22, hb, S5, hz, vcells, hn]
  · refine ⟨.hslice σ.objs.length 0 1 (bs ++ ys).length, σ.objs.length, ⟨σ.objs.set r .dead ++ [.cells ((bs ++ ys).map byteV)], σ.toks⟩, ?_, ⟨rfl, ?_⟩, ⟨fun q o hq ho => ?_, Nat.le_refl _, fun _ h => h⟩, .inr (Nat.le_refl _)⟩
    · have h1 := byteV_one ys
      have h2 : List.take bs.length (bs.map byteV) = bs.map byteV := List.take_of_length_le (by simp)
      simp [vappendRow, T22, hb, S5, hz, vcells, hn, hm, h.2, hl, h1, h2]
    · have := push_new (σ.objs.set r .dead) (Ob.cells ((bs ++ ys).map byteV))
      rwa [List.length_set] at this
    · have hql : q < σ.objs.length := (List.getElem?_eq_some_iff.1 ho).1
      simp only
      rw [List.getElem?_append_left (by rw [List.length_set]; exact hql), List.getElem?_set_ne (Ne.symm hq)]
      exact ho
end Go.Proofs.YtnegdinonfjdfaaDoor.Q

/- Files change. -/
set_option linter.unusedVariables false
set_option linter.unusedSimpArgs false
set_option maxRecDepth 100000
namespace Go.Proofs.YtnegdinonfjdfaaDoor.Q
open Go Go.RowKit Go.Proofs
theorem SBB : sizeT Tryd.prog 22 = some 1 := pSB
theorem bInfo : (Tryd.prog.info? 5).map (·.bytes) = some 1 := by kernel_rfl
theorem bZero : zeroT Tryd.prog 5 = some (.int .u8 0) := by kernel_rfl
/-- An append behind a row. -/
theorem rowApp {σ : St} {s w' : V} {q : Option Nat} {cs ys : List V} (h : rowOf σ.objs s = some (q, cs)) (hw : vnewsO Tryd.prog σ.objs 22 w' 1 = some (ys, ys.length)) (ho : ys.all one = true) (hl : cs.length + ys.length ≤ 140737488355328) :
    ∃ s' q' σ', vappendRow Tryd.prog σ 22 22 s w' = some (s', σ') ∧ rowOf σ'.objs s' = some (q', cs ++ ys) ∧ KS q.toList σ σ' ∧ (∀ x ∈ q'.toList, x ∈ q.toList ∨ σ.objs.length ≤ x) ∧ one s' = true := by
  have ha := off_append (toks := σ.toks) h hw ho hl
  by_cases h0 : ys = []
  · rw [if_pos h0] at ha
    refine ⟨s, q, σ, ha, by rw [h0, List.append_nil]; exact h, KS.refl _ _, fun x hx => .inl hx, ?_⟩
    rcases rowOf_spec h with ⟨rfl, _⟩ | ⟨r, full, rfl, _⟩ <;> rfl
  · rw [if_neg h0] at ha
    refine ⟨_, some σ.objs.length, _, ha, ?_, ⟨fun r o hr ho => ?_, ?_, Nat.le_refl _, fun _ h => h⟩, fun x hx => ?_, rfl⟩
    · have e : (applyW (q.toList.map (·, Ob.dead)) σ.objs).length = σ.objs.length := applyW_len _ _
      have := push_new (applyW (q.toList.map (·, Ob.dead)) σ.objs) (.cells (cs ++ ys))
      rw [e] at this
      simp only [rowOf, this, List.length_append, Nat.le_refl, ↓reduceIte]
      rw [List.take_of_length_le (by simp)]
    · have hrl := (List.getElem?_eq_some_iff.1 ho).1
      simp only
      rw [List.getElem?_append_left (by rw [applyW_len]; exact hrl), applyW_ne]
      · exact ho
      · rw [List.map_map]
        intro hx
        obtain ⟨y, hy, rfl⟩ := List.mem_map.1 hx
        exact hr hy
    · simp only [List.length_append, applyW_len]; omega
    · simp at hx; exact .inr (by omega)
theorem rowOf_one {objs : List Ob} {v : V} {q : Option Nat} {cs : List V} (h : rowOf objs v = some (q, cs)) : one v = true := by
  rcases rowOf_spec h with ⟨rfl, _⟩ | ⟨r, full, rfl, _⟩ <;> rfl
theorem rowOf_len {objs : List Ob} {v : V} {q : Option Nat} {cs : List V} (h : rowOf objs v = some (q, cs)) : vlen Tryd.prog 22 v = some (.int .i64 (cs.length : Nat)) := by
  rcases rowOf_spec h with ⟨rfl, rfl, rfl⟩ | ⟨r, full, rfl, _⟩ <;> simp [vlen, pTB]
theorem rowOf_rl {objs : List Ob} {v : V} {q : Option Nat} {cs : List V} (h : rowOf objs v = some (q, cs)) : rowLen v = some cs.length := by
  rcases rowOf_spec h with ⟨rfl, rfl, rfl⟩ | ⟨r, full, rfl, _⟩ <;> simp [rowLen]
/-- A row of bytes. -/
theorem rowOf_rb {σ : St} {v : V} {q : Option Nat} {bs : List UInt8} (h : rowOf σ.objs v = some (q, bs.map byteV)) : RB σ v bs := by
  rcases rowOf_spec h with ⟨rfl, rfl, h0⟩ | ⟨r, full, rfl, rfl, hr, hl, hc⟩
  · exact .inl (.inl ⟨rfl, List.map_eq_nil_iff.1 h0⟩)
  · simp only [List.length_map] at hl hc ⊢
    exact .inr ⟨r, 0, full, rfl, hr, by omega, by rw [List.drop_zero]; exact hc.symm⟩
theorem rowOf_frame {objs objs2 : List Ob} {v : V} {q : Option Nat} {cs : List V} (h : rowOf objs v = some (q, cs)) (hk : ∀ x ∈ q.toList, ∀ o, objs[x]? = some o → objs2[x]? = some o) : rowOf objs2 v = some (q, cs) := by
  rcases rowOf_spec h with ⟨rfl, rfl, rfl⟩ | ⟨r, full, e1, e2, hr, hl, hc⟩
  · rfl
  · exact rowOf_eq h fun x hx => by
      rw [e2] at hx; injection hx with hx; subst hx
      rw [hr]; exact hk _ (by simp [e2]) _ hr
/-- Its first part. -/
theorem rowOf_take {objs : List Ob} {v : V} {q : Option Nat} {cs : List V} (h : rowOf objs v = some (q, cs)) {n : Nat} (hn : n ≤ cs.length) : ∃ v', vslice Tryd.prog 22 v none (some (.int .i64 (n : Int))) none = some v' ∧ rowOf objs v' = some (q, cs.take n) := by
  have hb := vbounds_hi (k := .i64) (n := (n : Int)) (len := cs.length) (by omega) (by omega)
  rcases rowOf_spec h with ⟨rfl, rfl, rfl⟩ | ⟨r, full, rfl, rfl, hr, hl, hc⟩
  · have : n = 0 := by simpa using hn
    subst this
    exact ⟨.nils, by kernel_rfl, rfl⟩
  · refine ⟨.hslice r 0 1 n, ?_, ?_⟩
    · simp only [vslice, pTB, pS1, hb]
      simp
    · have h1 : full.take n = cs.take n := by rw [hc, List.take_take, Nat.min_eq_left]; omega
      simp only [rowOf, hr]
      rw [if_pos (by omega), h1]
/-! ### A file changes -/
theorem flat_mid (a b : List Ent) (p : Ent) : ((a ++ p :: b).flatMap fun p => p.2.ids) = (a.flatMap fun p => p.2.ids) ++ (p.2.ids ++ b.flatMap fun p => p.2.ids) := by simp
/-- The names of the objects of a disk whose file changed. -/
theorem nodup_mid {A I J B : List Nat} {n : Nat} (h : (A ++ (I ++ B)).Nodup) (hl : ∀ x ∈ A ++ (I ++ B), x < n) (hj : J.Nodup) (hs : ∀ x ∈ J, x ∈ I ∨ n ≤ x) : (A ++ (J ++ B)).Nodup := by
  rw [List.nodup_append, List.nodup_append] at h ⊢
  obtain ⟨h1, ⟨h2, h3, h4⟩, h5⟩ := h
  refine ⟨h1, ⟨hj, h3, fun x hx y hy e => ?_⟩, fun x hx y hy e => ?_⟩
  · rcases hs x hx with h | h
    · exact h4 x h y hy e
    · have := hl y (by simp [hy]); omega
  · rcases List.mem_append.1 hy with hy | hy
    · rcases hs y hy with h | h
      · exact h5 x hx y (List.mem_append_left _ h) e
      · have := hl x (by simp [hx]); omega
    · exact h5 x hx y (List.mem_append_right _ hy) e
theorem putF_perm {l : List Fl} {f x : Fl} {A B : List Fl} (hr : l.Pairwise fun f g => f.name < g.name) (hp : (A ++ f :: B).Perm l) (hx : x.name = f.name) : (A ++ x :: B).Perm (putF x l) := by
  have hnl : (l.map Fl.name).Nodup := by
    rw [List.nodup_iff_pairwise_ne, List.pairwise_map]
    exact hr.imp fun {f g} hlt (he : f.name = g.name) => lt_irrefl' f.name (by rw [← he] at hlt; exact hlt)
  have hn2 : ((putF x l).map Fl.name).Nodup := by
    rw [List.nodup_iff_pairwise_ne, List.pairwise_map]
    exact (rise_putF hr).imp fun {f g} hlt (he : f.name = g.name) => lt_irrefl' f.name (by rw [← he] at hlt; exact hlt)
  have hn1 : ((A ++ f :: B).map Fl.name).Nodup := (hp.map _).nodup_iff.2 hnl
  have hn3 : ((A ++ x :: B).map Fl.name).Nodup := by
    simp only [List.map_append, List.map_cons, hx] at hn1 ⊢
    exact hn1
  refine fl_perm hn3 hn2 fun g => ?_
  rw [mem_putF, ← hp.mem_iff, List.mem_append, List.mem_cons, List.mem_append, List.mem_cons]
  have hA : ∀ g, g ∈ A → g.name ≠ x.name := fun g hg e => by
    simp only [List.map_append, List.map_cons] at hn3
    rw [List.nodup_append] at hn3
    exact hn3.2.2 _ (List.mem_map_of_mem hg) _ (List.mem_cons_self ..) e
  have hB : ∀ g, g ∈ B → g.name ≠ x.name := fun g hg e => by
    simp only [List.map_append, List.map_cons] at hn3
    rw [List.nodup_append, List.nodup_cons] at hn3
    exact hn3.2.1.1 (by rw [← e]; exact List.mem_map_of_mem hg)
  constructor
  · rintro (h | rfl | h)
    · exact .inr ⟨.inl h, hA g h⟩
    · exact .inl rfl
    · exact .inr ⟨.inr (.inr h), hB g h⟩
  · rintro (rfl | ⟨h | rfl | h, h2⟩)
    · exact .inr (.inl rfl)
    · exact .inl h
    · exact absurd hx.symm h2
    · exact .inr (.inr h)
theorem DiskAt.change {σ σ' : St} {r rm : Nat} {d d2 : Dk} {fs a b : List Ent} {p p' : Ent} {n : List UInt8} (h : DiskAt σ r d rm fs) (hok : d.Ok) (hA : Has d fs a b p n) (hk : KS p.2.ids σ σ') (hF : FAt σ'.objs p') (hrf : p'.2.rf = p.2.rf) (hn : p'.1.name = n)
    (hnd : p'.2.ids.Nodup) (hids : ∀ x ∈ p'.2.ids, x ∈ p.2.ids ∨ σ.objs.length ≤ x) (hd2 : d2 = { d with files := putF p'.1 d.files }) : DiskAt σ' r d2 rm (a ++ p' :: b) ∧ KS (foot r rm fs) σ σ' ∧ ∀ x ∈ foot r rm (a ++ p' :: b), x ∈ foot r rm fs ∨ σ.objs.length ≤ x := by
  have hlt := h.lt
  have hN := h.nd
  have hfs := hA.e
  subst hfs
  have hpm := h.pm
  have hN0 := hN
  unfold foot at hN
  rw [List.nodup_cons, List.nodup_cons, flat_mid] at hN
  obtain ⟨n1, n2, n3⟩ := hN
  have hdj : ∀ q ∈ a ++ b, ∀ x ∈ q.2.ids, x ∉ p.2.ids := by
    intro q hq x hx hx2
    rw [List.nodup_append, List.nodup_append] at n3
    rcases List.mem_append.1 hq with hq | hq
    · exact n3.2.2 x (List.mem_flatMap.2 ⟨q, hq, hx⟩) x (List.mem_append_left _ hx2) rfl
    · exact n3.2.1.2.2 x hx2 x (List.mem_flatMap.2 ⟨q, hq, hx⟩) rfl
  have hpi : ∀ x ∈ p.2.ids, x ∈ foot r rm (a ++ p :: b) := fun x hx => by
    simp only [foot, List.mem_cons, List.mem_flatMap]
    exact .inr (.inr ⟨p, by simp, hx⟩)
  have hrp : r ∉ p.2.ids := fun hx => n1 (List.mem_cons_of_mem _ (by simp [hx]))
  have hmp : rm ∉ p.2.ids := fun hx => n2 (by simp [hx])
  have hfoot : ∀ x ∈ foot r rm (a ++ p' :: b), x ∈ foot r rm (a ++ p :: b) ∨ σ.objs.length ≤ x := by
    intro x hx
    simp only [foot, List.mem_cons, List.flatMap_append, List.flatMap_cons, List.mem_append] at hx ⊢
    rcases hx with hx | hx | hx | hx | hx
    · exact .inl (.inl hx)
    · exact .inl (.inr (.inl hx))
    · exact .inl (.inr (.inr (.inl hx)))
    · rcases hids x hx with h | h
      · exact .inl (.inr (.inr (.inr (.inl h))))
      · exact .inr h
    · exact .inl (.inr (.inr (.inr (.inr hx))))
  have hent : (a ++ p' :: b).map fent = (a ++ p :: b).map fent := by
    simp only [List.map_append, List.map_cons]
    rw [show fent p' = fent p by simp only [fent, hn, hA.nm, hrf]]
  refine ⟨⟨?_, ?_, fun q hq => ?_, ?_, ?_⟩, hk.mono fun x hx => .inl (hpi x hx), hfoot⟩
  · rw [hd2]; exact hk.ko _ _ hrp h.hd
  · rw [hent]; exact hk.ko _ _ hmp h.hm
  · by_cases hqp : q ∈ a ++ b
    · have hqm : q ∈ a ++ p :: b := by
        rcases List.mem_append.1 hqp with h | h <;> simp [h]
      exact (h.hf q hqm).frame fun x hx o ho => hk.ko _ _ (hdj q hqp x hx) ho
    · have : q = p' := by
        simp only [List.mem_append, List.mem_cons, not_or] at hq hqp
        rcases hq with h | h | h
        · exact absurd h hqp.1
        · exact h
        · exact absurd h hqp.2
      subst this
      exact hF
  · have hx := nodup_mid (n := σ.objs.length) (A := r :: rm :: a.flatMap fun p => p.2.ids) (I := p.2.ids) (J := p'.2.ids) (B := b.flatMap fun p => p.2.ids) (by
      unfold foot at hN0; rw [flat_mid] at hN0; exact hN0) (fun x hx => hlt x (by unfold foot; rw [flat_mid]; exact hx)) hnd hids
    unfold foot
    rw [flat_mid]
    exact hx
  · rw [hd2]
    simp only [List.map_append, List.map_cons] at hpm ⊢
    exact putF_perm hok.rise hpm (by rw [hn, hA.nm])
end Go.Proofs.YtnegdinonfjdfaaDoor.Q

/- What keeps a disk right. -/
set_option linter.unusedVariables false
set_option linter.unusedSimpArgs false
set_option maxRecDepth 100000
namespace Go.Proofs.YtnegdinonfjdfaaDoor.Q
open Go Go.RowKit Go.Proofs
/-- A file's two rows change. -/
theorem FAt.upd {σ σa : St} {p : Ent} {s' w' : V} {qs qw : Option Nat} {f' : Fl} (h : FAt σ.objs p) (hk : KS (p.2.rs.toList ++ p.2.rw.toList) σ σa) (hnd : p.2.ids.Nodup) (hlt : ∀ x ∈ p.2.ids, x < σ.objs.length)
    (hs : rowOf σa.objs s' = some (qs, f'.safe.map byteV)) (hw : rowOf σa.objs w' = some (qw, f'.wait.map byteV)) (hq : ∀ x ∈ qs.toList ++ qw.toList, x ∈ p.2.rs.toList ++ p.2.rw.toList ∨ σ.objs.length ≤ x) (hqn : (qs.toList ++ qw.toList).Nodup) :
    ∃ p' : Ent, p'.1 = f' ∧ p'.2.rf = p.2.rf ∧ FAt (σa.objs.set p.2.rf (.cells [s', w'])) p' ∧ KS p.2.ids σ ⟨σa.objs.set p.2.rf (.cells [s', w']), σa.toks⟩ ∧ p'.2.ids.Nodup ∧ (∀ x ∈ p'.2.ids, x ∈ p.2.ids ∨ σ.objs.length ≤ x) ∧ σa.objs[p.2.rf]? = some (.cells [p.2.s, p.2.w]) := by
  have hrfl := hlt p.2.rf (by simp [FO.ids])
  simp only [FO.ids, List.nodup_cons] at hnd
  have hrf : p.2.rf ∉ qs.toList ++ qw.toList := fun hx => by
    rcases hq _ hx with h | h
    · exact hnd.1 h
    · omega
  have hoba : σa.objs[p.2.rf]? = some (.cells [p.2.s, p.2.w]) := hk.ko _ _ hnd.1 h.ob
  have hk1 : KS p.2.ids σ σa := hk.mono fun x hx => .inl (by simp only [FO.ids, List.mem_cons]; exact .inr hx)
  refine ⟨(f', ⟨p.2.rf, s', qs, f'.safe.map byteV, w', qw, f'.wait.map byteV⟩), rfl, rfl, ⟨obj_set hoba, ?_, ?_, rfl, rfl⟩, hk1.trans' (KS.set (.inl (by simp [FO.ids])) _), ?_, ?_, hoba⟩
  · refine rowOf_frame hs fun x hx o ho => ?_
    rw [List.getElem?_set_ne]
    · exact ho
    · rintro rfl; exact hrf (List.mem_append_left _ hx)
  · refine rowOf_frame hw fun x hx o ho => ?_
    rw [List.getElem?_set_ne]
    · exact ho
    · rintro rfl; exact hrf (List.mem_append_right _ hx)
  · simp only [FO.ids, List.nodup_cons]; exact ⟨hrf, hqn⟩
  · intro x hx
    simp only [FO.ids, List.mem_cons] at hx ⊢
    rcases hx with h | h
    · exact .inl (.inl h)
    · rcases hq x h with h | h
      · exact .inl (.inr h)
      · exact .inr h
/-- What a disk is behind a call. -/
def Next (σ : St) (r rm : Nat) (fs : List Ent) (σ' : St) (d' : Dk) : Prop := ∃ fs', DiskAt σ' r d' rm fs' ∧ KS (foot r rm fs) σ σ' ∧ ∀ x ∈ foot r rm fs', x ∈ foot r rm fs ∨ σ.objs.length ≤ x
theorem Next.refl {σ : St} {r rm : Nat} {d : Dk} {fs : List Ent} (h : DiskAt σ r d rm fs) : Next σ r rm fs σ d := ⟨fs, h, KS.refl _ _, fun x hx => .inl hx⟩
theorem Next.trans {σ σ1 σ2 : St} {r rm : Nat} {d : Dk} {fs fs1 : List Ent} (hk : KS (foot r rm fs) σ σ1) (hs : ∀ x ∈ foot r rm fs1, x ∈ foot r rm fs ∨ σ.objs.length ≤ x) (h : Next σ1 r rm fs1 σ2 d) : Next σ r rm fs σ2 d := by
  obtain ⟨fs', h1, h2, h3⟩ := h
  refine ⟨fs', h1, hk.trans h2 hs, fun x hx => ?_⟩
  have := hk.le
  rcases h3 x hx with h | h
  · exact hs x h
  · exact .inr (by omega)
theorem Has.ids {σ : St} {r rm : Nat} {d : Dk} {fs a b : List Ent} {p : Ent} {n : List UInt8} (h : DiskAt σ r d rm fs) (hA : Has d fs a b p n) : FAt σ.objs p ∧ p.2.ids.Nodup ∧ ∀ x ∈ p.2.ids, x < σ.objs.length := by
  have hp : p ∈ fs := by rw [hA.e]; simp
  have hN := h.nd
  unfold foot at hN
  rw [List.nodup_cons, List.nodup_cons, hA.e, flat_mid, List.nodup_append, List.nodup_append] at hN
  refine ⟨h.hf p hp, hN.2.2.2.1.1, fun x hx => h.lt x ?_⟩
  simp only [foot, List.mem_cons, List.mem_flatMap]
  exact .inr (.inr ⟨p, hp, hx⟩)
/-- A file's rows change: the disk. -/
theorem DiskAt.upd {σ σa : St} {r rm : Nat} {d : Dk} {fs a b : List Ent} {p : Ent} {n : List UInt8} {s' w' : V} {qs qw : Option Nat} {f' : Fl} (h : DiskAt σ r d rm fs) (hok : d.Ok) (hA : Has d fs a b p n) (hk : KS (p.2.rs.toList ++ p.2.rw.toList) σ σa)
    (hs : rowOf σa.objs s' = some (qs, f'.safe.map byteV)) (hw : rowOf σa.objs w' = some (qw, f'.wait.map byteV)) (hq : ∀ x ∈ qs.toList ++ qw.toList, x ∈ p.2.rs.toList ++ p.2.rw.toList ∨ σ.objs.length ≤ x) (hqn : (qs.toList ++ qw.toList).Nodup) (hn : f'.name = n) :
    Next σ r rm fs ⟨σa.objs.set p.2.rf (.cells [s', w']), σa.toks⟩ { d with files := putF f' d.files } ∧ σa.objs[p.2.rf]? = some (.cells [p.2.s, p.2.w]) := by
  obtain ⟨g1, g2, g3⟩ := hA.ids h
  obtain ⟨p', e1, e2, e3, e4, e5, e6, e7⟩ := g1.upd hk g2 g3 hs hw hq hqn
  obtain ⟨i1, i2, i3⟩ := h.change hok hA e4 e3 e2 (by rw [e1, hn]) e5 e6 (d2 := { d with files := putF f' d.files }) (by rw [e1])
  exact ⟨⟨_, i1, i2, i3⟩, e7⟩
/-! ### Rightness -/
theorem Dk.Ok.head {d d2 : Dk} (h : d.Ok) (hf : d2.files = d.files) (ha : (d2.armed : Int) ≤ 9223372036854775807) (hr : InI64 d2.room) (hk : InI64 d2.keep) : d2.Ok := ⟨by rw [hf]; exact h.rise, by rw [hf]; exact h.nm, by rw [hf]; exact h.few, by rw [hf]; exact h.sm, ha, hr, hk⟩
theorem Dk.Ok.raw {d : Dk} (h : d.Ok) : (rawD d).2.Ok := by
  have := h.arm
  unfold rawD
  split
  · exact h.head rfl h.arm h.rm h.kp
  · exact h.head rfl (by simp only; omega) h.rm h.kp
theorem raw_files (d : Dk) : (rawD d).2.files = d.files ∧ (rawD d).2.keep = d.keep ∧ (rawD d).2.room = d.room ∧ (rawD d).2.on = d.on ∧ (rawD d).2.writes = d.writes + 1 := by
  unfold rawD
  split <;> exact ⟨rfl, rfl, rfl, rfl, rfl⟩
theorem Dk.Ok.off {d : Dk} (h : d.Ok) (k : Int) : (offD k d).Ok := by
  unfold offD
  split
  · refine ⟨?_, fun f hf => ?_, by simp only [List.length_map]; exact h.few, fun f hf => ?_, by simp, h.rm, h.kp⟩
    · simp only [List.pairwise_map]
      exact h.rise
    · obtain ⟨g, hg, rfl⟩ := List.mem_map.1 hf
      exact h.nm g hg
    · obtain ⟨g, hg, rfl⟩ := List.mem_map.1 hf
      have := h.sm g hg
      simp only [Fl.len, offF, List.length_append, List.length_take, List.length_nil] at this ⊢
      omega
  · exact h
theorem Dk.Ok.put {d : Dk} (h : d.Ok) {x : Fl} (hn : namedD x.name = true) (hs : x.len ≤ 1048576) (hl : (getF d.files x.name).isNone = true → d.files.length < 16) : ({ d with files := putF x d.files } : Dk).Ok := by
  refine ⟨rise_putF h.rise, fun f hf => ?_, ?_, fun f hf => ?_, h.arm, h.rm, h.kp⟩
  · rcases mem_putF.1 hf with rfl | ⟨hf, _⟩
    · exact hn
    · exact h.nm f hf
  · simp only
    rw [len_putF h.rise]
    have := h.few
    split
    · rename_i h1
      have := hl h1
      omega
    · exact h.few
  · rcases mem_putF.1 hf with rfl | ⟨hf, _⟩
    · exact hs
    · exact h.sm f hf
theorem Dk.Ok.drop {d : Dk} (h : d.Ok) (n : List UInt8) : ({ d with files := dropF n d.files } : Dk).Ok := by
  refine ⟨rise_dropF h.rise, fun f hf => h.nm f (mem_dropF.1 hf).1, ?_, fun f hf => h.sm f (mem_dropF.1 hf).1, h.arm, h.rm, h.kp⟩
  exact Nat.le_trans (List.length_filter_le ..) h.few
theorem readyD_named {d : Dk} {n : List UInt8} (h : readyD d n = 0) : namedD n = true ∧ d.on = true := by
  unfold readyD at h
  split at h
  · cases h
  · rename_i h1
    split at h
    · cases h
    · rename_i h2
      exact ⟨by simpa using h1, by simpa using h2⟩
theorem thereD_zero {d : Dk} {n : List UInt8} (h : thereD d n = 0) : readyD d n = 0 ∧ ∃ f, getF d.files n = some f := by
  unfold thereD at h
  split at h
  · rename_i h1; exact absurd h h1
  · rename_i h1
    refine ⟨Classical.byContradiction h1, ?_⟩
    cases hg : getF d.files n with
    | none => rw [hg] at h; cases h
    | some f => exact ⟨f, rfl⟩
theorem Has.files {d d2 : Dk} {fs a b : List Ent} {p : Ent} {n : List UInt8} (hA : Has d fs a b p n) (h : d2.files = d.files) : Has d2 fs a b p n := ⟨hA.e, hA.nm, by rw [h]; exact hA.g, hA.a, hA.b⟩
theorem Dk.Ok.get {d : Dk} (h : d.Ok) {n : List UInt8} {f : Fl} (hg : getF d.files n = some f) : f ∈ d.files ∧ f.name = n ∧ namedD n = true ∧ f.len ≤ 1048576 := by
  obtain ⟨h1, h2⟩ := getF_some hg
  exact ⟨h1, h2, by rw [← h2]; exact h.nm f h1, h.sm f h1⟩
/-- Behind a raw write: the power may go. -/
theorem rawNext {σ : St} {r rm : Nat} {d : Dk} {fs : List Ent} (h : DiskAt σ r d rm fs) (hok : d.Ok) (hw : d.writes < 4611686018427387904) :
    ∃ σ1, Does Tryd.prog prims 64 [.optr r 0] σ (.ret (.bool (rawD d).1)) σ1 ∧ DiskAt σ1 r (rawD d).2 rm fs ∧ KS (foot r rm fs) σ σ1 ∧ σ1.objs.length = σ.objs.length ∧
      ∃ σ2, Does Tryd.prog prims 65 [.optr r 0] σ1 (.ret (.int .i64 20)) σ2 ∧ Next σ r rm fs σ2 (offD d.keep (rawD d).2) := by
  obtain ⟨σ1, h1, h2, h3, h4⟩ := raw_does h hok hw
  obtain ⟨σ2, fs2, h5, h6, h7, h8⟩ := ends_does h2 hok.raw
  refine ⟨σ1, h1, h2, h3, h4, σ2, h5, ?_⟩
  rw [(raw_files d).2.1] at h6
  exact Next.trans h3 (fun x hx => .inl hx) ⟨fs2, h6, h7, h8⟩
end Go.Proofs.YtnegdinonfjdfaaDoor.Q

/- Append. -/
set_option linter.unusedVariables false
set_option linter.unusedSimpArgs false
set_option maxRecDepth 100000
namespace Go.Proofs.YtnegdinonfjdfaaDoor.Q
open Go Go.RowKit Go.Proofs
theorem lens_all {objs : List Ob} : ∀ {fs : List Ent}, (∀ p ∈ fs, FAt objs p) → fileLens objs (fs.map fent) = some (fs.map fun p => p.1.len)
  | [], _ => rfl
  | p :: fs, h => by
    have hp := h p (List.mem_cons_self ..)
    have h1 := rowOf_rl hp.s
    have h2 := rowOf_rl hp.w
    rw [List.length_map] at h1 h2
    simp only [List.map_cons, fileLens, fileLen, fent, hp.ob, h1, h2]
    have := lens_all fun q hq => h q (List.mem_cons_of_mem _ hq)
    rw [this]
theorem sum_le_all {l : List Nat} {m : Nat} (h : ∀ x ∈ l, x ≤ m) : l.sum ≤ l.length * m := by
  induction l with
  | nil => simp
  | cons x l ih =>
    have h1 := h x (List.mem_cons_self ..)
    have h2 := ih fun y hy => h y (List.mem_cons_of_mem _ hy)
    simp only [List.sum_cons, List.length_cons, Nat.succ_mul]
    omega
theorem sizeD_le {d : Dk} (hok : d.Ok) : sizeD d.files ≤ 16777216 := by
  have h1 := sum_le_all (l := d.files.map Fl.len) (m := 1048576) fun x hx => by
    obtain ⟨f, hf, rfl⟩ := List.mem_map.1 hx
    exact hok.sm f hf
  have h2 := hok.few
  unfold sizeD
  rw [List.length_map] at h1
  omega
theorem size_does {σ : St} {r rm : Nat} {d : Dk} {fs : List Ent} (h : DiskAt σ r d rm fs) (hok : d.Ok) : Does Tryd.prog prims 67 [.optr r 0] σ (.ret (.int .i64 (sizeD d.files : Nat))) ⟨σ.objs ++ [.dead], σ.toks⟩ := by
  refine Does.prim (by kernel_rfl) ?_
  simp only [prims]
  rw [if_pos trivial]
  have hs : (fs.map fun p => p.1.len).sum = sizeD d.files := by
    have := (h.pm.map Fl.len).sum_nat
    rw [List.map_map] at this
    exact this
  have hb := sizeD_le hok
  simp only [sizeP, h.hd, dcells, h.hm, lens_all h.hf, hs]
  rw [if_pos (by omega)]
theorem DiskAt.pushed {σ : St} {r rm : Nat} {d : Dk} {fs : List Ent} (h : DiskAt σ r d rm fs) (o : Ob) : DiskAt ⟨σ.objs ++ [o], σ.toks⟩ r d rm fs := h.keep (KS.push [] σ o) fun x _ => by simp
theorem putF_putF {x y : Fl} {l : List Fl} (hn : x.name = y.name) : putF x (putF y l) = putF x l := by
  unfold putF
  have h1 : ¬ y.name < y.name := lt_irrefl' _
  have e1 : (List.filter (fun f => decide (f.name < x.name)) (l.filter fun f => decide (y.name < f.name))) = [] := by
    rw [List.filter_filter, List.filter_eq_nil_iff]
    intro f _
    rw [hn]
    simp only [Bool.and_eq_true, decide_eq_true_eq, not_and]
    intro h2 h3
    exact lt_irrefl' _ (lt_trans' h2 h3)
  have e2 : (List.filter (fun f => decide (x.name < f.name)) (l.filter fun f => decide (f.name < y.name))) = [] := by
    rw [List.filter_filter, List.filter_eq_nil_iff]
    intro f _
    rw [hn]
    simp only [Bool.and_eq_true, decide_eq_true_eq, not_and]
    intro h2 h3
    exact lt_irrefl' _ (lt_trans' h2 h3)
  rw [List.filter_append, List.filter_append, List.filter_cons, List.filter_cons, e1, e2, hn]
  simp only [h1, decide_false, Bool.false_eq_true, ↓reduceIte, List.append_nil, List.nil_append, List.filter_filter, Bool.and_self]
theorem RB.ks {σ σ' : St} {v : V} {bs : List UInt8} {S : List Nat} (h : RB σ v bs) (hk : KS S σ σ') (hs : ∀ q ∈ S, ∀ cs, σ.objs[q]? ≠ some (.cells cs)) : RB σ' v bs := by
  rcases h with h | ⟨q, off, cs, e1, e2, e3⟩
  · exact .inl h
  · exact .inr ⟨q, off, cs, e1, hk.ko q _ (fun hq => hs q hq cs e2) e2, e3⟩
/-- A new file. -/
theorem DiskAt.fresh {σ : St} {r rm : Nat} {d : Dk} {fs : List Ent} (h : DiskAt σ r d rm fs) (hok : d.Ok) {n : List UInt8} (hg : getF d.files n = none) {σ1 σ2 : St} (h1 : σ1 = ⟨σ.objs ++ [.cells [.nils, .nils]], σ.toks⟩) :
    ∃ σ2 p d2, vmapSet Tryd.prog σ1 68 (.omap rm) (.str n) (.optr σ.objs.length 0) = some σ2 ∧ d2 = { d with files := putF ⟨n, [], []⟩ d.files } ∧ p.1 = ⟨n, [], []⟩ ∧ p.2.rf = σ.objs.length ∧ DiskAt σ2 r d2 rm (fs ++ [p]) ∧ KS [rm] σ σ2 ∧ Has d2 (fs ++ [p]) fs [] p n ∧ σ2.objs.length = σ.objs.length + 1 ∧ ∀ x ∈ foot r rm (fs ++ [p]), x ∈ foot r rm fs ∨ σ.objs.length ≤ x := by
  have D1 : DiskAt σ1 r d rm fs := by rw [h1]; exact h.pushed _
  have hlt := h.lt
  have hN := h.nd
  have hno := h.get_no hg
  unfold foot at hN
  rw [List.nodup_cons, List.nodup_cons] at hN
  have hrl := hlt r (by simp [foot])
  have hml := hlt rm (by simp [foot])
  have hml1 : rm < σ1.objs.length := by rw [h1]; simp; omega
  have hfl : ∀ x ∈ fs.flatMap (fun p => p.2.ids), x < σ.objs.length := fun x hx => hlt x (by simp only [foot, List.mem_cons]; exact .inr (.inr hx))
  refine ⟨⟨σ1.objs.set rm (.mp (fs.map fent ++ [(.str n, .optr σ.objs.length 0)])), σ1.toks⟩, (⟨n, [], []⟩, ⟨σ.objs.length, .nils, none, [], .nils, none, []⟩), _, ?_, rfl, rfl, rfl, ⟨?_, ?_, ?_, ?_, ?_⟩, ?_, ⟨rfl, rfl, ?_, hno, fun q hq => by cases hq⟩, ?_, ?_⟩
  · simp only [vmapSet, pTM, D1.hm, keyD, find_no hno]
  · simp only
    rw [List.getElem?_set_ne (fun e => hN.1 (by rw [e]; exact List.mem_cons_self ..))]
    exact D1.hd
  · simp only
    rw [List.getElem?_set_self hml1, List.map_append]
    rfl
  · intro q hq
    rcases List.mem_append.1 hq with hq | hq
    · exact (D1.hf q hq).frame fun x hx o ho => by
        simp only
        rw [List.getElem?_set_ne (fun e => hN.2.1 (by rw [e]; exact List.mem_flatMap.2 ⟨q, hq, hx⟩))]
        exact ho
    · rw [List.mem_singleton] at hq
      subst hq
      refine ⟨?_, rfl, rfl, rfl, rfl⟩
      simp only
      rw [List.getElem?_set_ne (by omega), h1]
      exact push_new _ _
  · have e : foot r rm (fs ++ [((⟨n, [], []⟩ : Fl), (⟨σ.objs.length, .nils, none, [], .nils, none, []⟩ : FO))]) = foot r rm fs ++ [σ.objs.length] := by
      simp [foot, FO.ids]
    rw [e, List.nodup_append]
    exact ⟨h.nd, by simp, fun x hx y hy => by rw [List.mem_singleton] at hy; have := hlt x hx; omega⟩
  · simp only [List.map_append, List.map_cons, List.map_nil]
    have hp := h.pm
    have h3 : (putF ⟨n, [], []⟩ d.files).Perm (⟨n, [], []⟩ :: d.files) := by
      unfold putF
      refine (List.perm_middle).trans (.cons _ ?_)
      have e : (d.files.filter fun f => decide (n < f.name)) = d.files.filter fun f => !decide (f.name < n) := by
        refine List.filter_congr fun f hf => ?_
        have hne := getF_none hg f hf
        rcases lt_or hne with h | h
        · have : ¬ n < f.name := fun h2 => lt_irrefl' _ (lt_trans' h h2)
          simp [h, this]
        · have : ¬ f.name < n := fun h2 => lt_irrefl' _ (lt_trans' h h2)
          simp [h, this]
      rw [e]
      exact List.filter_append_perm _ _
    exact (List.perm_append_singleton ..).trans ((hp.cons _).trans h3.symm)
  · refine (KS.push [rm] σ (.cells [.nils, .nils])).trans' ?_
    rw [← h1]
    exact KS.set (.inl (by simp)) _
  · have hm : (⟨n, [], []⟩ : Fl) ∈ putF ⟨n, [], []⟩ d.files := mem_putF.2 (.inl rfl)
    have hnd : ((putF ⟨n, [], []⟩ d.files).map Fl.name).Nodup := by
      rw [List.nodup_iff_pairwise_ne, List.pairwise_map]
      exact (rise_putF hok.rise).imp fun {f g} hlt (he : f.name = g.name) => lt_irrefl' f.name (by rw [← he] at hlt; exact hlt)
    exact getF_mem hnd hm
  · simp [h1]
  · intro x hx
    simp only [foot, List.mem_cons, List.flatMap_append, List.mem_append] at hx ⊢
    rcases hx with hx | hx | hx | hx
    · exact .inl (.inl hx)
    · exact .inl (.inr (.inl hx))
    · exact .inl (.inr (.inr hx))
    · simp [FO.ids] at hx; exact .inr (by omega)
/-- The bytes are put behind the file's, and the write is counted. -/
theorem append_tail {σ : St} {r rm : Nat} {d : Dk} {fs a b : List Ent} {p : Ent} {n bs : List UInt8} {v : V} {e : Nat → V} {R : VRes → St → Prop} (h : DiskAt σ r d rm fs) (hok : d.Ok) (hA : Has d fs a b p n) (hw : d.writes < 4611686018427387904) (hb : RB σ v bs) (hl : p.1.len + bs.length ≤ 1048576)
    (h0 : e 0 = .optr r 0) (h2 : e 2 = v) (h8 : e 8 = .optr p.2.rf 0) (d2 : Dk) (hd2 : d2 = { d with files := putF ⟨n, p.1.safe, p.1.wait ++ bs⟩ d.files })
    (hR : ∀ σ' x, Next σ r rm fs σ' (if (rawD d2).1 = true then offD d.keep (rawD d2).2 else (rawD d2).2) → x = (if (rawD d2).1 = true then 20 else 0 : Nat) → R (.ret (.int .i64 (x : Nat))) σ') :
    Ev Tryd.prog prims 88 (k47_r14.seq (((CC.region k47_r15).seq (CC.cond (.tmp 85) ((CC.region k47_r16).seq CC.ret) CC.skip)).seq ((CC.region k47_r17).seq CC.ret))) e σ (fnK Tryd.prog 88 [ResultVar.tmp 6] R) := by
  obtain ⟨g1, g2, g3⟩ := hA.ids h
  simp only [Fl.len] at hl
  have hbn := hb.news
  rw [← List.length_map (f := byteV)] at hbn
  obtain ⟨w', qw, σa, ha, hwa, hka, hqa, h1a⟩ := rowApp g1.w hbn (byteV_one bs) (by simp; omega)
  have hk2 : KS (p.2.rs.toList ++ p.2.rw.toList) σ σa := hka.mono fun x hx => .inl (List.mem_append_right _ hx)
  have hnd2 : (p.2.rs.toList ++ p.2.rw.toList).Nodup := by simp only [FO.ids, List.nodup_cons] at g2; exact g2.2
  have hlt2 : ∀ x ∈ p.2.rs.toList, x < σ.objs.length := fun x hx => g3 x (by simp only [FO.ids, List.mem_cons, List.mem_append]; exact .inr (.inl hx))
  have hsa : rowOf σa.objs p.2.s = some (p.2.rs, p.1.safe.map byteV) := rowOf_frame g1.s fun x hx o ho => hka.ko _ _ (fun hx2 => (List.nodup_append.1 hnd2).2.2 x hx x hx2 rfl) ho
  have hqn : (p.2.rs.toList ++ qw.toList).Nodup := by
    rw [List.nodup_append] at hnd2 ⊢
    refine ⟨hnd2.1, by cases qw <;> simp, fun x hx y hy e => ?_⟩
    rcases hqa y hy with h | h
    · exact hnd2.2.2 x hx y h e
    · have := hlt2 x hx; omega
  obtain ⟨N1, hob⟩ := h.upd hok hA (f' := ⟨n, p.1.safe, p.1.wait ++ bs⟩) hk2 hsa (by rw [List.map_append]; exact hwa) (fun x hx => by
    rcases List.mem_append.1 hx with h | h
    · exact .inl (List.mem_append_left _ h)
    · rcases hqa x h with h | h
      · exact .inl (List.mem_append_right _ h)
      · exact .inr h) hqn rfl
  rw [← hd2] at N1
  have lw : vload Tryd.prog σ.objs 22 (.optr p.2.rf 1) = some p.2.w := by rw [vload_obj g1.ob pGB]; rfl
  obtain ⟨σb, hσb⟩ : ∃ σb : St, σb = ⟨σa.objs.set p.2.rf (.cells [p.2.s, w']), σa.toks⟩ := ⟨_, rfl⟩
  have st : vstore Tryd.prog σa 22 (.optr p.2.rf 1) w' = some σb := by rw [vstore_obj hob SBB h1a (by simp), hσb]; rfl
  rw [← hσb] at N1
  obtain ⟨fs1, D1, K1, I1⟩ := N1
  have hgt := hok.get hA.g
  have ok2 : d2.Ok := by
    rw [hd2]
    refine hok.put hgt.2.2.1 (by simp only [Fl.len, List.length_append]; omega) fun hn => ?_
    simp only at hn
    rw [hA.g] at hn
    cases hn
  have hw2 : d2.writes < 4611686018427387904 := by rw [hd2]; exact hw
  have hkp : d2.keep = d.keep := by rw [hd2]
  obtain ⟨σ1, r1, r2, r3, r4, σ2, r5, r6⟩ := rawNext D1 ok2 hw2
  simp only [k47_a, WK, vop, evAll, evOpt, evParts, vbuiltin, vun, vextract, Nat.reduceLT, Nat.reduceEqDiff, ↓reduceIte, reduceCtorEq, Nat.reduceAdd, Int.reduceLT, Int.reduceNeg, valloc_std, noSB, vhot, h8, h2, h0, pFF1, lw, ha, st]
  refine KD.ret r1 ?_
  cases hgo : (rawD d2).1 with
  | true =>
    simp only [k47_a, WK, vop, evAll, evOpt, evParts, vbuiltin, vun, vextract, Nat.reduceLT, Nat.reduceEqDiff, ↓reduceIte, reduceCtorEq, Nat.reduceAdd, Int.reduceLT, Int.reduceNeg, valloc_std, noSB, vhot, h0]
    refine KD.ret r5 ?_
    simp only [k47_a, WK, vop, evAll, evOpt, evParts, vbuiltin, vun, vextract, Nat.reduceLT, Nat.reduceEqDiff, ↓reduceIte, reduceCtorEq, Nat.reduceAdd, Int.reduceLT, Int.reduceNeg, valloc_std, noSB, vhot]
    refine hR _ 20 ?_ (by rw [if_pos hgo])
    rw [if_pos hgo, ← hkp]
    exact Next.trans K1 I1 r6
  | false =>
    simp only [k47_a, WK, vop, evAll, evOpt, evParts, vbuiltin, vun, vextract, Nat.reduceLT, Nat.reduceEqDiff, ↓reduceIte, reduceCtorEq, Nat.reduceAdd, Int.reduceLT, Int.reduceNeg, valloc_std, noSB, vhot, h0]
    refine hR _ 0 ?_ (by rw [if_neg (by rw [hgo]; simp)])
    rw [if_neg (by rw [hgo]; simp)]
    exact Next.trans K1 I1 ⟨fs1, r2, r3, fun x hx => .inl hx⟩
theorem append_sees {σ : St} {r rm : Nat} {d : Dk} {fs : List Ent} {v : V} {n bs : List UInt8} (h : DiskAt σ r d rm fs) (hok : d.Ok) (hw : d.writes < 4611686018427387904) (hb : RB σ v bs) (hbl : bs.length ≤ 1000000000) :
    ∃ q σ', Does Tryd.prog prims 47 [.optr r 0, .str n, v] σ q σ' ∧ (q = .ret (.int .i64 ((appendD n bs d).1 : Nat)) ∧ Next σ r rm fs σ' (appendD n bs d).2) := by
  apply k47_is.does (by simp)
  have lm : vload Tryd.prog σ.objs 68 (.optr r 0) = some (.omap rm) := by rw [vload_obj h.hd pGM]; rfl
  have lr : vload Tryd.prog σ.objs 3 (.optr r 1) = some (.int .i64 d.room) := by rw [vload_obj h.hd G3]; rfl
  obtain ⟨σd, hσd⟩ : ∃ σd : St, σd = ⟨σ.objs ++ [.dead], σ.toks⟩ := ⟨_, rfl⟩
  have Kd : KS (foot r rm fs) σ σd := by rw [hσd]; exact KS.push _ _ _
  have Dd : DiskAt σd r d rm fs := by rw [hσd]; exact h.pushed .dead
  have lr2 : vload Tryd.prog σd.objs 3 (.optr r 1) = some (.int .i64 d.room) := by rw [vload_obj Dd.hd G3]; rfl
  have lm2 : vload Tryd.prog σd.objs 68 (.optr r 0) = some (.omap rm) := by rw [vload_obj Dd.hd pGM]; rfl
  have hsz := size_does h hok
  rw [← hσd] at hsz
  have hbd : RB σd v bs := by
    rw [hσd]
    exact hb.keep ((Keep.refl σ).push _)
  have hszl := sizeD_le hok
  have hws : IntKind.i64.wrap (((sizeD d.files : Nat) : Int) + (bs.length : Nat)) = ((sizeD d.files + bs.length : Nat) : Int) := by rw [wrap_i64 (by omega) (by omega)]; omega
  have hkt : ∀ σ', Next σd r rm fs σ' (appendD n bs d).2 → Next σ r rm fs σ' (appendD n bs d).2 := fun σ' hN => Next.trans Kd (fun x hx => .inl hx) hN
  simp only [k47_a, WK, vop, evAll, evOpt, evParts, vbuiltin, vun, vextract, Nat.reduceLT, Nat.reduceEqDiff, ↓reduceIte, reduceCtorEq, Nat.reduceAdd, Int.reduceLT, Int.reduceNeg, valloc_std, noSB, vhot, List.getD_cons_zero, List.getD_cons_succ]
  refine KD.ret (ready_does h n) ?_
  generalize hC : CC.seq k47_r14 _ = C14
  by_cases hr : readyD d n = 0
  · have hr' : ((readyD d n : Nat) : Int) = 0 := by omega
    cases hg : getF d.files n with
    | some f =>
      obtain ⟨a, p, b, hA⟩ := h.get_yes hok hg
      have hf : p.1 = f := by have := hA.g; rw [hg] at this; injection this with this; exact this.symm
      obtain ⟨g1, g2, g3⟩ := hA.ids h
      have hgt := hok.get hg
      have ls : vload Tryd.prog σ.objs 22 (.optr p.2.rf 0) = some p.2.s := by rw [vload_obj g1.ob pGB]; rfl
      have lw : vload Tryd.prog σ.objs 22 (.optr p.2.rf 1) = some p.2.w := by rw [vload_obj g1.ob pGB]; rfl
      have vs : vlen Tryd.prog 22 p.2.s = some (.int .i64 (p.1.safe.length : Nat)) := by rw [rowOf_len g1.s, List.length_map]
      have vw : vlen Tryd.prog 22 p.2.w = some (.int .i64 (p.1.wait.length : Nat)) := by rw [rowOf_len g1.w, List.length_map]
      have hlen : p.1.safe.length + p.1.wait.length ≤ 1048576 := by rw [hf]; exact hgt.2.2.2
      have w1 : IntKind.i64.wrap (1048576 - (p.1.safe.length : Int)) = 1048576 - (p.1.safe.length : Int) := wrap_i64 (by omega) (by omega)
      have w2 : IntKind.i64.wrap (1048576 - (p.1.safe.length : Int) - (p.1.wait.length : Int)) = 1048576 - (p.1.safe.length : Int) - (p.1.wait.length : Int) := wrap_i64 (by omega) (by omega)
      have hn0 : ¬ readyD d n ≠ 0 := fun h => h hr
      by_cases hbig : 1048576 < f.len + bs.length
      · have e : appendD n bs d = (3, d) := by unfold appendD; rw [if_neg hn0, hg]; simp only [Option.getD_some]; rw [if_pos hbig]
        have hbig' : 1048576 - (p.1.safe.length : Int) - (p.1.wait.length : Int) < (bs.length : Nat) := by rw [hf]; simp only [Fl.len] at hbig; omega
        simp only [k47_a, WK, vop, evAll, evOpt, evParts, vbuiltin, vun, vextract, Nat.reduceLT, Nat.reduceEqDiff, ↓reduceIte, reduceCtorEq, Nat.reduceAdd, Int.reduceLT, Int.reduceNeg, valloc_std, noSB, vhot, hr', pFA r 0 (by omega), lm, h.look_yes hA, hb.len, neq_optr pTF, eql_optr pTF, pFF0, pFF1, ls, lw, vs, vw, w1, w2, hbig', e]
        exact ⟨rfl, Next.refl h⟩
      · have hbig' : ¬ 1048576 - (p.1.safe.length : Int) - (p.1.wait.length : Int) < (bs.length : Nat) := by rw [hf]; simp only [Fl.len] at hbig; omega
        have hb2 : ¬ (1048576 : Int) < (bs.length : Nat) := by simp only [Fl.len] at hbig; omega
        simp only [k47_a, WK, vop, evAll, evOpt, evParts, vbuiltin, vun, vextract, Nat.reduceLT, Nat.reduceEqDiff, ↓reduceIte, reduceCtorEq, Nat.reduceAdd, Int.reduceLT, Int.reduceNeg, valloc_std, noSB, vhot, hr', pFA r 0 (by omega), pFA r 1 (by omega), lm, lr, lr2, h.look_yes hA, hb.len, neq_optr pTF, eql_optr pTF, pFF0, pFF1, ls, lw, vs, vw, w1, w2, hbig', hb2, decide_false]
        refine KD.ret hsz ?_
        by_cases hfull : d.room < ((sizeD d.files + bs.length : Nat) : Int)
        · have e : appendD n bs d = (22, d) := by
            unfold appendD; rw [if_neg hn0, hg]; simp only [Option.getD_some]; rw [if_neg hbig, if_pos (.inr hfull)]
          rw [e] at hkt ⊢
          simp only [k47_a, WK, vop, evAll, evOpt, evParts, vbuiltin, vun, vextract, Nat.reduceLT, Nat.reduceEqDiff, ↓reduceIte, reduceCtorEq, Nat.reduceAdd, Int.reduceLT, Int.reduceNeg, valloc_std, noSB, vhot, hr', pFA r 0 (by omega), pFA r 1 (by omega), lm, lr, lr2, hb.len, hws, hfull, decide_true]
          exact ⟨rfl, hkt _ (Next.refl Dd)⟩
        · have e : appendD n bs d = (if (rawD { d with files := putF ⟨n, f.safe, f.wait ++ bs⟩ d.files }).1 = true then (20, offD d.keep (rawD { d with files := putF ⟨n, f.safe, f.wait ++ bs⟩ d.files }).2) else (0, (rawD { d with files := putF ⟨n, f.safe, f.wait ++ bs⟩ d.files }).2)) := by
            unfold appendD; rw [if_neg hn0, hg]; simp only [Option.getD_some]; rw [if_neg hbig, if_neg (fun h => h.elim (fun h1 => by simp at h1) hfull)]
          simp only [k47_a, WK, vop, evAll, evOpt, evParts, vbuiltin, vun, vextract, Nat.reduceLT, Nat.reduceEqDiff, ↓reduceIte, reduceCtorEq, Nat.reduceAdd, Int.reduceLT, Int.reduceNeg, valloc_std, noSB, vhot, hr', pFA r 0 (by omega), pFA r 1 (by omega), lm, lr, lr2, hb.len, hws, hfull, decide_false, eql_optr pTF]
          rw [← hC]
          refine append_tail Dd hok hA hw hbd (by rw [hf]; omega) (by simp [upd_some]) (by simp [upd_some]) (by simp [upd_some]) _ rfl ?_
          intro σ' x hN hx
          rw [hf] at hN hx
          refine ⟨?_, hkt σ' ?_⟩
          · rw [hx, e]; split <;> rfl
          · rw [e]
            split at hN
            · rename_i h9; rw [if_pos h9]; exact hN
            · rename_i h9; rw [if_neg h9]; exact hN
    | none =>
      have hn0 : ¬ readyD d n ≠ 0 := fun h => h hr
      have hlD : vmapLen Tryd.prog σ.objs 68 (.omap rm) = some (.int .i64 (d.files.length : Nat)) := by
        simp only [vmapLen, pTM, h.hm, List.length_map]
        have := h.pm.length_eq
        rw [List.length_map] at this
        rw [this]
      have hvl : vlen Tryd.prog 68 (.omap rm) = none := by simp [vlen, pTM]
      by_cases hbig : 1048576 < bs.length
      · have hbig' : (1048576 : Int) < (bs.length : Nat) := by omega
        have e : appendD n bs d = (3, d) := by unfold appendD; rw [if_neg hn0, hg]; simp only [Option.getD_none]; rw [if_pos (by simp [Fl.len]; omega)]
        simp only [k47_a, WK, vop, evAll, evOpt, evParts, vbuiltin, vun, vextract, Nat.reduceLT, Nat.reduceEqDiff, ↓reduceIte, reduceCtorEq, Nat.reduceAdd, Int.reduceLT, Int.reduceNeg, valloc_std, noSB, vhot, hr', pFA r 0 (by omega), lm, h.look_no hg, hb.len, neq_nilp pTF, eql_nilp pTF, ofNilP, hbig', decide_true, e]
        exact ⟨rfl, Next.refl h⟩
      · have hbig' : ¬ (1048576 : Int) < (bs.length : Nat) := by omega
        have hbig2 : ¬ 1048576 < (⟨n, [], []⟩ : Fl).len + bs.length := by simp [Fl.len]; omega
        simp only [k47_a, WK, vop, evAll, evOpt, evParts, vbuiltin, vun, vextract, Nat.reduceLT, Nat.reduceEqDiff, ↓reduceIte, reduceCtorEq, Nat.reduceAdd, Int.reduceLT, Int.reduceNeg, valloc_std, noSB, vhot, hr', pFA r 0 (by omega), lm, h.look_no hg, hb.len, neq_nilp pTF, eql_nilp pTF, ofNilP, hbig', decide_false, hlD, hvl]
        by_cases hmany : 16 ≤ d.files.length
        · have hmany' : (16 : Int) ≤ (d.files.length : Nat) := by omega
          have e : appendD n bs d = (22, d) := by
            unfold appendD; rw [if_neg hn0, hg]; simp only [Option.getD_none]; rw [if_neg hbig2, if_pos (.inl ⟨rfl, hmany⟩)]
          simp only [k47_a, WK, vop, evAll, evOpt, evParts, vbuiltin, vun, vextract, Nat.reduceLT, Nat.reduceEqDiff, ↓reduceIte, reduceCtorEq, Nat.reduceAdd, Int.reduceLT, Int.reduceNeg, valloc_std, noSB, vhot, hmany', decide_true, e]
          exact ⟨rfl, Next.refl h⟩
        · have hmany' : ¬ (16 : Int) ≤ (d.files.length : Nat) := by omega
          simp only [k47_a, WK, vop, evAll, evOpt, evParts, vbuiltin, vun, vextract, Nat.reduceLT, Nat.reduceEqDiff, ↓reduceIte, reduceCtorEq, Nat.reduceAdd, Int.reduceLT, Int.reduceNeg, valloc_std, noSB, vhot, hmany', decide_false, pFA r 0 (by omega), pFA r 1 (by omega), lm, lr, lr2, hb.len]
          refine KD.ret hsz ?_
          by_cases hfull : d.room < ((sizeD d.files + bs.length : Nat) : Int)
          · have e : appendD n bs d = (22, d) := by
              unfold appendD; rw [if_neg hn0, hg]; simp only [Option.getD_none]; rw [if_neg hbig2, if_pos (.inr hfull)]
            rw [e] at hkt ⊢
            simp only [k47_a, WK, vop, evAll, evOpt, evParts, vbuiltin, vun, vextract, Nat.reduceLT, Nat.reduceEqDiff, ↓reduceIte, reduceCtorEq, Nat.reduceAdd, Int.reduceLT, Int.reduceNeg, valloc_std, noSB, vhot, hr', pFA r 0 (by omega), pFA r 1 (by omega), lm, lr, lr2, hb.len, hws, hfull, decide_true]
            exact ⟨rfl, hkt _ (Next.refl Dd)⟩
          · obtain ⟨x, hx⟩ : ∃ x : Dk, x = { d with files := putF ⟨n, [], bs⟩ d.files } := ⟨_, rfl⟩
            have e : appendD n bs d = (if (rawD x).1 = true then (20, offD d.keep (rawD x).2) else (0, (rawD x).2)) := by
              unfold appendD; rw [if_neg hn0, hg]; simp only [Option.getD_none]; rw [if_neg hbig2, if_neg (fun h => h.elim (fun h1 => hmany h1.2) hfull), hx]; rfl
            obtain ⟨s1, hs1⟩ : ∃ s1 : St, s1 = ⟨σd.objs ++ [.cells [.nils, .nils]], σd.toks⟩ := ⟨_, rfl⟩
            obtain ⟨s2, p, d2, hst, hd2, hp1, hp2, D2, K2, A2, L2, I2⟩ := Dd.fresh hok hg (σ2 := s1) hs1
            have l1 : vload Tryd.prog s1.objs 68 (.optr r 0) = some (.omap rm) := by rw [hs1, vload_obj (Dd.pushed _).hd pGM]; rfl
            have hbf : vbuild Tryd.prog 78 [] = some (.agg [.nils, .nils]) := by kernel_rfl
            have ok2 : d2.Ok := by
              rw [hd2]
              exact hok.put (readyD_named hr).1 (by simp [Fl.len]) fun _ => by omega
            have hb2 : RB s2 v bs := hbd.ks K2 fun q hq cs hc => by
              rw [List.mem_singleton] at hq
              subst hq
              rw [Dd.hm] at hc
              cases hc
            have K2 : KS (foot r rm fs) σd s2 := K2.mono fun q hq => .inl (by rw [List.mem_singleton] at hq; subst hq; simp [foot])
            simp only [k47_a, WK, vop, evAll, evOpt, evParts, vbuiltin, vun, vextract, Nat.reduceLT, Nat.reduceEqDiff, ↓reduceIte, reduceCtorEq, Nat.reduceAdd, Int.reduceLT, Int.reduceNeg, valloc_std, noSB, vhot, hr', pFA r 0 (by omega), pFA r 1 (by omega), lm, lr, lr2, hb.len, hws, hfull, decide_false, eql_nilp pTF, hbf, vbox, vcells, ← hs1, l1, hst]
            rw [← hC]
            refine append_tail D2 ok2 A2 (by rw [hd2]; exact hw) hb2 (by rw [hp1]; simp [Fl.len]; omega) (by simp [upd_some]) (by simp [upd_some]) (by simp [upd_some, hp2]) x ?_ ?_
            · rw [hx, hd2, hp1]; simp only [List.nil_append]; rw [putF_putF (x := ⟨n, [], bs⟩) (y := ⟨n, [], []⟩) rfl]
            intro σ' c hN hc
            have hkp : d2.keep = d.keep := by rw [hd2]
            rw [hkp] at hN
            refine ⟨?_, hkt σ' ?_⟩
            · rw [hc, e]; split <;> rfl
            · rw [e]
              split at hN
              · rename_i h9; rw [if_pos h9]; exact Next.trans K2 I2 hN
              · rename_i h9; rw [if_neg h9]; exact Next.trans K2 I2 hN
  · have hr' : ¬ ((readyD d n : Nat) : Int) = 0 := by omega
    have e : appendD n bs d = (readyD d n, d) := by unfold appendD; rw [if_pos hr]
    simp only [k47_a, WK, vop, evAll, evOpt, evParts, vbuiltin, vun, vextract, Nat.reduceLT, Nat.reduceEqDiff, ↓reduceIte, reduceCtorEq, Nat.reduceAdd, Int.reduceLT, Int.reduceNeg, valloc_std, noSB, vhot, hr', e]
    exact Next.refl h
end Go.Proofs.YtnegdinonfjdfaaDoor.Q

