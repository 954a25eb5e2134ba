/- The code of some functions without its ornaments. Written by gen.py. -/
import Derived.Test.YtmcadfejkcpblaaQp
import Derived.Test.YtmcadfejkcpblaaQmd
import Derived.Test.YtmcadfejkcpblaaChecked
import Derived.Test.YtmcadfejkcpblaaPr
set_option maxRecDepth 100000
namespace Go.Proofs.Ytmcadfejkcpblaa.Q
open Go Go.RowKit Go.Proofs
variable {P : Program} {pr : Prim} {N : Nat} {e : Nat → V} {σ : St} {Q : VX → (Nat → V) → St → Prop} {QQ : QD} {SS : QS} {m : Pn}
noncomputable def k7_f0 : Array Tmp × Code × Code := rfAt Try.f7.body 0
noncomputable def k7_f1 : Array Tmp × Code × Code := rfAt Try.f7.body 1
def k7_r0 : List COp := [o 2 (.box 22 (.tmp 0)),
o 3 (.box 3 (.tmp 1)),
o 4 (.alloc 4)]
def k7_r1 : List COp := [o 15 (.call { callee := .value (.func 11), args := #[], argTypes := #[] }),
o 16 (.unOp .not 4 (.tmp 15))]
def k7_r2 : List COp := [⟨none, .store 4 (.tmp 4) (.const (.bool false)), none, true⟩]
def k7_r3 : List COp := [o 17 (pL 22 2),
o 18 (pC 18 17 22),
o 5 (pA 18)]
def k7_r4 : List COp := [o 19 (pM 5),
o 20 (.binOp .eql 36 (.tmp 19) (.const .nilFunc) 36)]
def k7_r5 : List COp := [⟨none, .store 4 (.tmp 4) (.const (.bool false)), none, true⟩]
def k7_r6 : List COp := [o 6 (pZ .i64 0)]
def k7_r7 : List COp := [o 21 (pM 6),
o 22 (pK .lss 3 21 .i64 2 3)]
def k7_r9 : List COp := [o 7 (.alloc 3),
⟨none, .store 3 (.tmp 7) (.const (.int .i64 0)), none, true⟩]
def k7_r10 : List COp := [o 25 (pM 5)]
def k7_r11 : List COp := [o 8 (pA 26)]
def k7_r12 : List COp := [o 9 (pA 27)]
def k7_r13 : List COp := [o 29 (pL 22 2),
o 30 (pL 3 7),
o 31 (.slice 22 (.tmp 29) (some (.tmp 30)) .none .none),
o 32 (pC 13 31 22),
o 28 (pM 32),
o 33 (pX 28 0),
o 34 (pX 28 1),
o 10 (pA 33),
o 11 (pA 34)]
def k7_r14 : List COp := [o 35 (pM 11),
o 36 (pK .eql 3 35 .i64 0 3),
o 37 (pM 36),
oF 38 (pM 8) 37,
oF 39 (pL 3 7) 37,
oF 40 (pB .neq 3 38 39 3) 37,
o 41 (pV 37 40),
o 42 (pM 41),
oF 43 (pM 9) 42,
oF 44 (pM 10) 42,
oF 45 (pB .neq 3 43 44 3) 42,
o 46 (pV 42 45)]
def k7_r15 : List COp := [⟨none, .store 4 (.tmp 4) (.const (.bool false)), none, true⟩]
def k7_r16 : List COp := [o 47 (pL 3 7),
o 48 (pM 11),
o 49 (pB .add 3 47 48 3),
oS 3 7 49]
def k7_r17 : List COp := [o 51 (pL 22 2),
o 52 (pL 3 7),
o 53 (.slice 22 (.tmp 51) (some (.tmp 52)) .none .none),
o 54 (pC 13 53 22),
o 50 (pM 54),
o 55 (pX 50 0),
o 56 (pX 50 1),
o 12 (pA 55),
o 13 (pA 56)]
def k7_r18 : List COp := [o 57 (pM 13),
o 58 (pK .neq 3 57 .i64 0 3)]
def k7_r19 : List COp := [⟨none, .store 4 (.tmp 4) (.const (.bool false)), none, true⟩]
def k7_r20 : List COp := [o 14 (.alloc 3),
⟨none, .store 3 (.tmp 14) (.const (.int .i64 0)), none, true⟩]
def k7_r21 : List COp := [o 59 (pM 5)]
def k7_r22 : List COp := [o 62 (pL 3 14),
o 63 (pK .add 3 62 .i64 1 3),
oS 3 14 63]
def k7_r23 : List COp := [o 64 (pL 3 14),
o 65 (pL 3 3),
o 66 (pB .geq 3 64 65 3)]
def k7_r24 : List COp := [o 67 (pL 3 3),
o 68 (pK .gtr 3 67 .i64 0 3),
o 69 (pM 68),
oT 70 (pL 3 14) 69,
oT 71 (pL 3 3) 69,
oT 72 (pB .gtr 3 70 71 3) 69,
o 73 (pU 69 72)]
def k7_r25 : List COp := [⟨none, .store 4 (.tmp 4) (.const (.bool false)), none, true⟩]
def k7_r8 : List COp := [o 23 (pM 6),
o 24 (pK .add 3 23 .i64 1 3),
o 6 (pA 24)]
noncomputable def k7_l0 : CC := (.seq (.seq (.region k7_r7) (.cond (.tmp 22) .skip (.exit 0))) (.seq (.block 1 (.seq (.region k7_r9) (.seq (.seq (.region k7_r10) (.block 2 (.rf (.tmp 25) k7_f0.1 k7_f0.2.1 k7_f0.2.2))) (.seq (.seq (.region k7_r17) (.seq (.region k7_r18) (.cond (.tmp 58) (.seq (.region k7_r19) .ret) .skip))) (.seq (.region k7_r20) (.seq (.seq (.region k7_r21) (.block 4 (.rf (.tmp 59) k7_f1.1 k7_f1.2.1 k7_f1.2.2))) (.seq (.region k7_r24) (.cond (.tmp 73) (.seq (.region k7_r25) .ret) .skip)))))))) (.region k7_r8)))
def k7_r26 : List COp := [⟨none, .store 4 (.tmp 4) (.const (.bool true)), none, true⟩]
noncomputable def k7_f0a : CC := (.seq (.region k7_r11) (.region k7_r12))
noncomputable def k7_f0b : CC := (.block 3 (.seq (.region k7_r13) (.seq (.seq (.region k7_r14) (.cond (.tmp 46) (.seq (.region k7_r15) .ret) .skip)) (.region k7_r16))))
noncomputable def k7_f1a : CC := .skip
noncomputable def k7_f1b : CC := (.block 5 (.seq (.region k7_r22) (.seq (.region k7_r23) (.cond (.tmp 66) (.exit 4) .skip))))
noncomputable def k7 : CC := (.seq (.region k7_r0) (.seq (.seq (.region k7_r1) (.cond (.tmp 16) (.seq (.region k7_r2) .ret) .skip)) (.seq (.region k7_r3) (.seq (.seq (.region k7_r4) (.cond (.tmp 20) (.seq (.region k7_r5) .ret) .skip)) (.seq (.seq (.region k7_r6) (.block 0 (.loop k7_l0))) (.seq (.region k7_r26) .ret))))))
def k7_p := PLift.up <| aI (vE k7.eq_1) <| aI (oE k7_r0.eq_1) <| aI (oE k7_r1.eq_1) <| aI (oE k7_r2.eq_1) <| aI (oE k7_r3.eq_1) <| aI (oE k7_r4.eq_1) <| aI (oE k7_r5.eq_1) <| aI (oE k7_r6.eq_1) <| aI (oE k7_r7.eq_1) <| aI (oE k7_r9.eq_1) <| aI (oE k7_r10.eq_1) <| aI (vE k7_f0a.eq_1) <| aI (vE k7_f0b.eq_1) <| aI (oE k7_r11.eq_1) <| aI (oE k7_r12.eq_1) <| aI (oE k7_r13.eq_1) <| aI (oE k7_r14.eq_1) <| aI (oE k7_r15.eq_1) <| aI (oE k7_r16.eq_1) <| aI (oE k7_r17.eq_1) <| aI (oE k7_r18.eq_1) <| aI (oE k7_r19.eq_1) <| aI (oE k7_r20.eq_1) <| aI (oE k7_r21.eq_1) <| aI (vE k7_f1a.eq_1) <| aI (vE k7_f1b.eq_1) <| aI (oE k7_r22.eq_1) <| aI (oE k7_r23.eq_1) <| aI (oE k7_r24.eq_1) <| aI (oE k7_r25.eq_1) <| aI (oE k7_r8.eq_1) <| aI (vE k7_l0.eq_1) (oE k7_r26.eq_1)
theorem k7_a : type_of% k7_p.down := k7_p.down
theorem k7_f0_a : cc Try.prog prims.hot 74 k7_f0.2.1 = some k7_f0a := by kernel_rfl
theorem k7_f0_b : cc Try.prog prims.hot 74 k7_f0.2.2 = some k7_f0b := by kernel_rfl
theorem k7_f0_n : hasRF k7_f0.2.1 = false ∧ hasRF k7_f0.2.2 = false := ⟨by kernel_rfl, by kernel_rfl⟩
theorem k7_f1_a : cc Try.prog prims.hot 74 k7_f1.2.1 = some k7_f1a := by kernel_rfl
theorem k7_f1_b : cc Try.prog prims.hot 74 k7_f1.2.2 = some k7_f1b := by kernel_rfl
theorem k7_f1_n : hasRF k7_f1.2.1 = false ∧ hasRF k7_f1.2.2 = false := ⟨by kernel_rfl, by kernel_rfl⟩
/-- quern/quernlaw01.PackNumbers -/
theorem k7_is : FnIs Try.prog prims 7 74 [ResultVar.cell 4 4] k7 := FnIs.of_fn Try.func7 (by kernel_rfl) rfl
noncomputable def k8_f0 : Array Tmp × Code × Code := rfAt Try.f8.body 0
def k8_r0 : List COp := [o 2 (.box 30 (.tmp 0)),
o 4 (.alloc 4)]
def k8_r1 : List COp := [o 10 (.call { callee := .value (.func 11), args := #[], argTypes := #[] }),
o 11 (.unOp .not 4 (.tmp 10))]
def k8_r2 : List COp := [⟨none, .store 4 (.tmp 4) (.const (.bool false)), none, true⟩]
noncomputable def k8_r3 : CC := (.hreg [
(false, o 12 (pL 30 2)),
(false, o 13 (.call { callee := .value (.func 14), args := #[.const (.slice .none 0 0), .tmp 12], argTypes := #[22, 30] })),
(false, o 14 (pM 1)),
(true, o 15 (pQ 13 14 22 22)),
(false, o 5 (pA 15))])
def k8_r4 : List COp := [o 6 (.alloc 3),
o 7 (.alloc 3),
⟨none, .store 3 (.tmp 6) (.const (.int .i64 0)), none, true⟩,
⟨none, .store 3 (.tmp 7) (.const (.int .i64 0)), none, true⟩]
def k8_r5 : List COp := [o 16 (pM 5),
o 17 (pC 18 16 22),
o 18 (.binOp .eql 36 (.tmp 17) (.const .nilFunc) 36)]
def k8_r6 : List COp := [⟨none, .store 4 (.tmp 4) (.const (.bool false)), none, true⟩]
def k8_r7 : List COp := [o 19 (pM 5),
o 20 (pC 18 19 22)]
def k8_r8 : List COp := [o 8 (pA 21)]
def k8_r9 : List COp := [o 9 (pA 22)]
def k8_r10 : List COp := [o 23 (pL 3 6),
o 24 (pL 30 2),
o 25 (pN 24 30),
o 26 (pB .eql 3 23 25 3)]
def k8_r11 : List COp := [o 27 (pM 8),
o 28 (pL 3 7),
o 29 (pB .neq 3 27 28 3),
o 30 (pM 29),
oF 31 (pM 9) 30,
oF 32 (pL 30 2) 30,
oF 33 (pL 3 6) 30,
oF 34 (pI 30 32 33) 30,
oF 35 (pL 3 34) 30,
oF 36 (.call { callee := .builtin .max, args := #[.tmp 35, .const (.int .i64 0)], argTypes := #[3, 3] }) 30,
oF 37 (pB .neq 3 31 36 3) 30,
o 38 (pV 30 37)]
def k8_r12 : List COp := [⟨none, .store 4 (.tmp 4) (.const (.bool false)), none, true⟩]
noncomputable def k8_r13 : CC := (.wregion [
(true, oX 39 (pL 3 7)),
(false, oX 40 (pL 30 2)),
(false, o 41 (pL 3 6)),
(false, o 42 (pI 30 40 41)),
(false, o 43 (pL 3 42)),
(false, o 44 (pC 17 43 3)),
(true, o 45 (pB .add 3 39 44 3)),
(false, oS 3 7 45)] false [(0, oX 39 (pL 3 7), [0, 6])])
def k8_r14 : List COp := [o 46 (pL 3 6),
o 47 (pK .add 3 46 .i64 1 3),
oS 3 6 47]
def k8_r15 : List COp := [o 48 (pL 3 6),
o 49 (pL 30 2),
o 50 (pN 49 30),
o 51 (pB .eql 3 48 50 3),
o 52 (pM 51),
oT 53 (pL 3 7) 52,
oT 54 (pM 5) 52,
oT 55 (pN 54 22) 52,
oT 56 (pM 1) 52,
oT 57 (pN 56 22) 52,
oT 58 (pB .sub 3 55 57 3) 52,
oT 59 (pB .eql 3 53 58 3) 52,
o 60 (pU 52 59),
oS 4 4 60]
noncomputable def k8_f0a : CC := (.seq (.region k8_r8) (.region k8_r9))
noncomputable def k8_f0b : CC := (.block 1 (.seq (.seq (.region k8_r10) (.cond (.tmp 26) (.exit 0) .skip)) (.seq (.seq (.region k8_r11) (.cond (.tmp 38) (.seq (.region k8_r12) .ret) .skip)) (.seq k8_r13 (.region k8_r14)))))
noncomputable def k8 : CC := (.seq (.region k8_r0) (.seq (.seq (.region k8_r1) (.cond (.tmp 11) (.seq (.region k8_r2) .ret) .skip)) (.seq k8_r3 (.seq (.region k8_r4) (.seq (.seq (.region k8_r5) (.cond (.tmp 18) (.seq (.region k8_r6) .ret) .skip)) (.seq (.seq (.region k8_r7) (.block 0 (.rf (.tmp 20) k8_f0.1 k8_f0.2.1 k8_f0.2.2))) (.seq (.region k8_r15) .ret)))))))
def k8_p := PLift.up <| aI (vE k8.eq_1) <| aI (oE k8_r0.eq_1) <| aI (oE k8_r1.eq_1) <| aI (oE k8_r2.eq_1) <| aI (vE k8_r3.eq_1) <| aI (oE k8_r4.eq_1) <| aI (oE k8_r5.eq_1) <| aI (oE k8_r6.eq_1) <| aI (oE k8_r7.eq_1) <| aI (vE k8_f0a.eq_1) <| aI (vE k8_f0b.eq_1) <| aI (oE k8_r8.eq_1) <| aI (oE k8_r9.eq_1) <| aI (oE k8_r10.eq_1) <| aI (oE k8_r11.eq_1) <| aI (oE k8_r12.eq_1) <| aI (vE k8_r13.eq_1) <| aI (oE k8_r14.eq_1) (oE k8_r15.eq_1)
theorem k8_a : type_of% k8_p.down := k8_p.down
theorem k8_f0_a : cc Try.prog prims.hot 61 k8_f0.2.1 = some k8_f0a := by kernel_rfl
theorem k8_f0_b : cc Try.prog prims.hot 61 k8_f0.2.2 = some k8_f0b := by kernel_rfl
theorem k8_f0_n : hasRF k8_f0.2.1 = false ∧ hasRF k8_f0.2.2 = false := ⟨by kernel_rfl, by kernel_rfl⟩
/-- quern/quernlaw01.PackChains -/
theorem k8_is : FnIs Try.prog prims 8 61 [ResultVar.cell 4 4] k8 := FnIs.of_fn Try.func8 (by kernel_rfl) rfl
def k9_r0 : List COp := [o 4 (pO false)]
def k9_r1 : List COp := [o 19 (.call { callee := .value (.func 11), args := #[], argTypes := #[] }),
o 20 (.unOp .not 4 (.tmp 19))]
def k9_r2 : List COp := [o 4 (pO false)]
def k9_r3 : CC := (.hreg [
(true, o 21 (.buildSlice 22 0 #[])),
(false, o 22 (pM 0)),
(true, o 23 (pQ 21 22 22 22)),
(true, o 24 (.buildSlice 22 3 #[(0, .const (.int .u8 71)), (1, .const (.int .u8 72)), (2, .const (.int .u8 73))])),
(true, o 25 (pQ 23 24 22 22)),
(false, o 5 (pA 25))])
def k9_r4 : List COp := [o 26 (.buildSlice 30 0 #[]),
o 27 (pM 1),
o 28 (pQ 26 27 30 30),
o 6 (pA 28)]
def k9_r5 : List COp := [o 29 (pM 5),
o 30 (pM 0),
o 31 (pN 30 22),
o 32 (.slice 22 (.tmp 29) .none (some (.tmp 31)) .none),
o 33 (pM 6),
o 34 (pD 14 32 33 22 30),
o 7 (pA 34)]
def k9_r6 : List COp := [o 35 (pM 5),
o 36 (pM 0),
o 37 (pN 36 22),
o 38 (.slice 22 (.tmp 35) .none (some (.tmp 37)) .none),
o 39 (pM 6),
o 40 (pD 14 38 39 22 30),
o 8 (pA 40)]
def k9_r7 : List COp := [o 41 (pM 5),
o 42 (pM 0),
o 43 (pN 42 22),
o 44 (.slice 22 (.tmp 41) .none (some (.tmp 43)) .none),
o 45 (pC 19 44 22),
o 9 (pA 45)]
def k9_r8 : List COp := [o 46 (pM 5),
o 47 (pM 0),
o 48 (pN 47 22),
o 49 (.slice 22 (.tmp 46) .none (some (.tmp 48)) .none),
o 50 (pC 19 49 22),
o 10 (pA 50)]
def k9_r9 : List COp := [o 51 (pM 9),
o 52 (.binOp .eql 40 (.tmp 51) (.const (.pointer .none)) 40),
o 53 (pM 52),
oF 54 (pM 10) 53,
oF 55 (.binOp .eql 40 (.tmp 54) (.const (.pointer .none)) 40) 53,
o 56 (pV 53 55)]
def k9_r10 : List COp := [o 4 (pO false)]
def k9_r11 : List COp := [o 57 (pM 9),
o 58 (pM 0),
o 59 (pN 58 22),
o 60 (pD 20 57 59 40 3),
o 11 (pA 60)]
def k9_r12 : List COp := [o 61 (pM 5),
o 62 (pM 0),
o 63 (pN 62 22),
o 64 (.slice 22 (.tmp 61) .none (some (.tmp 63)) .none),
o 65 (pM 0),
o 66 (pD 15 64 65 22 22),
o 67 (.unOp .not 4 (.tmp 66)),
o 68 (pM 67),
oF 69 (pM 5) 68,
oF 70 (pM 0) 68,
oF 71 (pN 70 22) 68,
oF 72 (pI 22 69 71) 68,
oF 73 (pL 5 72) 68,
oF 74 (pK .neq 5 73 .u8 71 5) 68,
o 75 (pV 68 74),
o 76 (pM 75),
oF 77 (pM 5) 76,
oF 78 (pM 0) 76,
oF 79 (pN 78 22) 76,
oF 80 (pK .add 3 79 .i64 1 3) 76,
oF 81 (pI 22 77 80) 76,
oF 82 (pL 5 81) 76,
oF 83 (pK .neq 5 82 .u8 72 5) 76,
o 84 (pV 76 83),
o 85 (pM 84),
oF 86 (pM 5) 85,
oF 87 (pM 0) 85,
oF 88 (pN 87 22) 85,
oF 89 (pK .add 3 88 .i64 2 3) 85,
oF 90 (pI 22 86 89) 85,
oF 91 (pL 5 90) 85,
oF 92 (pK .neq 5 91 .u8 73 5) 85,
o 93 (pV 85 92),
o 94 (pM 93),
oF 95 (pM 7) 94,
oF 96 (pM 8) 94,
oF 97 (pD 15 95 96 22 22) 94,
oF 98 (.unOp .not 4 (.tmp 97)) 94,
o 99 (pV 94 98)]
def k9_r13 : List COp := [o 4 (pO false)]
def k9_r14 : List COp := [o 100 (pM 6),
o 101 (pN 100 30),
o 102 (pW .i64 0)]
def k9_r15 : List COp := [o 103 (pB .lss 3 102 101 3)]
def k9_r16 : List COp := [o 104 (pM 102),
o 12 (pA 104)]
def k9_r17 : List COp := [oX 105 (pM 6),
oX 106 (pM 12),
oX 107 (pI 30 105 106),
oX 108 (pL 3 107),
oX 109 (pM 1),
o 110 (pM 12),
o 111 (pI 30 109 110),
o 112 (pL 3 111),
o 113 (pB .neq 3 108 112 3)]
def k9_r18 : List COp := [o 4 (pO false)]
def k9_r19 : List COp := [o 114 (pK .add 3 102 .i64 1 3),
o 102 (pM 114)]
def k9_l0 : CC := (.seq (.region k9_r15) (.seq (.cond (.tmp 103) .skip (.exit 0)) (.seq (.block 1 (.seq (.region k9_r16) (.seq (.region k9_r17) (.cond (.tmp 113) (.seq (.region k9_r18) .ret) .skip)))) (.region k9_r19))))
def k9_r20 : List COp := [o 115 (.buildSlice 22 0 #[]),
o 116 (pM 8),
o 117 (pQ 115 116 22 22),
o 13 (pA 117)]
def k9_r21 : List COp := [o 118 (pM 5),
o 119 (pN 118 22),
o 120 (pW .i64 0)]
def k9_r22 : List COp := [o 121 (pB .lss 3 120 119 3)]
def k9_r23 : List COp := [o 122 (pM 120),
o 14 (pA 122)]
def k9_r24 : List COp := [o 123 (pM 5),
o 124 (pM 14),
o 125 (pI 22 123 124),
⟨none, .store 5 (.tmp 125) (.const (.int .u8 99)), none, true⟩]
def k9_r25 : List COp := [o 126 (pK .add 3 120 .i64 1 3),
o 120 (pM 126)]
def k9_l1 : CC := (.seq (.region k9_r22) (.seq (.cond (.tmp 121) .skip (.exit 2)) (.seq (.block 3 (.seq (.region k9_r23) (.region k9_r24))) (.region k9_r25))))
def k9_r26 : List COp := [o 127 (pM 7),
o 128 (pN 127 22),
o 129 (pW .i64 0)]
def k9_r27 : List COp := [o 130 (pB .lss 3 129 128 3)]
def k9_r28 : List COp := [o 131 (pM 129),
o 15 (pA 131)]
def k9_r29 : List COp := [o 132 (pM 7),
o 133 (pM 15),
o 134 (pI 22 132 133),
⟨none, .store 5 (.tmp 134) (.const (.int .u8 98)), none, true⟩]
def k9_r30 : List COp := [o 135 (pK .add 3 129 .i64 1 3),
o 129 (pM 135)]
def k9_l2 : CC := (.seq (.region k9_r27) (.seq (.cond (.tmp 130) .skip (.exit 4)) (.seq (.block 5 (.seq (.region k9_r28) (.region k9_r29))) (.region k9_r30))))
def k9_r31 : List COp := [o 136 (pM 7),
o 16 (pA 136)]
def k9_r32 : List COp := [o 17 (pZ .i64 0)]
def k9_r33 : List COp := [o 137 (pM 17),
o 138 (pK .lss 3 137 .i64 40 3)]
def k9_r35 : CC := (.hreg [
(false, o 141 (pM 16)),
(true, o 142 (.buildSlice 22 1 #[(0, .const (.int .u8 97))])),
(true, o 143 (pQ 141 142 22 22)),
(false, o 16 (pA 143))])
def k9_r34 : List COp := [o 139 (pM 17),
o 140 (pK .add 3 139 .i64 1 3),
o 17 (pA 140)]
def k9_l3 : CC := (.seq (.seq (.region k9_r33) (.cond (.tmp 138) .skip (.exit 6))) (.seq (.block 7 k9_r35) (.region k9_r34)))
def k9_r36 : List COp := [o 144 (pM 8),
o 145 (pM 13),
o 146 (pD 15 144 145 22 22),
o 147 (.unOp .not 4 (.tmp 146)),
o 148 (pM 147),
oF 149 (pM 11) 148,
oF 150 (pM 0) 148,
oF 151 (pD 15 149 150 22 22) 148,
oF 152 (.unOp .not 4 (.tmp 151)) 148,
o 153 (pV 148 152)]
def k9_r37 : List COp := [o 4 (pO false)]
def k9_r38 : List COp := [o 154 (pM 11),
o 155 (pN 154 22),
o 156 (pW .i64 0)]
def k9_r39 : List COp := [o 157 (pB .lss 3 156 155 3)]
def k9_r40 : List COp := [o 158 (pM 156),
o 18 (pA 158)]
def k9_r41 : List COp := [o 159 (pM 11),
o 160 (pM 18),
o 161 (pI 22 159 160),
⟨none, .store 5 (.tmp 161) (.const (.int .u8 55)), none, true⟩]
def k9_r42 : List COp := [o 162 (pK .add 3 156 .i64 1 3),
o 156 (pM 162)]
def k9_l4 : CC := (.seq (.region k9_r39) (.seq (.cond (.tmp 157) .skip (.exit 8)) (.seq (.block 9 (.seq (.region k9_r40) (.region k9_r41))) (.region k9_r42))))
def k9_r43 : List COp := [o 163 (pM 16),
o 164 (pN 163 22),
o 165 (pM 7),
o 166 (pN 165 22),
o 167 (pK .add 3 166 .i64 40 3),
o 168 (pB .eql 3 164 167 3),
o 169 (pM 168),
oT 170 (pM 10) 169,
oT 171 (pM 0) 169,
oT 172 (pN 171 22) 169,
oT 173 (pD 20 170 172 40 3) 169,
oT 174 (pM 0) 169,
oT 175 (pD 15 173 174 22 22) 169,
o 176 (pU 169 175),
o 177 (pM 176),
oT 178 (pM 10) 177,
oT 179 (pC 21 178 40) 177,
o 180 (pU 177 179),
o 4 (pA 180)]
def k9 : CC := (.seq (.region k9_r0) (.seq (.seq (.region k9_r1) (.cond (.tmp 20) (.seq (.region k9_r2) .ret) .skip)) (.seq k9_r3 (.seq (.region k9_r4) (.seq (.region k9_r5) (.seq (.region k9_r6) (.seq (.region k9_r7) (.seq (.region k9_r8) (.seq (.seq (.region k9_r9) (.cond (.tmp 56) (.seq (.region k9_r10) .ret) .skip)) (.seq (.region k9_r11) (.seq (.seq (.region k9_r12) (.cond (.tmp 99) (.seq (.region k9_r13) .ret) .skip)) (.seq (.seq (.region k9_r14) (.block 0 (.loop k9_l0))) (.seq (.region k9_r20) (.seq (.seq (.region k9_r21) (.block 2 (.loop k9_l1))) (.seq (.seq (.region k9_r26) (.block 4 (.loop k9_l2))) (.seq (.region k9_r31) (.seq (.seq (.region k9_r32) (.block 6 (.loop k9_l3))) (.seq (.seq (.region k9_r36) (.cond (.tmp 153) (.seq (.region k9_r37) .ret) .skip)) (.seq (.seq (.region k9_r38) (.block 8 (.loop k9_l4))) (.seq (.region k9_r43) .ret))))))))))))))))))))
def k9_p := PLift.up <| aI (vE k9.eq_1) <| aI (oE k9_r0.eq_1) <| aI (oE k9_r1.eq_1) <| aI (oE k9_r2.eq_1) <| aI (vE k9_r3.eq_1) <| aI (oE k9_r4.eq_1) <| aI (oE k9_r5.eq_1) <| aI (oE k9_r6.eq_1) <| aI (oE k9_r7.eq_1) <| aI (oE k9_r8.eq_1) <| aI (oE k9_r9.eq_1) <| aI (oE k9_r10.eq_1) <| aI (oE k9_r11.eq_1) <| aI (oE k9_r12.eq_1) <| aI (oE k9_r13.eq_1) <| aI (oE k9_r14.eq_1) <| aI (oE k9_r15.eq_1) <| aI (oE k9_r16.eq_1) <| aI (oE k9_r17.eq_1) <| aI (oE k9_r18.eq_1) <| aI (oE k9_r19.eq_1) <| aI (vE k9_l0.eq_1) <| aI (oE k9_r20.eq_1) <| aI (oE k9_r21.eq_1) <| aI (oE k9_r22.eq_1) <| aI (oE k9_r23.eq_1) <| aI (oE k9_r24.eq_1) <| aI (oE k9_r25.eq_1) <| aI (vE k9_l1.eq_1) <| aI (oE k9_r26.eq_1) <| aI (oE k9_r27.eq_1) <| aI (oE k9_r28.eq_1) <| aI (oE k9_r29.eq_1) <| aI (oE k9_r30.eq_1) <| aI (vE k9_l2.eq_1) <| aI (oE k9_r31.eq_1) <| aI (oE k9_r32.eq_1) <| aI (oE k9_r33.eq_1) <| aI (vE k9_r35.eq_1) <| aI (oE k9_r34.eq_1) <| aI (vE k9_l3.eq_1) <| aI (oE k9_r36.eq_1) <| aI (oE k9_r37.eq_1) <| aI (oE k9_r38.eq_1) <| aI (oE k9_r39.eq_1) <| aI (oE k9_r40.eq_1) <| aI (oE k9_r41.eq_1) <| aI (oE k9_r42.eq_1) <| aI (vE k9_l4.eq_1) (oE k9_r43.eq_1)
theorem k9_a : type_of% k9_p.down := k9_p.down
/-- quern/quernlaw01.PackMemory -/
theorem k9_is : FnIs Try.prog prims 9 181 [ResultVar.tmp 4] k9 := FnIs.of_fn Try.func9 (by kernel_rfl) rfl
def k11_r0 : List COp := [o 0 (pO false)]
def k11_r1 : List COp := [o 4 (.buildSlice 22 3 #[(0, .const (.int .u8 172)), (1, .const (.int .u8 2)), (2, .const (.int .u8 7))]),
o 5 (pC 12 4 22),
o 3 (pM 5),
o 6 (pX 3 0),
o 7 (pX 3 1),
o 1 (pA 6),
o 2 (pA 7)]
def k11_r2 : List COp := [o 8 (pM 1),
o 9 (pK .eql 3 8 .i64 300 3),
o 10 (pM 9),
oT 11 (pM 2) 10,
oT 12 (pK .eql 3 11 .i64 2 3) 10,
o 13 (pU 10 12),
o 14 (pM 13),
oT 15 (.buildSlice 30 4 #[(0, .const (.int .i64 0)), (1, .const (.int .i64 127)), (2, .const (.int .i64 128)), (3, .const (.int .i64 300))]) 14,
oT 16 (.call { callee := .value (.func 14), args := #[.const (.slice .none 0 0), .tmp 15], argTypes := #[22, 30] }) 14,
oT 17 (.buildSlice 22 6 #[(0, .const (.int .u8 0)), (1, .const (.int .u8 127)), (2, .const (.int .u8 128)), (3, .const (.int .u8 1)), (4, .const (.int .u8 172)), (5, .const (.int .u8 2))]) 14,
oT 18 (pD 15 16 17 22 22) 14,
o 19 (pU 14 18),
o 0 (pA 19)]
def k11 : CC := (.seq (.region k11_r0) (.seq (.region k11_r1) (.seq (.region k11_r2) .ret)))
def k11_p := PLift.up <| aI (vE k11.eq_1) <| aI (oE k11_r0.eq_1) <| aI (oE k11_r1.eq_1) (oE k11_r2.eq_1)
theorem k11_a : type_of% k11_p.down := k11_p.down
/-- quern/quernlaw01.wakes -/
theorem k11_is : FnIs Try.prog prims 11 20 [ResultVar.tmp 0] k11 := FnIs.of_fn Try.func11 (by kernel_rfl) rfl
def k12_r0 : List COp := [o 2 (pZ .i64 0),
o 3 (pZ .i64 0)]
def k12_r1 : List COp := [o 4 (pZ .i64 0)]
def k12_r2 : List COp := [o 5 (pZ .i64 0)]
def k12_r3 : List COp := [o 6 (pM 5),
o 7 (pM 0),
o 8 (pN 7 22),
o 9 (pB .lss 3 6 8 3),
o 10 (pM 9),
oT 11 (pM 5) 10,
oT 12 (pK .lss 3 11 .i64 9 3) 10,
o 13 (pU 10 12)]
def k12_r5 : List COp := [o 16 (pM 4),
o 17 (pM 0),
o 18 (pM 5),
o 19 (pI 22 17 18),
o 20 (pL 5 19),
o 21 (pK .and 5 20 .u8 127 5),
o 22 (.convert 5 3 (.tmp 21)),
o 23 (pM 5),
o 24 (.binOp .mul 3 (.const (.int .i64 7)) (.tmp 23) 3),
o 25 (pB .shl 3 22 24 3),
o 26 (pB .or 3 16 25 3),
o 4 (pA 26)]
def k12_r6 : List COp := [o 27 (pM 0),
o 28 (pM 5),
o 29 (pI 22 27 28),
o 30 (pL 5 29),
o 31 (pK .gtr 5 30 .u8 127 5)]
def k12_r7 : List COp := [o 32 (pM 0),
o 33 (pM 5),
o 34 (pI 22 32 33),
o 35 (pL 5 34),
o 36 (pK .eql 5 35 .u8 0 5),
o 37 (pM 36),
oT 38 (pM 5) 37,
oT 39 (pK .gtr 3 38 .i64 0 3) 37,
o 40 (pU 37 39)]
def k12_r8 : List COp := [o 41 (pM 4),
o 42 (pM 5),
o 43 (pK .add 3 42 .i64 1 3),
o 2 (pA 41),
o 3 (pA 43)]
def k12_r4 : List COp := [o 14 (pM 5),
o 15 (pK .add 3 14 .i64 1 3),
o 5 (pA 15)]
def k12_l0 : CC := (.seq (.seq (.region k12_r3) (.cond (.tmp 13) .skip (.exit 0))) (.seq (.block 1 (.seq (.region k12_r5) (.seq (.seq (.region k12_r6) (.cond (.tmp 31) (.exit 1) .skip)) (.seq (.seq (.region k12_r7) (.cond (.tmp 40) (.exit 0) .skip)) (.seq (.region k12_r8) .ret))))) (.region k12_r4)))
def k12_r9 : List COp := [o 2 (pZ .i64 0),
o 3 (pZ .i64 0)]
def k12 : CC := (.seq (.region k12_r0) (.seq (.region k12_r1) (.seq (.seq (.region k12_r2) (.block 0 (.loop k12_l0))) (.seq (.region k12_r9) .ret))))
def k12_p := PLift.up <| aI (vE k12.eq_1) <| aI (oE k12_r0.eq_1) <| aI (oE k12_r1.eq_1) <| aI (oE k12_r2.eq_1) <| aI (oE k12_r3.eq_1) <| aI (oE k12_r5.eq_1) <| aI (oE k12_r6.eq_1) <| aI (oE k12_r7.eq_1) <| aI (oE k12_r8.eq_1) <| aI (oE k12_r4.eq_1) <| aI (vE k12_l0.eq_1) (oE k12_r9.eq_1)
theorem k12_a : type_of% k12_p.down := k12_p.down
/-- quern/pack.Take -/
theorem k12_is : FnIs Try.prog prims 12 44 [ResultVar.tmp 2, ResultVar.tmp 3] k12 := FnIs.of_fn Try.func12 (by kernel_rfl) rfl
def k13_r0 : List COp := [o 2 (pZ .i64 0),
o 3 (pZ .i64 0)]
def k13_r1 : List COp := [o 4 (pZ .i64 0)]
def k13_r2 : List COp := [o 7 (pM 4),
o 8 (pM 0),
o 9 (pN 8 22),
o 10 (pB .lss 3 7 9 3),
o 11 (pM 10),
oT 12 (pM 0) 11,
oT 13 (pM 4) 11,
oT 14 (pI 22 12 13) 11,
oT 15 (pL 5 14) 11,
oT 16 (pK .geq 5 15 .u8 128 5) 11,
o 17 (pU 11 16)]
def k13_r3 : List COp := [o 18 (pM 4),
o 19 (pK .add 3 18 .i64 1 3),
o 4 (pA 19)]
def k13_l0 : CC := (.seq (.seq (.region k13_r2) (.cond (.tmp 17) .skip (.exit 0))) (.block 1 (.region k13_r3)))
def k13_r4 : List COp := [o 20 (pM 4),
o 21 (pM 0),
o 22 (pN 21 22),
o 23 (pB .geq 3 20 22 3),
o 24 (pM 23),
oF 25 (pM 4) 24,
oF 26 (pK .geq 3 25 .i64 9 3) 24,
o 27 (pV 24 26),
o 28 (pM 27),
oF 29 (pM 4) 28,
oF 30 (pK .gtr 3 29 .i64 0 3) 28,
oF 31 (pM 30) 28,
oT 32 (pM 0) 31,
oT 33 (pM 4) 31,
oT 34 (pI 22 32 33) 31,
oT 35 (pL 5 34) 31,
oT 36 (pK .eql 5 35 .u8 0 5) 31,
oF 37 (pU 31 36) 28,
o 38 (pV 28 37)]
def k13_r5 : List COp := [o 2 (pZ .i64 0),
o 3 (pZ .i64 0)]
def k13_r6 : List COp := [o 5 (pZ .i64 0)]
def k13_r7 : List COp := [o 39 (pM 4),
o 6 (pA 39)]
def k13_r8 : List COp := [o 40 (pM 6),
o 41 (pK .geq 3 40 .i64 0 3)]
def k13_r10 : List COp := [o 44 (pM 5),
o 45 (pK .mul 3 44 .i64 128 3),
o 46 (pM 0),
o 47 (pM 6),
o 48 (pI 22 46 47),
o 49 (pL 5 48),
o 50 (.convert 5 3 (.tmp 49)),
o 51 (pK .rem 3 50 .i64 128 3),
o 52 (pB .add 3 45 51 3),
o 5 (pA 52)]
def k13_r9 : List COp := [o 42 (pM 6),
o 43 (pK .sub 3 42 .i64 1 3),
o 6 (pA 43)]
def k13_l1 : CC := (.seq (.seq (.region k13_r8) (.cond (.tmp 41) .skip (.exit 2))) (.seq (.block 3 (.region k13_r10)) (.region k13_r9)))
def k13_r11 : List COp := [o 53 (pM 5),
o 54 (pM 4),
o 55 (pK .add 3 54 .i64 1 3),
o 2 (pA 53),
o 3 (pA 55)]
def k13 : CC := (.seq (.region k13_r0) (.seq (.region k13_r1) (.seq (.block 0 (.loop k13_l0)) (.seq (.seq (.region k13_r4) (.cond (.tmp 38) (.seq (.region k13_r5) .ret) .skip)) (.seq (.region k13_r6) (.seq (.seq (.region k13_r7) (.block 2 (.loop k13_l1))) (.seq (.region k13_r11) .ret)))))))
def k13_p := PLift.up <| aI (vE k13.eq_1) <| aI (oE k13_r0.eq_1) <| aI (oE k13_r1.eq_1) <| aI (oE k13_r2.eq_1) <| aI (oE k13_r3.eq_1) <| aI (vE k13_l0.eq_1) <| aI (oE k13_r4.eq_1) <| aI (oE k13_r5.eq_1) <| aI (oE k13_r6.eq_1) <| aI (oE k13_r7.eq_1) <| aI (oE k13_r8.eq_1) <| aI (oE k13_r10.eq_1) <| aI (oE k13_r9.eq_1) <| aI (vE k13_l1.eq_1) (oE k13_r11.eq_1)
theorem k13_a : type_of% k13_p.down := k13_p.down
/-- quern/quernref01.Take -/
theorem k13_is : FnIs Try.prog prims 13 56 [ResultVar.tmp 2, ResultVar.tmp 3] k13 := FnIs.of_fn Try.func13 (by kernel_rfl) rfl
def k14_r0 : List COp := [o 4 (.assign (.const (.slice .none 0 0)))]
def k14_r1 : CC := (.hreg [
(false, o 8 (pM 0)),
(false, o 9 (pN 8 22)),
(false, o 10 (pM 1)),
(false, o 11 (pN 10 30)),
(false, o 12 (.binOp .mul 3 (.const (.int .i64 2)) (.tmp 11) 3)),
(false, o 13 (pB .add 3 9 12 3)),
(true, o 14 (.makeSlice 22 (.const (.int .i64 0)) (.tmp 13))),
(false, o 15 (pM 0)),
(true, o 16 (pQ 14 15 22 22)),
(false, o 5 (pA 16))])
def k14_r2 : List COp := [o 17 (pM 1),
o 18 (pN 17 30),
o 19 (pW .i64 0)]
def k14_r3 : List COp := [o 20 (pB .lss 3 19 18 3)]
def k14_r4 : List COp := [o 21 (pI 30 17 19),
o 22 (pL 3 21),
o 7 (pA 22)]
def k14_r5 : List COp := [o 23 (pM 7),
o 24 (.call { callee := .builtin .max, args := #[.tmp 23, .const (.int .i64 0)], argTypes := #[3, 3] }),
o 7 (pA 24)]
def k14_r6 : List COp := [o 25 (pM 7),
o 26 (pK .gtr 3 25 .i64 127 3)]
def k14_r8 : CC := (.hreg [
(false, o 29 (pM 5)),
(false, o 30 (pM 7)),
(false, o 31 (pK .and 3 30 .i64 127 3)),
(false, o 32 (pK .or 3 31 .i64 128 3)),
(false, o 33 (.convert 3 5 (.tmp 32))),
(true, o 34 (.buildSlice 22 1 #[(0, .tmp 33)])),
(true, o 35 (pQ 29 34 22 22)),
(false, o 5 (pA 35))])
def k14_r7 : List COp := [o 27 (pM 7),
o 28 (pK .shr 3 27 .u64 7 52),
o 7 (pA 28)]
def k14_l1 : CC := (.seq (.seq (.region k14_r6) (.cond (.tmp 26) .skip (.exit 2))) (.seq (.block 3 k14_r8) (.region k14_r7)))
def k14_r9 : CC := (.hreg [
(false, o 36 (pM 5)),
(false, o 37 (pM 7)),
(false, o 38 (.convert 3 5 (.tmp 37))),
(true, o 39 (.buildSlice 22 1 #[(0, .tmp 38)])),
(true, o 40 (pQ 36 39 22 22)),
(false, o 5 (pA 40))])
def k14_r10 : List COp := [o 41 (pK .add 3 19 .i64 1 3),
o 19 (pM 41)]
def k14_l0 : CC := (.seq (.region k14_r3) (.seq (.cond (.tmp 20) .skip (.exit 0)) (.seq (.block 1 (.seq (.region k14_r4) (.seq (.region k14_r5) (.seq (.block 2 (.loop k14_l1)) k14_r9)))) (.region k14_r10))))
def k14_r11 : List COp := [o 42 (pM 5),
o 4 (pA 42)]
def k14 : CC := (.seq (.region k14_r0) (.seq k14_r1 (.seq (.seq (.region k14_r2) (.block 0 (.loop k14_l0))) (.seq (.region k14_r11) .ret))))
def k14_p := PLift.up <| aI (vE k14.eq_1) <| aI (oE k14_r0.eq_1) <| aI (vE k14_r1.eq_1) <| aI (oE k14_r2.eq_1) <| aI (oE k14_r3.eq_1) <| aI (oE k14_r4.eq_1) <| aI (oE k14_r5.eq_1) <| aI (oE k14_r6.eq_1) <| aI (vE k14_r8.eq_1) <| aI (oE k14_r7.eq_1) <| aI (vE k14_l1.eq_1) <| aI (vE k14_r9.eq_1) <| aI (oE k14_r10.eq_1) <| aI (vE k14_l0.eq_1) (oE k14_r11.eq_1)
theorem k14_a : type_of% k14_p.down := k14_p.down
/-- quern/pack.Put -/
theorem k14_is : FnIs Try.prog prims 14 43 [ResultVar.tmp 4] k14 := FnIs.of_fn Try.func14 (by kernel_rfl) rfl
def k15_r0 : List COp := [o 4 (pO false)]
def k15_r1 : List COp := [o 6 (pM 0),
o 7 (pN 6 22),
o 8 (pM 1),
o 9 (pN 8 22),
o 10 (pB .neq 3 7 9 3)]
def k15_r2 : List COp := [o 4 (pO false)]
def k15_r3 : List COp := [o 11 (pM 0),
o 12 (pN 11 22),
o 13 (pW .i64 0)]
def k15_r4 : List COp := [o 14 (pB .lss 3 13 12 3)]
def k15_r5 : List COp := [o 15 (pM 13),
o 5 (pA 15)]
def k15_r6 : List COp := [oX 16 (pM 0),
oX 17 (pM 5),
oX 18 (pI 22 16 17),
oX 19 (pL 5 18),
oX 20 (pM 1),
o 21 (pM 5),
o 22 (pI 22 20 21),
o 23 (pL 5 22),
o 24 (pB .neq 5 19 23 5)]
def k15_r7 : List COp := [o 4 (pO false)]
def k15_r8 : List COp := [o 25 (pK .add 3 13 .i64 1 3),
o 13 (pM 25)]
def k15_l0 : CC := (.seq (.region k15_r4) (.seq (.cond (.tmp 14) .skip (.exit 0)) (.seq (.block 1 (.seq (.region k15_r5) (.seq (.region k15_r6) (.cond (.tmp 24) (.seq (.region k15_r7) .ret) .skip)))) (.region k15_r8))))
def k15_r9 : List COp := [o 4 (pO true)]
def k15 : CC := (.seq (.region k15_r0) (.seq (.seq (.region k15_r1) (.cond (.tmp 10) (.seq (.region k15_r2) .ret) .skip)) (.seq (.seq (.region k15_r3) (.block 0 (.loop k15_l0))) (.seq (.region k15_r9) .ret))))
def k15_p := PLift.up <| aI (vE k15.eq_1) <| aI (oE k15_r0.eq_1) <| aI (oE k15_r1.eq_1) <| aI (oE k15_r2.eq_1) <| aI (oE k15_r3.eq_1) <| aI (oE k15_r4.eq_1) <| aI (oE k15_r5.eq_1) <| aI (oE k15_r6.eq_1) <| aI (oE k15_r7.eq_1) <| aI (oE k15_r8.eq_1) <| aI (vE k15_l0.eq_1) (oE k15_r9.eq_1)
theorem k15_a : type_of% k15_p.down := k15_p.down
/-- quern/quernlaw01.same -/
theorem k15_is : FnIs Try.prog prims 15 26 [ResultVar.tmp 4] k15 := FnIs.of_fn Try.func15 (by kernel_rfl) rfl
def k16_r0 : List COp := [o 4 (.assign (.const (.slice .none 0 0)))]
def k16_r1 : List COp := [o 6 (.buildSlice 22 0 #[]),
o 7 (pM 0),
o 8 (pQ 6 7 22 22),
o 5 (pA 8)]
def k16_r2 : List COp := [o 9 (pM 1),
o 10 (pK .lss 3 9 .i64 0 3)]
def k16_r3 : List COp := [o 1 (pZ .i64 0)]
def k16_r4 : List COp := [o 11 (pM 1),
o 12 (pK .geq 3 11 .i64 128 3)]
def k16_r5 : List COp := [o 13 (pM 5),
o 14 (pM 1),
o 15 (pK .rem 3 14 .i64 128 3),
o 16 (pK .add 3 15 .i64 128 3),
o 17 (.convert 3 5 (.tmp 16)),
o 18 (.buildSlice 22 1 #[(0, .tmp 17)]),
o 19 (pQ 13 18 22 22),
o 5 (pA 19)]
def k16_r6 : List COp := [o 20 (pM 1),
o 21 (pK .quo 3 20 .i64 128 3),
o 1 (pA 21)]
def k16_l0 : CC := (.seq (.seq (.region k16_r4) (.cond (.tmp 12) .skip (.exit 0))) (.block 1 (.seq (.region k16_r5) (.region k16_r6))))
def k16_r7 : List COp := [o 22 (pM 5),
o 23 (pM 1),
o 24 (.convert 3 5 (.tmp 23)),
o 25 (.buildSlice 22 1 #[(0, .tmp 24)]),
o 26 (pQ 22 25 22 22),
o 4 (pA 26)]
def k16 : CC := (.seq (.region k16_r0) (.seq (.region k16_r1) (.seq (.seq (.region k16_r2) (.cond (.tmp 10) (.region k16_r3) .skip)) (.seq (.block 0 (.loop k16_l0)) (.seq (.region k16_r7) .ret)))))
def k16_p := PLift.up <| aI (vE k16.eq_1) <| aI (oE k16_r0.eq_1) <| aI (oE k16_r1.eq_1) <| aI (oE k16_r2.eq_1) <| aI (oE k16_r3.eq_1) <| aI (oE k16_r4.eq_1) <| aI (oE k16_r5.eq_1) <| aI (oE k16_r6.eq_1) <| aI (vE k16_l0.eq_1) (oE k16_r7.eq_1)
theorem k16_a : type_of% k16_p.down := k16_p.down
/-- quern/quernref01.Put -/
theorem k16_is : FnIs Try.prog prims 16 27 [ResultVar.tmp 4] k16 := FnIs.of_fn Try.func16 (by kernel_rfl) rfl
def k17_r0 : List COp := [o 2 (pZ .i64 0)]
def k17_r1 : List COp := [o 3 (pM 0),
o 4 (.buildSlice 30 1 #[(0, .tmp 3)]),
o 5 (.call { callee := .value (.func 14), args := #[.const (.slice .none 0 0), .tmp 4], argTypes := #[22, 30] }),
o 6 (pN 5 22),
o 2 (pA 6)]
def k17 : CC := (.seq (.region k17_r0) (.seq (.region k17_r1) .ret))
def k17_p := PLift.up <| aI (vE k17.eq_1) <| aI (oE k17_r0.eq_1) (oE k17_r1.eq_1)
theorem k17_a : type_of% k17_p.down := k17_p.down
/-- quern/pack.Size -/
theorem k17_is : FnIs Try.prog prims 17 7 [ResultVar.tmp 2] k17 := FnIs.of_fn Try.func17 (by kernel_rfl) rfl
def k18_r0 : List COp := [o 2 (.assign (.const .nilFunc))]
def k18_r1 : List COp := [o 4 (.buildSlice 22 0 #[]),
o 5 (pM 0),
o 6 (pQ 4 5 22 22),
o 3 (.alloc 22),
oS 22 3 6]
def k18_r2 : List COp := [o 7 (.makeFunc (.func 29) #[] #[.tmp 3]),
o 2 (pA 7)]
def k18 : CC := (.seq (.region k18_r0) (.seq (.region k18_r1) (.seq (.region k18_r2) .ret)))
def k18_p := PLift.up <| aI (vE k18.eq_1) <| aI (oE k18_r0.eq_1) <| aI (oE k18_r1.eq_1) (oE k18_r2.eq_1)
theorem k18_a : type_of% k18_p.down := k18_p.down
/-- quern/pack.Numbers -/
theorem k18_is : FnIs Try.prog prims 18 8 [ResultVar.tmp 2] k18 := FnIs.of_fn Try.func18 (by kernel_rfl) rfl
def k19_r0 : List COp := [o 2 (.assign (.const (.pointer .none)))]
def k19_r1 : List COp := [o 3 (.buildSlice 22 0 #[]),
o 4 (pM 0),
o 5 (pQ 3 4 22 22),
o 6 (.build 54 #[(0, .tmp 5)]),
o 7 (.box 54 (.tmp 6)),
o 2 (pA 7)]
def k19 : CC := (.seq (.region k19_r0) (.seq (.region k19_r1) .ret))
def k19_p := PLift.up <| aI (vE k19.eq_1) <| aI (oE k19_r0.eq_1) (oE k19_r1.eq_1)
theorem k19_a : type_of% k19_p.down := k19_p.down
/-- quern/pack.New -/
theorem k19_is : FnIs Try.prog prims 19 8 [ResultVar.tmp 2] k19 := FnIs.of_fn Try.func19 (by kernel_rfl) rfl
def k20_r0 : List COp := [o 4 (.assign (.const (.slice .none 0 0)))]
def k20_r1 : List COp := [o 6 (pM 0),
o 7 (.binOp .eql 40 (.tmp 6) (.const (.pointer .none)) 40),
o 8 (pM 7),
oF 9 (pM 0) 8,
oF 10 (.nilCheck (.tmp 9)) 8,
oF 11 (pF 54 10 1) 8,
oF 12 (pL 4 11) 8,
o 13 (pV 8 12)]
def k20_r2 : List COp := [o 4 (.assign (.const (.slice .none 0 0)))]
def k20_r3 : List COp := [o 14 (pM 1),
o 15 (pK .lss 3 14 .i64 0 3),
o 16 (pM 15),
oF 17 (pM 1) 16,
oF 18 (pM 0) 16,
oF 19 (.nilCheck (.tmp 18)) 16,
oF 20 (pF 54 19 0) 16,
oF 21 (pL 22 20) 16,
oF 22 (pN 21 22) 16,
oF 23 (pB .gtr 3 17 22 3) 16,
o 24 (pV 16 23)]
def k20_r4 : List COp := [o 25 (pM 0),
o 26 (.nilCheck (.tmp 25)),
o 27 (pF 54 26 1),
⟨none, .store 4 (.tmp 27) (.const (.bool true)), none, true⟩]
def k20_r5 : List COp := [o 4 (.assign (.const (.slice .none 0 0)))]
def k20_r6 : CC := (.hreg [
(true, o 28 (.buildSlice 22 0 #[])),
(false, o 29 (pM 0)),
(false, o 30 (.nilCheck (.tmp 29))),
(false, o 31 (pF 54 30 0)),
(false, o 32 (pL 22 31)),
(false, o 33 (pM 1)),
(false, o 34 (.slice 22 (.tmp 32) .none (some (.tmp 33)) .none)),
(true, o 35 (pQ 28 34 22 22)),
(false, o 5 (pA 35))])
def k20_r7 : List COp := [o 36 (pM 0),
o 37 (pM 0),
o 38 (.nilCheck (.tmp 37)),
o 39 (pF 54 38 0),
o 40 (pL 22 39),
o 41 (pM 1),
o 42 (.slice 22 (.tmp 40) (some (.tmp 41)) .none .none),
o 43 (.nilCheck (.tmp 36)),
o 44 (pF 54 43 0),
oS 22 44 42]
def k20_r8 : List COp := [o 45 (pM 5),
o 4 (pA 45)]
def k20 : CC := (.seq (.region k20_r0) (.seq (.seq (.region k20_r1) (.cond (.tmp 13) (.seq (.region k20_r2) .ret) .skip)) (.seq (.seq (.region k20_r3) (.cond (.tmp 24) (.seq (.region k20_r4) (.seq (.region k20_r5) .ret)) .skip)) (.seq k20_r6 (.seq (.region k20_r7) (.seq (.region k20_r8) .ret))))))
def k20_p := PLift.up <| aI (vE k20.eq_1) <| aI (oE k20_r0.eq_1) <| aI (oE k20_r1.eq_1) <| aI (oE k20_r2.eq_1) <| aI (oE k20_r3.eq_1) <| aI (oE k20_r4.eq_1) <| aI (oE k20_r5.eq_1) <| aI (vE k20_r6.eq_1) <| aI (oE k20_r7.eq_1) (oE k20_r8.eq_1)
theorem k20_a : type_of% k20_p.down := k20_p.down
/-- (*quern/pack.Reader).Bytes -/
theorem k20_is : FnIs Try.prog prims 20 46 [ResultVar.tmp 4] k20 := FnIs.of_fn Try.func20 (by kernel_rfl) rfl
def k21_r0 : List COp := [o 2 (pO false)]
def k21_r1 : List COp := [o 3 (pM 0),
o 4 (.binOp .neq 40 (.tmp 3) (.const (.pointer .none)) 40),
o 5 (pM 4),
oT 6 (pM 0) 5,
oT 7 (.nilCheck (.tmp 6)) 5,
oT 8 (pF 54 7 1) 5,
oT 9 (pL 4 8) 5,
oT 10 (.unOp .not 4 (.tmp 9)) 5,
o 11 (pU 5 10),
o 12 (pM 11),
oT 13 (pM 0) 12,
oT 14 (.nilCheck (.tmp 13)) 12,
oT 15 (pF 54 14 0) 12,
oT 16 (pL 22 15) 12,
oT 17 (pN 16 22) 12,
oT 18 (pK .eql 3 17 .i64 0 3) 12,
o 19 (pU 12 18),
o 2 (pA 19)]
def k21 : CC := (.seq (.region k21_r0) (.seq (.region k21_r1) .ret))
def k21_p := PLift.up <| aI (vE k21.eq_1) <| aI (oE k21_r0.eq_1) (oE k21_r1.eq_1)
theorem k21_a : type_of% k21_p.down := k21_p.down
/-- (*quern/pack.Reader).End -/
theorem k21_is : FnIs Try.prog prims 21 20 [ResultVar.tmp 2] k21 := FnIs.of_fn Try.func21 (by kernel_rfl) rfl
def k29_r0 : List COp := [o 3 (pZ .i64 0)]
def k29_r1 : List COp := [o 7 (pL 22 1),
o 8 (pM 3),
o 9 (.slice 22 (.tmp 7) (some (.tmp 8)) .none .none),
o 10 (pC 12 9 22),
o 6 (pM 10),
o 11 (pX 6 0),
o 12 (pX 6 1),
o 4 (pA 11),
o 5 (pA 12)]
def k29_r2 : List COp := [o 13 (pM 5),
o 14 (pK .eql 3 13 .i64 0 3),
o 15 (pM 14),
oF 16 (pM 0) 15,
oF 17 (pM 3) 15,
oF 18 (pM 4) 15,
oF 19 (.call { callee := .value (.tmp 16), args := #[.tmp 17, .tmp 18], argTypes := #[3, 3] }) 15,
oF 20 (.unOp .not 4 (.tmp 19)) 15,
o 21 (pV 15 20)]
def k29_r3 : List COp := [o 22 (pM 3),
o 23 (pM 5),
o 24 (pB .add 3 22 23 3),
o 3 (pA 24)]
def k29_l0 : CC := (.block 1 (.seq (.region k29_r1) (.seq (.seq (.region k29_r2) (.cond (.tmp 21) .ret .skip)) (.region k29_r3))))
def k29 : CC := (.seq (.region k29_r0) (.block 0 (.loop k29_l0)))
def k29_p := PLift.up <| aI (vE k29.eq_1) <| aI (oE k29_r0.eq_1) <| aI (oE k29_r1.eq_1) <| aI (oE k29_r2.eq_1) <| aI (oE k29_r3.eq_1) (vE k29_l0.eq_1)
theorem k29_a : type_of% k29_p.down := k29_p.down
/-- quern/pack.Numbers$1 -/
theorem k29_is : FnIs Try.prog prims 29 25 [] k29 := FnIs.of_fn Try.func29 (by kernel_rfl) rfl
theorem noSB : isSB Try.prog 3 = false ∧ isSB Try.prog 4 = false ∧ isSB Try.prog 22 = false ∧ True := ⟨by kernel_rfl, by kernel_rfl, by kernel_rfl, trivial⟩
end Go.Proofs.Ytmcadfejkcpblaa.Q
