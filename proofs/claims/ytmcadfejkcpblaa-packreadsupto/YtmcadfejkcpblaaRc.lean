/- The code of some functions without its ornaments. Written by gen.py. -/
import Derived.Test.YtmcadfejkcpblaaQp
import Derived.Test.YtmcadfejkcpblaaChecked
set_option maxRecDepth 100000
namespace Go.Proofs.Ytmcadfejkcpblaa.Q
open Go Go.RowKit Go.Proofs
def k3_r0 : List COp := [
  ⟨some 2, Op.assign (Operand.const (Value.bool false)), none, true⟩]
theorem k3_r0_e {P : Program} {pr : Prim} {N : Nat} {e : Nat → V} {σ : St} {Q : VX → (Nat → V) → St → Prop} : Eo P pr N k3_r0 e σ Q = Eo P pr N [
  ⟨some 2, Op.assign (Operand.const (Value.bool false)), none, true⟩] e σ Q := propext ⟨fun h => h, fun h => h⟩
def k3_r1 : List COp := [
  ⟨some 7, Op.call { callee := Callee.value (Operand.func 11), args := #[], argTypes := #[] }, none, true⟩,
  ⟨some 8, Op.unOp UnOp.not 4 (Operand.tmp 7), none, true⟩]
theorem k3_r1_e {P : Program} {pr : Prim} {N : Nat} {e : Nat → V} {σ : St} {Q : VX → (Nat → V) → St → Prop} : Eo P pr N k3_r1 e σ Q = Eo P pr N [
  ⟨some 7, Op.call { callee := Callee.value (Operand.func 11), args := #[], argTypes := #[] }, none, true⟩,
  ⟨some 8, Op.unOp UnOp.not 4 (Operand.tmp 7), none, true⟩] e σ Q := propext ⟨fun h => h, fun h => h⟩
def k3_r2 : List COp := [
  ⟨some 2, Op.assign (Operand.const (Value.bool false)), none, true⟩]
theorem k3_r2_e {P : Program} {pr : Prim} {N : Nat} {e : Nat → V} {σ : St} {Q : VX → (Nat → V) → St → Prop} : Eo P pr N k3_r2 e σ Q = Eo P pr N [
  ⟨some 2, Op.assign (Operand.const (Value.bool false)), none, true⟩] e σ Q := propext ⟨fun h => h, fun h => h⟩
def k3_r3 : List COp := [
  ⟨some 10, Op.move (Operand.tmp 0), none, true⟩,
  ⟨some 11, Op.call { callee := Callee.value (Operand.func 12), args := #[Operand.tmp 10], argTypes := #[22] }, none, true⟩,
  ⟨some 9, Op.move (Operand.tmp 11), none, true⟩,
  ⟨some 12, Op.extract (Operand.tmp 9) 0, none, true⟩,
  ⟨some 13, Op.extract (Operand.tmp 9) 1, none, true⟩,
  ⟨some 3, Op.assign (Operand.tmp 12), none, true⟩,
  ⟨some 4, Op.assign (Operand.tmp 13), none, true⟩]
theorem k3_r3_e {P : Program} {pr : Prim} {N : Nat} {e : Nat → V} {σ : St} {Q : VX → (Nat → V) → St → Prop} : Eo P pr N k3_r3 e σ Q = Eo P pr N [
  ⟨some 10, Op.move (Operand.tmp 0), none, true⟩,
  ⟨some 11, Op.call { callee := Callee.value (Operand.func 12), args := #[Operand.tmp 10], argTypes := #[22] }, none, true⟩,
  ⟨some 9, Op.move (Operand.tmp 11), none, true⟩,
  ⟨some 12, Op.extract (Operand.tmp 9) 0, none, true⟩,
  ⟨some 13, Op.extract (Operand.tmp 9) 1, none, true⟩,
  ⟨some 3, Op.assign (Operand.tmp 12), none, true⟩,
  ⟨some 4, Op.assign (Operand.tmp 13), none, true⟩] e σ Q := propext ⟨fun h => h, fun h => h⟩
def k3_r4 : List COp := [
  ⟨some 15, Op.move (Operand.tmp 0), none, true⟩,
  ⟨some 16, Op.call { callee := Callee.value (Operand.func 13), args := #[Operand.tmp 15], argTypes := #[22] }, none, true⟩,
  ⟨some 14, Op.move (Operand.tmp 16), none, true⟩,
  ⟨some 17, Op.extract (Operand.tmp 14) 0, none, true⟩,
  ⟨some 18, Op.extract (Operand.tmp 14) 1, none, true⟩,
  ⟨some 5, Op.assign (Operand.tmp 17), none, true⟩,
  ⟨some 6, Op.assign (Operand.tmp 18), none, true⟩]
theorem k3_r4_e {P : Program} {pr : Prim} {N : Nat} {e : Nat → V} {σ : St} {Q : VX → (Nat → V) → St → Prop} : Eo P pr N k3_r4 e σ Q = Eo P pr N [
  ⟨some 15, Op.move (Operand.tmp 0), none, true⟩,
  ⟨some 16, Op.call { callee := Callee.value (Operand.func 13), args := #[Operand.tmp 15], argTypes := #[22] }, none, true⟩,
  ⟨some 14, Op.move (Operand.tmp 16), none, true⟩,
  ⟨some 17, Op.extract (Operand.tmp 14) 0, none, true⟩,
  ⟨some 18, Op.extract (Operand.tmp 14) 1, none, true⟩,
  ⟨some 5, Op.assign (Operand.tmp 17), none, true⟩,
  ⟨some 6, Op.assign (Operand.tmp 18), none, true⟩] e σ Q := propext ⟨fun h => h, fun h => h⟩
def k3_r5 : List COp := [
  ⟨some 19, Op.move (Operand.tmp 3), none, true⟩,
  ⟨some 20, Op.move (Operand.tmp 5), none, true⟩,
  ⟨some 21, Op.binOp BinOp.eql 3 (Operand.tmp 19) (Operand.tmp 20) 3, none, true⟩,
  ⟨some 22, Op.move (Operand.tmp 21), none, true⟩,
  ⟨some 23, Op.move (Operand.tmp 4), some (22, true), true⟩,
  ⟨some 24, Op.move (Operand.tmp 6), some (22, true), true⟩,
  ⟨some 25, Op.binOp BinOp.eql 3 (Operand.tmp 23) (Operand.tmp 24) 3, some (22, true), true⟩,
  ⟨some 26, Op.pick (Operand.tmp 22) (Operand.tmp 25) (Operand.const (Value.bool false)), none, true⟩,
  ⟨some 2, Op.assign (Operand.tmp 26), none, true⟩]
theorem k3_r5_e {P : Program} {pr : Prim} {N : Nat} {e : Nat → V} {σ : St} {Q : VX → (Nat → V) → St → Prop} : Eo P pr N k3_r5 e σ Q = Eo P pr N [
  ⟨some 19, Op.move (Operand.tmp 3), none, true⟩,
  ⟨some 20, Op.move (Operand.tmp 5), none, true⟩,
  ⟨some 21, Op.binOp BinOp.eql 3 (Operand.tmp 19) (Operand.tmp 20) 3, none, true⟩,
  ⟨some 22, Op.move (Operand.tmp 21), none, true⟩,
  ⟨some 23, Op.move (Operand.tmp 4), some (22, true), true⟩,
  ⟨some 24, Op.move (Operand.tmp 6), some (22, true), true⟩,
  ⟨some 25, Op.binOp BinOp.eql 3 (Operand.tmp 23) (Operand.tmp 24) 3, some (22, true), true⟩,
  ⟨some 26, Op.pick (Operand.tmp 22) (Operand.tmp 25) (Operand.const (Value.bool false)), none, true⟩,
  ⟨some 2, Op.assign (Operand.tmp 26), none, true⟩] e σ Q := propext ⟨fun h => h, fun h => h⟩
def k3 : CC := (.seq (.region k3_r0) (.seq (.seq (.region k3_r1) (.cond (Operand.tmp 8) (.seq (.region k3_r2) .ret) .skip)) (.seq (.region k3_r3) (.seq (.region k3_r4) (.seq (.region k3_r5) .ret)))))
theorem k3_e {P : Program} {pr : Prim} {N : Nat} {e : Nat → V} {σ : St} {Q : VX → (Nat → V) → St → Prop} : Ev P pr N k3 e σ Q = Ev P pr N (.seq (.region k3_r0) (.seq (.seq (.region k3_r1) (.cond (Operand.tmp 8) (.seq (.region k3_r2) .ret) .skip)) (.seq (.region k3_r3) (.seq (.region k3_r4) (.seq (.region k3_r5) .ret))))) e σ Q := propext ⟨fun h => h, fun h => h⟩
/-- quern/quernlaw01.PackTakes -/
theorem k3_is : FnIs Try.prog noPrim 3 27 [ResultVar.tmp 2] k3 := FnIs.of_fn Try.func3 (by kernel_rfl)
def k4_r0 : List COp := [
  ⟨some 4, Op.assign (Operand.const (Value.bool false)), none, true⟩]
theorem k4_r0_e {P : Program} {pr : Prim} {N : Nat} {e : Nat → V} {σ : St} {Q : VX → (Nat → V) → St → Prop} : Eo P pr N k4_r0 e σ Q = Eo P pr N [
  ⟨some 4, Op.assign (Operand.const (Value.bool false)), none, true⟩] e σ Q := propext ⟨fun h => h, fun h => h⟩
def k4_r1 : List COp := [
  ⟨some 8, Op.call { callee := Callee.value (Operand.func 11), args := #[], argTypes := #[] }, none, true⟩,
  ⟨some 9, Op.unOp UnOp.not 4 (Operand.tmp 8), none, true⟩]
theorem k4_r1_e {P : Program} {pr : Prim} {N : Nat} {e : Nat → V} {σ : St} {Q : VX → (Nat → V) → St → Prop} : Eo P pr N k4_r1 e σ Q = Eo P pr N [
  ⟨some 8, Op.call { callee := Callee.value (Operand.func 11), args := #[], argTypes := #[] }, none, true⟩,
  ⟨some 9, Op.unOp UnOp.not 4 (Operand.tmp 8), none, true⟩] e σ Q := propext ⟨fun h => h, fun h => h⟩
def k4_r2 : List COp := [
  ⟨some 4, Op.assign (Operand.const (Value.bool false)), none, true⟩]
theorem k4_r2_e {P : Program} {pr : Prim} {N : Nat} {e : Nat → V} {σ : St} {Q : VX → (Nat → V) → St → Prop} : Eo P pr N k4_r2 e σ Q = Eo P pr N [
  ⟨some 4, Op.assign (Operand.const (Value.bool false)), none, true⟩] e σ Q := propext ⟨fun h => h, fun h => h⟩
def k4_r3 : List COp := [
  ⟨some 10, Op.move (Operand.tmp 0), none, true⟩,
  ⟨some 11, Op.buildSlice 30 1 #[(0, Operand.tmp 10)], none, true⟩,
  ⟨some 12, Op.call { callee := Callee.value (Operand.func 14), args := #[Operand.const (Value.slice .none 0 0), Operand.tmp 11], argTypes := #[22, 30] }, none, true⟩,
  ⟨some 13, Op.move (Operand.tmp 1), none, true⟩,
  ⟨some 14, Op.buildSlice 30 1 #[(0, Operand.tmp 13)], none, true⟩,
  ⟨some 15, Op.call { callee := Callee.value (Operand.func 14), args := #[Operand.const (Value.slice .none 0 0), Operand.tmp 14], argTypes := #[22, 30] }, none, true⟩,
  ⟨some 5, Op.assign (Operand.tmp 12), none, true⟩,
  ⟨some 6, Op.assign (Operand.tmp 15), none, true⟩]
theorem k4_r3_e {P : Program} {pr : Prim} {N : Nat} {e : Nat → V} {σ : St} {Q : VX → (Nat → V) → St → Prop} : Eo P pr N k4_r3 e σ Q = Eo P pr N [
  ⟨some 10, Op.move (Operand.tmp 0), none, true⟩,
  ⟨some 11, Op.buildSlice 30 1 #[(0, Operand.tmp 10)], none, true⟩,
  ⟨some 12, Op.call { callee := Callee.value (Operand.func 14), args := #[Operand.const (Value.slice .none 0 0), Operand.tmp 11], argTypes := #[22, 30] }, none, true⟩,
  ⟨some 13, Op.move (Operand.tmp 1), none, true⟩,
  ⟨some 14, Op.buildSlice 30 1 #[(0, Operand.tmp 13)], none, true⟩,
  ⟨some 15, Op.call { callee := Callee.value (Operand.func 14), args := #[Operand.const (Value.slice .none 0 0), Operand.tmp 14], argTypes := #[22, 30] }, none, true⟩,
  ⟨some 5, Op.assign (Operand.tmp 12), none, true⟩,
  ⟨some 6, Op.assign (Operand.tmp 15), none, true⟩] e σ Q := propext ⟨fun h => h, fun h => h⟩
def k4_r4 : List COp := [
  ⟨some 16, Op.move (Operand.tmp 5), none, true⟩,
  ⟨some 17, Op.call { callee := Callee.builtin Builtin.len, args := #[Operand.tmp 16], argTypes := #[22] }, none, true⟩,
  ⟨some 18, Op.binOp BinOp.eql 3 (Operand.tmp 17) (Operand.const (Value.int IntKind.i64 0)) 3, none, true⟩,
  ⟨some 19, Op.move (Operand.tmp 18), none, true⟩,
  ⟨some 20, Op.move (Operand.tmp 6), some (19, false), true⟩,
  ⟨some 21, Op.call { callee := Callee.builtin Builtin.len, args := #[Operand.tmp 20], argTypes := #[22] }, some (19, false), true⟩,
  ⟨some 22, Op.binOp BinOp.eql 3 (Operand.tmp 21) (Operand.const (Value.int IntKind.i64 0)) 3, some (19, false), true⟩,
  ⟨some 23, Op.pick (Operand.tmp 19) (Operand.const (Value.bool true)) (Operand.tmp 22), none, true⟩,
  ⟨some 24, Op.move (Operand.tmp 23), none, true⟩,
  ⟨some 25, Op.move (Operand.tmp 5), some (24, false), true⟩,
  ⟨some 26, Op.call { callee := Callee.builtin Builtin.len, args := #[Operand.tmp 25], argTypes := #[22] }, some (24, false), true⟩,
  ⟨some 27, Op.binOp BinOp.gtr 3 (Operand.tmp 26) (Operand.const (Value.int IntKind.i64 9)) 3, some (24, false), true⟩,
  ⟨some 28, Op.pick (Operand.tmp 24) (Operand.const (Value.bool true)) (Operand.tmp 27), none, true⟩,
  ⟨some 29, Op.move (Operand.tmp 28), none, true⟩,
  ⟨some 30, Op.move (Operand.tmp 6), some (29, false), true⟩,
  ⟨some 31, Op.call { callee := Callee.builtin Builtin.len, args := #[Operand.tmp 30], argTypes := #[22] }, some (29, false), true⟩,
  ⟨some 32, Op.binOp BinOp.gtr 3 (Operand.tmp 31) (Operand.const (Value.int IntKind.i64 9)) 3, some (29, false), true⟩,
  ⟨some 33, Op.pick (Operand.tmp 29) (Operand.const (Value.bool true)) (Operand.tmp 32), none, true⟩]
theorem k4_r4_e {P : Program} {pr : Prim} {N : Nat} {e : Nat → V} {σ : St} {Q : VX → (Nat → V) → St → Prop} : Eo P pr N k4_r4 e σ Q = Eo P pr N [
  ⟨some 16, Op.move (Operand.tmp 5), none, true⟩,
  ⟨some 17, Op.call { callee := Callee.builtin Builtin.len, args := #[Operand.tmp 16], argTypes := #[22] }, none, true⟩,
  ⟨some 18, Op.binOp BinOp.eql 3 (Operand.tmp 17) (Operand.const (Value.int IntKind.i64 0)) 3, none, true⟩,
  ⟨some 19, Op.move (Operand.tmp 18), none, true⟩,
  ⟨some 20, Op.move (Operand.tmp 6), some (19, false), true⟩,
  ⟨some 21, Op.call { callee := Callee.builtin Builtin.len, args := #[Operand.tmp 20], argTypes := #[22] }, some (19, false), true⟩,
  ⟨some 22, Op.binOp BinOp.eql 3 (Operand.tmp 21) (Operand.const (Value.int IntKind.i64 0)) 3, some (19, false), true⟩,
  ⟨some 23, Op.pick (Operand.tmp 19) (Operand.const (Value.bool true)) (Operand.tmp 22), none, true⟩,
  ⟨some 24, Op.move (Operand.tmp 23), none, true⟩,
  ⟨some 25, Op.move (Operand.tmp 5), some (24, false), true⟩,
  ⟨some 26, Op.call { callee := Callee.builtin Builtin.len, args := #[Operand.tmp 25], argTypes := #[22] }, some (24, false), true⟩,
  ⟨some 27, Op.binOp BinOp.gtr 3 (Operand.tmp 26) (Operand.const (Value.int IntKind.i64 9)) 3, some (24, false), true⟩,
  ⟨some 28, Op.pick (Operand.tmp 24) (Operand.const (Value.bool true)) (Operand.tmp 27), none, true⟩,
  ⟨some 29, Op.move (Operand.tmp 28), none, true⟩,
  ⟨some 30, Op.move (Operand.tmp 6), some (29, false), true⟩,
  ⟨some 31, Op.call { callee := Callee.builtin Builtin.len, args := #[Operand.tmp 30], argTypes := #[22] }, some (29, false), true⟩,
  ⟨some 32, Op.binOp BinOp.gtr 3 (Operand.tmp 31) (Operand.const (Value.int IntKind.i64 9)) 3, some (29, false), true⟩,
  ⟨some 33, Op.pick (Operand.tmp 29) (Operand.const (Value.bool true)) (Operand.tmp 32), none, true⟩] e σ Q := propext ⟨fun h => h, fun h => h⟩
def k4_r5 : List COp := [
  ⟨some 4, Op.assign (Operand.const (Value.bool false)), none, true⟩]
theorem k4_r5_e {P : Program} {pr : Prim} {N : Nat} {e : Nat → V} {σ : St} {Q : VX → (Nat → V) → St → Prop} : Eo P pr N k4_r5 e σ Q = Eo P pr N [
  ⟨some 4, Op.assign (Operand.const (Value.bool false)), none, true⟩] e σ Q := propext ⟨fun h => h, fun h => h⟩
def k4_r6 : List COp := [
  ⟨some 34, Op.move (Operand.tmp 0), none, true⟩,
  ⟨some 35, Op.binOp BinOp.lss 3 (Operand.tmp 34) (Operand.const (Value.int IntKind.i64 0)) 3, none, true⟩,
  ⟨some 36, Op.move (Operand.tmp 35), none, true⟩,
  ⟨some 37, Op.move (Operand.tmp 1), some (36, false), true⟩,
  ⟨some 38, Op.binOp BinOp.lss 3 (Operand.tmp 37) (Operand.const (Value.int IntKind.i64 0)) 3, some (36, false), true⟩,
  ⟨some 39, Op.pick (Operand.tmp 36) (Operand.const (Value.bool true)) (Operand.tmp 38), none, true⟩]
theorem k4_r6_e {P : Program} {pr : Prim} {N : Nat} {e : Nat → V} {σ : St} {Q : VX → (Nat → V) → St → Prop} : Eo P pr N k4_r6 e σ Q = Eo P pr N [
  ⟨some 34, Op.move (Operand.tmp 0), none, true⟩,
  ⟨some 35, Op.binOp BinOp.lss 3 (Operand.tmp 34) (Operand.const (Value.int IntKind.i64 0)) 3, none, true⟩,
  ⟨some 36, Op.move (Operand.tmp 35), none, true⟩,
  ⟨some 37, Op.move (Operand.tmp 1), some (36, false), true⟩,
  ⟨some 38, Op.binOp BinOp.lss 3 (Operand.tmp 37) (Operand.const (Value.int IntKind.i64 0)) 3, some (36, false), true⟩,
  ⟨some 39, Op.pick (Operand.tmp 36) (Operand.const (Value.bool true)) (Operand.tmp 38), none, true⟩] e σ Q := propext ⟨fun h => h, fun h => h⟩
def k4_r7 : List COp := [
  ⟨some 4, Op.assign (Operand.const (Value.bool true)), none, true⟩]
theorem k4_r7_e {P : Program} {pr : Prim} {N : Nat} {e : Nat → V} {σ : St} {Q : VX → (Nat → V) → St → Prop} : Eo P pr N k4_r7 e σ Q = Eo P pr N [
  ⟨some 4, Op.assign (Operand.const (Value.bool true)), none, true⟩] e σ Q := propext ⟨fun h => h, fun h => h⟩
def k4_r8 : List COp := [
  ⟨some 40, Op.move (Operand.tmp 0), none, true⟩,
  ⟨some 41, Op.move (Operand.tmp 1), none, true⟩,
  ⟨some 42, Op.binOp BinOp.lss 3 (Operand.tmp 40) (Operand.tmp 41) 3, none, true⟩,
  ⟨some 43, Op.move (Operand.tmp 42), none, true⟩,
  ⟨some 44, Op.move (Operand.tmp 5), some (43, true), true⟩,
  ⟨some 45, Op.call { callee := Callee.builtin Builtin.len, args := #[Operand.tmp 44], argTypes := #[22] }, some (43, true), true⟩,
  ⟨some 46, Op.move (Operand.tmp 6), some (43, true), true⟩,
  ⟨some 47, Op.call { callee := Callee.builtin Builtin.len, args := #[Operand.tmp 46], argTypes := #[22] }, some (43, true), true⟩,
  ⟨some 48, Op.binOp BinOp.gtr 3 (Operand.tmp 45) (Operand.tmp 47) 3, some (43, true), true⟩,
  ⟨some 49, Op.pick (Operand.tmp 43) (Operand.tmp 48) (Operand.const (Value.bool false)), none, true⟩,
  ⟨some 50, Op.move (Operand.tmp 49), none, true⟩,
  ⟨some 51, Op.move (Operand.tmp 1), some (50, false), true⟩,
  ⟨some 52, Op.move (Operand.tmp 0), some (50, false), true⟩,
  ⟨some 53, Op.binOp BinOp.lss 3 (Operand.tmp 51) (Operand.tmp 52) 3, some (50, false), true⟩,
  ⟨some 54, Op.move (Operand.tmp 53), some (50, false), true⟩,
  ⟨some 55, Op.move (Operand.tmp 6), some (54, true), true⟩,
  ⟨some 56, Op.call { callee := Callee.builtin Builtin.len, args := #[Operand.tmp 55], argTypes := #[22] }, some (54, true), true⟩,
  ⟨some 57, Op.move (Operand.tmp 5), some (54, true), true⟩,
  ⟨some 58, Op.call { callee := Callee.builtin Builtin.len, args := #[Operand.tmp 57], argTypes := #[22] }, some (54, true), true⟩,
  ⟨some 59, Op.binOp BinOp.gtr 3 (Operand.tmp 56) (Operand.tmp 58) 3, some (54, true), true⟩,
  ⟨some 60, Op.pick (Operand.tmp 54) (Operand.tmp 59) (Operand.const (Value.bool false)), some (50, false), true⟩,
  ⟨some 61, Op.pick (Operand.tmp 50) (Operand.const (Value.bool true)) (Operand.tmp 60), none, true⟩]
theorem k4_r8_e {P : Program} {pr : Prim} {N : Nat} {e : Nat → V} {σ : St} {Q : VX → (Nat → V) → St → Prop} : Eo P pr N k4_r8 e σ Q = Eo P pr N [
  ⟨some 40, Op.move (Operand.tmp 0), none, true⟩,
  ⟨some 41, Op.move (Operand.tmp 1), none, true⟩,
  ⟨some 42, Op.binOp BinOp.lss 3 (Operand.tmp 40) (Operand.tmp 41) 3, none, true⟩,
  ⟨some 43, Op.move (Operand.tmp 42), none, true⟩,
  ⟨some 44, Op.move (Operand.tmp 5), some (43, true), true⟩,
  ⟨some 45, Op.call { callee := Callee.builtin Builtin.len, args := #[Operand.tmp 44], argTypes := #[22] }, some (43, true), true⟩,
  ⟨some 46, Op.move (Operand.tmp 6), some (43, true), true⟩,
  ⟨some 47, Op.call { callee := Callee.builtin Builtin.len, args := #[Operand.tmp 46], argTypes := #[22] }, some (43, true), true⟩,
  ⟨some 48, Op.binOp BinOp.gtr 3 (Operand.tmp 45) (Operand.tmp 47) 3, some (43, true), true⟩,
  ⟨some 49, Op.pick (Operand.tmp 43) (Operand.tmp 48) (Operand.const (Value.bool false)), none, true⟩,
  ⟨some 50, Op.move (Operand.tmp 49), none, true⟩,
  ⟨some 51, Op.move (Operand.tmp 1), some (50, false), true⟩,
  ⟨some 52, Op.move (Operand.tmp 0), some (50, false), true⟩,
  ⟨some 53, Op.binOp BinOp.lss 3 (Operand.tmp 51) (Operand.tmp 52) 3, some (50, false), true⟩,
  ⟨some 54, Op.move (Operand.tmp 53), some (50, false), true⟩,
  ⟨some 55, Op.move (Operand.tmp 6), some (54, true), true⟩,
  ⟨some 56, Op.call { callee := Callee.builtin Builtin.len, args := #[Operand.tmp 55], argTypes := #[22] }, some (54, true), true⟩,
  ⟨some 57, Op.move (Operand.tmp 5), some (54, true), true⟩,
  ⟨some 58, Op.call { callee := Callee.builtin Builtin.len, args := #[Operand.tmp 57], argTypes := #[22] }, some (54, true), true⟩,
  ⟨some 59, Op.binOp BinOp.gtr 3 (Operand.tmp 56) (Operand.tmp 58) 3, some (54, true), true⟩,
  ⟨some 60, Op.pick (Operand.tmp 54) (Operand.tmp 59) (Operand.const (Value.bool false)), some (50, false), true⟩,
  ⟨some 61, Op.pick (Operand.tmp 50) (Operand.const (Value.bool true)) (Operand.tmp 60), none, true⟩] e σ Q := propext ⟨fun h => h, fun h => h⟩
def k4_r9 : List COp := [
  ⟨some 4, Op.assign (Operand.const (Value.bool false)), none, true⟩]
theorem k4_r9_e {P : Program} {pr : Prim} {N : Nat} {e : Nat → V} {σ : St} {Q : VX → (Nat → V) → St → Prop} : Eo P pr N k4_r9 e σ Q = Eo P pr N [
  ⟨some 4, Op.assign (Operand.const (Value.bool false)), none, true⟩] e σ Q := propext ⟨fun h => h, fun h => h⟩
def k4_r10 : List COp := [
  ⟨some 62, Op.move (Operand.tmp 5), none, true⟩,
  ⟨some 63, Op.call { callee := Callee.builtin Builtin.len, args := #[Operand.tmp 62], argTypes := #[22] }, none, true⟩,
  ⟨some 64, Op.move (Operand.tmp 6), none, true⟩,
  ⟨some 65, Op.call { callee := Callee.builtin Builtin.len, args := #[Operand.tmp 64], argTypes := #[22] }, none, true⟩,
  ⟨some 66, Op.call { callee := Callee.builtin Builtin.min, args := #[Operand.tmp 63, Operand.tmp 65], argTypes := #[3, 3] }, none, true⟩,
  ⟨some 7, Op.assign (Operand.tmp 66), none, true⟩]
theorem k4_r10_e {P : Program} {pr : Prim} {N : Nat} {e : Nat → V} {σ : St} {Q : VX → (Nat → V) → St → Prop} : Eo P pr N k4_r10 e σ Q = Eo P pr N [
  ⟨some 62, Op.move (Operand.tmp 5), none, true⟩,
  ⟨some 63, Op.call { callee := Callee.builtin Builtin.len, args := #[Operand.tmp 62], argTypes := #[22] }, none, true⟩,
  ⟨some 64, Op.move (Operand.tmp 6), none, true⟩,
  ⟨some 65, Op.call { callee := Callee.builtin Builtin.len, args := #[Operand.tmp 64], argTypes := #[22] }, none, true⟩,
  ⟨some 66, Op.call { callee := Callee.builtin Builtin.min, args := #[Operand.tmp 63, Operand.tmp 65], argTypes := #[3, 3] }, none, true⟩,
  ⟨some 7, Op.assign (Operand.tmp 66), none, true⟩] e σ Q := propext ⟨fun h => h, fun h => h⟩
def k4_r11 : List COp := [
  ⟨some 67, Op.move (Operand.tmp 5), none, false⟩,
  ⟨some 68, Op.move (Operand.tmp 7), none, false⟩,
  ⟨some 69, Op.slice 22 (Operand.tmp 67) .none (some (Operand.tmp 68)) .none, none, false⟩,
  ⟨some 70, Op.move (Operand.tmp 6), none, false⟩,
  ⟨some 71, Op.move (Operand.tmp 7), none, false⟩,
  ⟨some 72, Op.slice 22 (Operand.tmp 70) .none (some (Operand.tmp 71)) .none, none, false⟩,
  ⟨some 73, Op.call { callee := Callee.value (Operand.func 15), args := #[Operand.tmp 69, Operand.tmp 72], argTypes := #[22, 22] }, none, false⟩,
  ⟨some 74, Op.move (Operand.tmp 0), none, false⟩,
  ⟨some 75, Op.move (Operand.tmp 1), none, true⟩,
  ⟨some 76, Op.binOp BinOp.eql 3 (Operand.tmp 74) (Operand.tmp 75) 3, none, true⟩,
  ⟨some 77, Op.binOp BinOp.eql 4 (Operand.tmp 73) (Operand.tmp 76) 4, none, true⟩,
  ⟨some 4, Op.assign (Operand.tmp 77), none, true⟩]
theorem k4_r11_e {P : Program} {pr : Prim} {N : Nat} {e : Nat → V} {σ : St} {Q : VX → (Nat → V) → St → Prop} : Eo P pr N k4_r11 e σ Q = Eo P pr N [
  ⟨some 67, Op.move (Operand.tmp 5), none, false⟩,
  ⟨some 68, Op.move (Operand.tmp 7), none, false⟩,
  ⟨some 69, Op.slice 22 (Operand.tmp 67) .none (some (Operand.tmp 68)) .none, none, false⟩,
  ⟨some 70, Op.move (Operand.tmp 6), none, false⟩,
  ⟨some 71, Op.move (Operand.tmp 7), none, false⟩,
  ⟨some 72, Op.slice 22 (Operand.tmp 70) .none (some (Operand.tmp 71)) .none, none, false⟩,
  ⟨some 73, Op.call { callee := Callee.value (Operand.func 15), args := #[Operand.tmp 69, Operand.tmp 72], argTypes := #[22, 22] }, none, false⟩,
  ⟨some 74, Op.move (Operand.tmp 0), none, false⟩,
  ⟨some 75, Op.move (Operand.tmp 1), none, true⟩,
  ⟨some 76, Op.binOp BinOp.eql 3 (Operand.tmp 74) (Operand.tmp 75) 3, none, true⟩,
  ⟨some 77, Op.binOp BinOp.eql 4 (Operand.tmp 73) (Operand.tmp 76) 4, none, true⟩,
  ⟨some 4, Op.assign (Operand.tmp 77), none, true⟩] e σ Q := propext ⟨fun h => h, fun h => h⟩
def k4 : CC := (.seq (.region k4_r0) (.seq (.seq (.region k4_r1) (.cond (Operand.tmp 9) (.seq (.region k4_r2) .ret) .skip)) (.seq (.region k4_r3) (.seq (.seq (.region k4_r4) (.cond (Operand.tmp 33) (.seq (.region k4_r5) .ret) .skip)) (.seq (.seq (.region k4_r6) (.cond (Operand.tmp 39) (.seq (.region k4_r7) .ret) .skip)) (.seq (.seq (.region k4_r8) (.cond (Operand.tmp 61) (.seq (.region k4_r9) .ret) .skip)) (.seq (.region k4_r10) (.seq (.region k4_r11) .ret))))))))
theorem k4_e {P : Program} {pr : Prim} {N : Nat} {e : Nat → V} {σ : St} {Q : VX → (Nat → V) → St → Prop} : Ev P pr N k4 e σ Q = Ev P pr N (.seq (.region k4_r0) (.seq (.seq (.region k4_r1) (.cond (Operand.tmp 9) (.seq (.region k4_r2) .ret) .skip)) (.seq (.region k4_r3) (.seq (.seq (.region k4_r4) (.cond (Operand.tmp 33) (.seq (.region k4_r5) .ret) .skip)) (.seq (.seq (.region k4_r6) (.cond (Operand.tmp 39) (.seq (.region k4_r7) .ret) .skip)) (.seq (.seq (.region k4_r8) (.cond (Operand.tmp 61) (.seq (.region k4_r9) .ret) .skip)) (.seq (.region k4_r10) (.seq (.region k4_r11) .ret)))))))) e σ Q := propext ⟨fun h => h, fun h => h⟩
/-- quern/quernlaw01.PackRises -/
theorem k4_is : FnIs Try.prog noPrim 4 78 [ResultVar.tmp 4] k4 := FnIs.of_fn Try.func4 (by kernel_rfl)
def k5_r0 : List COp := [
  ⟨some 4, Op.assign (Operand.const (Value.bool false)), none, true⟩]
theorem k5_r0_e {P : Program} {pr : Prim} {N : Nat} {e : Nat → V} {σ : St} {Q : VX → (Nat → V) → St → Prop} : Eo P pr N k5_r0 e σ Q = Eo P pr N [
  ⟨some 4, Op.assign (Operand.const (Value.bool false)), none, true⟩] e σ Q := propext ⟨fun h => h, fun h => h⟩
def k5_r1 : List COp := [
  ⟨some 8, Op.call { callee := Callee.value (Operand.func 11), args := #[], argTypes := #[] }, none, true⟩,
  ⟨some 9, Op.unOp UnOp.not 4 (Operand.tmp 8), none, true⟩]
theorem k5_r1_e {P : Program} {pr : Prim} {N : Nat} {e : Nat → V} {σ : St} {Q : VX → (Nat → V) → St → Prop} : Eo P pr N k5_r1 e σ Q = Eo P pr N [
  ⟨some 8, Op.call { callee := Callee.value (Operand.func 11), args := #[], argTypes := #[] }, none, true⟩,
  ⟨some 9, Op.unOp UnOp.not 4 (Operand.tmp 8), none, true⟩] e σ Q := propext ⟨fun h => h, fun h => h⟩
def k5_r2 : List COp := [
  ⟨some 4, Op.assign (Operand.const (Value.bool false)), none, true⟩]
theorem k5_r2_e {P : Program} {pr : Prim} {N : Nat} {e : Nat → V} {σ : St} {Q : VX → (Nat → V) → St → Prop} : Eo P pr N k5_r2 e σ Q = Eo P pr N [
  ⟨some 4, Op.assign (Operand.const (Value.bool false)), none, true⟩] e σ Q := propext ⟨fun h => h, fun h => h⟩
def k5_r3 : List COp := [
  ⟨some 10, Op.buildSlice 22 0 #[], none, true⟩,
  ⟨some 11, Op.move (Operand.tmp 0), none, true⟩,
  ⟨some 12, Op.call { callee := Callee.builtin Builtin.append, args := #[Operand.tmp 10, Operand.tmp 11], argTypes := #[22, 22] }, none, true⟩,
  ⟨some 5, Op.assign (Operand.tmp 12), none, true⟩]
theorem k5_r3_e {P : Program} {pr : Prim} {N : Nat} {e : Nat → V} {σ : St} {Q : VX → (Nat → V) → St → Prop} : Eo P pr N k5_r3 e σ Q = Eo P pr N [
  ⟨some 10, Op.buildSlice 22 0 #[], none, true⟩,
  ⟨some 11, Op.move (Operand.tmp 0), none, true⟩,
  ⟨some 12, Op.call { callee := Callee.builtin Builtin.append, args := #[Operand.tmp 10, Operand.tmp 11], argTypes := #[22, 22] }, none, true⟩,
  ⟨some 5, Op.assign (Operand.tmp 12), none, true⟩] e σ Q := propext ⟨fun h => h, fun h => h⟩
def k5_r4 : List COp := [
  ⟨some 13, Op.move (Operand.tmp 1), none, true⟩,
  ⟨some 14, Op.call { callee := Callee.builtin Builtin.len, args := #[Operand.tmp 13], argTypes := #[30] }, none, true⟩,
  ⟨some 15, Op.move (Operand.const (Value.int IntKind.i64 0)), none, true⟩]
theorem k5_r4_e {P : Program} {pr : Prim} {N : Nat} {e : Nat → V} {σ : St} {Q : VX → (Nat → V) → St → Prop} : Eo P pr N k5_r4 e σ Q = Eo P pr N [
  ⟨some 13, Op.move (Operand.tmp 1), none, true⟩,
  ⟨some 14, Op.call { callee := Callee.builtin Builtin.len, args := #[Operand.tmp 13], argTypes := #[30] }, none, true⟩,
  ⟨some 15, Op.move (Operand.const (Value.int IntKind.i64 0)), none, true⟩] e σ Q := propext ⟨fun h => h, fun h => h⟩
def k5_r5 : List COp := [
  ⟨some 16, Op.binOp BinOp.lss 3 (Operand.tmp 15) (Operand.tmp 14) 3, none, true⟩]
theorem k5_r5_e {P : Program} {pr : Prim} {N : Nat} {e : Nat → V} {σ : St} {Q : VX → (Nat → V) → St → Prop} : Eo P pr N k5_r5 e σ Q = Eo P pr N [
  ⟨some 16, Op.binOp BinOp.lss 3 (Operand.tmp 15) (Operand.tmp 14) 3, none, true⟩] e σ Q := propext ⟨fun h => h, fun h => h⟩
def k5_r6 : List COp := [
  ⟨some 17, Op.indexAddr 30 (Operand.tmp 13) (Operand.tmp 15), none, true⟩,
  ⟨some 18, Op.load 3 (Operand.tmp 17), none, true⟩,
  ⟨some 7, Op.assign (Operand.tmp 18), none, true⟩]
theorem k5_r6_e {P : Program} {pr : Prim} {N : Nat} {e : Nat → V} {σ : St} {Q : VX → (Nat → V) → St → Prop} : Eo P pr N k5_r6 e σ Q = Eo P pr N [
  ⟨some 17, Op.indexAddr 30 (Operand.tmp 13) (Operand.tmp 15), none, true⟩,
  ⟨some 18, Op.load 3 (Operand.tmp 17), none, true⟩,
  ⟨some 7, Op.assign (Operand.tmp 18), none, true⟩] e σ Q := propext ⟨fun h => h, fun h => h⟩
def k5_r7 : List COp := [
  ⟨some 19, Op.move (Operand.tmp 5), none, true⟩,
  ⟨some 20, Op.move (Operand.tmp 7), none, true⟩,
  ⟨some 21, Op.call { callee := Callee.value (Operand.func 16), args := #[Operand.tmp 19, Operand.tmp 20], argTypes := #[22, 3] }, none, true⟩,
  ⟨some 5, Op.assign (Operand.tmp 21), none, true⟩]
theorem k5_r7_e {P : Program} {pr : Prim} {N : Nat} {e : Nat → V} {σ : St} {Q : VX → (Nat → V) → St → Prop} : Eo P pr N k5_r7 e σ Q = Eo P pr N [
  ⟨some 19, Op.move (Operand.tmp 5), none, true⟩,
  ⟨some 20, Op.move (Operand.tmp 7), none, true⟩,
  ⟨some 21, Op.call { callee := Callee.value (Operand.func 16), args := #[Operand.tmp 19, Operand.tmp 20], argTypes := #[22, 3] }, none, true⟩,
  ⟨some 5, Op.assign (Operand.tmp 21), none, true⟩] e σ Q := propext ⟨fun h => h, fun h => h⟩
def k5_r8 : List COp := [
  ⟨some 22, Op.move (Operand.tmp 7), none, true⟩,
  ⟨some 23, Op.call { callee := Callee.value (Operand.func 17), args := #[Operand.tmp 22], argTypes := #[3] }, none, true⟩,
  ⟨some 24, Op.move (Operand.tmp 7), none, true⟩,
  ⟨some 25, Op.call { callee := Callee.value (Operand.func 16), args := #[Operand.const (Value.slice .none 0 0), Operand.tmp 24], argTypes := #[22, 3] }, none, true⟩,
  ⟨some 26, Op.call { callee := Callee.builtin Builtin.len, args := #[Operand.tmp 25], argTypes := #[22] }, none, true⟩,
  ⟨some 27, Op.binOp BinOp.neq 3 (Operand.tmp 23) (Operand.tmp 26) 3, none, true⟩]
theorem k5_r8_e {P : Program} {pr : Prim} {N : Nat} {e : Nat → V} {σ : St} {Q : VX → (Nat → V) → St → Prop} : Eo P pr N k5_r8 e σ Q = Eo P pr N [
  ⟨some 22, Op.move (Operand.tmp 7), none, true⟩,
  ⟨some 23, Op.call { callee := Callee.value (Operand.func 17), args := #[Operand.tmp 22], argTypes := #[3] }, none, true⟩,
  ⟨some 24, Op.move (Operand.tmp 7), none, true⟩,
  ⟨some 25, Op.call { callee := Callee.value (Operand.func 16), args := #[Operand.const (Value.slice .none 0 0), Operand.tmp 24], argTypes := #[22, 3] }, none, true⟩,
  ⟨some 26, Op.call { callee := Callee.builtin Builtin.len, args := #[Operand.tmp 25], argTypes := #[22] }, none, true⟩,
  ⟨some 27, Op.binOp BinOp.neq 3 (Operand.tmp 23) (Operand.tmp 26) 3, none, true⟩] e σ Q := propext ⟨fun h => h, fun h => h⟩
def k5_r9 : List COp := [
  ⟨some 4, Op.assign (Operand.const (Value.bool false)), none, true⟩]
theorem k5_r9_e {P : Program} {pr : Prim} {N : Nat} {e : Nat → V} {σ : St} {Q : VX → (Nat → V) → St → Prop} : Eo P pr N k5_r9 e σ Q = Eo P pr N [
  ⟨some 4, Op.assign (Operand.const (Value.bool false)), none, true⟩] e σ Q := propext ⟨fun h => h, fun h => h⟩
def k5_r10 : List COp := [
  ⟨some 28, Op.binOp BinOp.add 3 (Operand.tmp 15) (Operand.const (Value.int IntKind.i64 1)) 3, none, true⟩,
  ⟨some 15, Op.move (Operand.tmp 28), none, true⟩]
theorem k5_r10_e {P : Program} {pr : Prim} {N : Nat} {e : Nat → V} {σ : St} {Q : VX → (Nat → V) → St → Prop} : Eo P pr N k5_r10 e σ Q = Eo P pr N [
  ⟨some 28, Op.binOp BinOp.add 3 (Operand.tmp 15) (Operand.const (Value.int IntKind.i64 1)) 3, none, true⟩,
  ⟨some 15, Op.move (Operand.tmp 28), none, true⟩] e σ Q := propext ⟨fun h => h, fun h => h⟩
def k5_l0 : CC := (.seq (.region k5_r5) (.seq (.cond (Operand.tmp 16) .skip (.exit 0)) (.seq (.block 1 (.seq (.region k5_r6) (.seq (.region k5_r7) (.seq (.region k5_r8) (.cond (Operand.tmp 27) (.seq (.region k5_r9) .ret) .skip))))) (.region k5_r10))))
theorem k5_l0_e {P : Program} {pr : Prim} {N : Nat} {e : Nat → V} {σ : St} {Q : VX → (Nat → V) → St → Prop} : Ev P pr N k5_l0 e σ Q = Ev P pr N (.seq (.region k5_r5) (.seq (.cond (Operand.tmp 16) .skip (.exit 0)) (.seq (.block 1 (.seq (.region k5_r6) (.seq (.region k5_r7) (.seq (.region k5_r8) (.cond (Operand.tmp 27) (.seq (.region k5_r9) .ret) .skip))))) (.region k5_r10)))) e σ Q := propext ⟨fun h => h, fun h => h⟩
def k5_r11 : List COp := [
  ⟨some 29, Op.move (Operand.tmp 0), none, true⟩,
  ⟨some 30, Op.move (Operand.tmp 1), none, true⟩,
  ⟨some 31, Op.call { callee := Callee.value (Operand.func 14), args := #[Operand.tmp 29, Operand.tmp 30], argTypes := #[22, 30] }, none, true⟩,
  ⟨some 32, Op.move (Operand.tmp 5), none, true⟩,
  ⟨some 33, Op.call { callee := Callee.value (Operand.func 15), args := #[Operand.tmp 31, Operand.tmp 32], argTypes := #[22, 22] }, none, true⟩,
  ⟨some 4, Op.assign (Operand.tmp 33), none, true⟩]
theorem k5_r11_e {P : Program} {pr : Prim} {N : Nat} {e : Nat → V} {σ : St} {Q : VX → (Nat → V) → St → Prop} : Eo P pr N k5_r11 e σ Q = Eo P pr N [
  ⟨some 29, Op.move (Operand.tmp 0), none, true⟩,
  ⟨some 30, Op.move (Operand.tmp 1), none, true⟩,
  ⟨some 31, Op.call { callee := Callee.value (Operand.func 14), args := #[Operand.tmp 29, Operand.tmp 30], argTypes := #[22, 30] }, none, true⟩,
  ⟨some 32, Op.move (Operand.tmp 5), none, true⟩,
  ⟨some 33, Op.call { callee := Callee.value (Operand.func 15), args := #[Operand.tmp 31, Operand.tmp 32], argTypes := #[22, 22] }, none, true⟩,
  ⟨some 4, Op.assign (Operand.tmp 33), none, true⟩] e σ Q := propext ⟨fun h => h, fun h => h⟩
def k5 : CC := (.seq (.region k5_r0) (.seq (.seq (.region k5_r1) (.cond (Operand.tmp 9) (.seq (.region k5_r2) .ret) .skip)) (.seq (.region k5_r3) (.seq (.seq (.region k5_r4) (.block 0 (.loop k5_l0))) (.seq (.region k5_r11) .ret)))))
theorem k5_e {P : Program} {pr : Prim} {N : Nat} {e : Nat → V} {σ : St} {Q : VX → (Nat → V) → St → Prop} : Ev P pr N k5 e σ Q = Ev P pr N (.seq (.region k5_r0) (.seq (.seq (.region k5_r1) (.cond (Operand.tmp 9) (.seq (.region k5_r2) .ret) .skip)) (.seq (.region k5_r3) (.seq (.seq (.region k5_r4) (.block 0 (.loop k5_l0))) (.seq (.region k5_r11) .ret))))) e σ Q := propext ⟨fun h => h, fun h => h⟩
/-- quern/quernlaw01.PackPuts -/
theorem k5_is : FnIs Try.prog noPrim 5 34 [ResultVar.tmp 4] k5 := FnIs.of_fn Try.func5 (by kernel_rfl)
def k6_r0 : List COp := [
  ⟨some 4, Op.assign (Operand.const (Value.bool false)), none, true⟩]
theorem k6_r0_e {P : Program} {pr : Prim} {N : Nat} {e : Nat → V} {σ : St} {Q : VX → (Nat → V) → St → Prop} : Eo P pr N k6_r0 e σ Q = Eo P pr N [
  ⟨some 4, Op.assign (Operand.const (Value.bool false)), none, true⟩] e σ Q := propext ⟨fun h => h, fun h => h⟩
def k6_r1 : List COp := [
  ⟨some 10, Op.call { callee := Callee.value (Operand.func 11), args := #[], argTypes := #[] }, none, true⟩,
  ⟨some 11, Op.unOp UnOp.not 4 (Operand.tmp 10), none, true⟩]
theorem k6_r1_e {P : Program} {pr : Prim} {N : Nat} {e : Nat → V} {σ : St} {Q : VX → (Nat → V) → St → Prop} : Eo P pr N k6_r1 e σ Q = Eo P pr N [
  ⟨some 10, Op.call { callee := Callee.value (Operand.func 11), args := #[], argTypes := #[] }, none, true⟩,
  ⟨some 11, Op.unOp UnOp.not 4 (Operand.tmp 10), none, true⟩] e σ Q := propext ⟨fun h => h, fun h => h⟩
def k6_r2 : List COp := [
  ⟨some 4, Op.assign (Operand.const (Value.bool false)), none, true⟩]
theorem k6_r2_e {P : Program} {pr : Prim} {N : Nat} {e : Nat → V} {σ : St} {Q : VX → (Nat → V) → St → Prop} : Eo P pr N k6_r2 e σ Q = Eo P pr N [
  ⟨some 4, Op.assign (Operand.const (Value.bool false)), none, true⟩] e σ Q := propext ⟨fun h => h, fun h => h⟩
def k6_r3 : List COp := [
  ⟨some 12, Op.move (Operand.tmp 0), none, true⟩,
  ⟨some 13, Op.binOp BinOp.geq 3 (Operand.tmp 12) (Operand.const (Value.int IntKind.i64 0)) 3, none, true⟩]
theorem k6_r3_e {P : Program} {pr : Prim} {N : Nat} {e : Nat → V} {σ : St} {Q : VX → (Nat → V) → St → Prop} : Eo P pr N k6_r3 e σ Q = Eo P pr N [
  ⟨some 12, Op.move (Operand.tmp 0), none, true⟩,
  ⟨some 13, Op.binOp BinOp.geq 3 (Operand.tmp 12) (Operand.const (Value.int IntKind.i64 0)) 3, none, true⟩] e σ Q := propext ⟨fun h => h, fun h => h⟩
def k6_r4 : List COp := [
  ⟨some 14, Op.move (Operand.tmp 0), none, true⟩,
  ⟨some 15, Op.buildSlice 30 1 #[(0, Operand.tmp 14)], none, true⟩,
  ⟨some 16, Op.call { callee := Callee.value (Operand.func 14), args := #[Operand.const (Value.slice .none 0 0), Operand.tmp 15], argTypes := #[22, 30] }, none, true⟩,
  ⟨some 5, Op.assign (Operand.tmp 16), none, true⟩]
theorem k6_r4_e {P : Program} {pr : Prim} {N : Nat} {e : Nat → V} {σ : St} {Q : VX → (Nat → V) → St → Prop} : Eo P pr N k6_r4 e σ Q = Eo P pr N [
  ⟨some 14, Op.move (Operand.tmp 0), none, true⟩,
  ⟨some 15, Op.buildSlice 30 1 #[(0, Operand.tmp 14)], none, true⟩,
  ⟨some 16, Op.call { callee := Callee.value (Operand.func 14), args := #[Operand.const (Value.slice .none 0 0), Operand.tmp 15], argTypes := #[22, 30] }, none, true⟩,
  ⟨some 5, Op.assign (Operand.tmp 16), none, true⟩] e σ Q := propext ⟨fun h => h, fun h => h⟩
def k6_r5 : List COp := [
  ⟨some 18, Op.move (Operand.tmp 5), none, true⟩,
  ⟨some 19, Op.move (Operand.tmp 5), none, true⟩,
  ⟨some 20, Op.call { callee := Callee.builtin Builtin.len, args := #[Operand.tmp 19], argTypes := #[22] }, none, true⟩,
  ⟨some 21, Op.move (Operand.tmp 5), none, true⟩,
  ⟨some 22, Op.call { callee := Callee.builtin Builtin.len, args := #[Operand.tmp 21], argTypes := #[22] }, none, true⟩,
  ⟨some 23, Op.slice 22 (Operand.tmp 18) .none (some (Operand.tmp 20)) (some (Operand.tmp 22)), none, true⟩,
  ⟨some 24, Op.move (Operand.tmp 1), none, true⟩,
  ⟨some 25, Op.call { callee := Callee.builtin Builtin.append, args := #[Operand.tmp 23, Operand.tmp 24], argTypes := #[22, 22] }, none, true⟩,
  ⟨some 26, Op.call { callee := Callee.value (Operand.func 12), args := #[Operand.tmp 25], argTypes := #[22] }, none, true⟩,
  ⟨some 17, Op.move (Operand.tmp 26), none, true⟩,
  ⟨some 27, Op.extract (Operand.tmp 17) 0, none, true⟩,
  ⟨some 28, Op.extract (Operand.tmp 17) 1, none, true⟩,
  ⟨some 6, Op.assign (Operand.tmp 27), none, true⟩,
  ⟨some 7, Op.assign (Operand.tmp 28), none, true⟩]
theorem k6_r5_e {P : Program} {pr : Prim} {N : Nat} {e : Nat → V} {σ : St} {Q : VX → (Nat → V) → St → Prop} : Eo P pr N k6_r5 e σ Q = Eo P pr N [
  ⟨some 18, Op.move (Operand.tmp 5), none, true⟩,
  ⟨some 19, Op.move (Operand.tmp 5), none, true⟩,
  ⟨some 20, Op.call { callee := Callee.builtin Builtin.len, args := #[Operand.tmp 19], argTypes := #[22] }, none, true⟩,
  ⟨some 21, Op.move (Operand.tmp 5), none, true⟩,
  ⟨some 22, Op.call { callee := Callee.builtin Builtin.len, args := #[Operand.tmp 21], argTypes := #[22] }, none, true⟩,
  ⟨some 23, Op.slice 22 (Operand.tmp 18) .none (some (Operand.tmp 20)) (some (Operand.tmp 22)), none, true⟩,
  ⟨some 24, Op.move (Operand.tmp 1), none, true⟩,
  ⟨some 25, Op.call { callee := Callee.builtin Builtin.append, args := #[Operand.tmp 23, Operand.tmp 24], argTypes := #[22, 22] }, none, true⟩,
  ⟨some 26, Op.call { callee := Callee.value (Operand.func 12), args := #[Operand.tmp 25], argTypes := #[22] }, none, true⟩,
  ⟨some 17, Op.move (Operand.tmp 26), none, true⟩,
  ⟨some 27, Op.extract (Operand.tmp 17) 0, none, true⟩,
  ⟨some 28, Op.extract (Operand.tmp 17) 1, none, true⟩,
  ⟨some 6, Op.assign (Operand.tmp 27), none, true⟩,
  ⟨some 7, Op.assign (Operand.tmp 28), none, true⟩] e σ Q := propext ⟨fun h => h, fun h => h⟩
def k6_r6 : List COp := [
  ⟨some 29, Op.move (Operand.tmp 6), none, true⟩,
  ⟨some 30, Op.move (Operand.tmp 0), none, true⟩,
  ⟨some 31, Op.binOp BinOp.neq 3 (Operand.tmp 29) (Operand.tmp 30) 3, none, true⟩,
  ⟨some 32, Op.move (Operand.tmp 31), none, true⟩,
  ⟨some 33, Op.move (Operand.tmp 7), some (32, false), true⟩,
  ⟨some 34, Op.move (Operand.tmp 5), some (32, false), true⟩,
  ⟨some 35, Op.call { callee := Callee.builtin Builtin.len, args := #[Operand.tmp 34], argTypes := #[22] }, some (32, false), true⟩,
  ⟨some 36, Op.binOp BinOp.neq 3 (Operand.tmp 33) (Operand.tmp 35) 3, some (32, false), true⟩,
  ⟨some 37, Op.pick (Operand.tmp 32) (Operand.const (Value.bool true)) (Operand.tmp 36), none, true⟩,
  ⟨some 38, Op.move (Operand.tmp 37), none, true⟩,
  ⟨some 39, Op.move (Operand.tmp 7), some (38, false), true⟩,
  ⟨some 40, Op.move (Operand.tmp 0), some (38, false), true⟩,
  ⟨some 41, Op.call { callee := Callee.value (Operand.func 17), args := #[Operand.tmp 40], argTypes := #[3] }, some (38, false), true⟩,
  ⟨some 42, Op.binOp BinOp.neq 3 (Operand.tmp 39) (Operand.tmp 41) 3, some (38, false), true⟩,
  ⟨some 43, Op.pick (Operand.tmp 38) (Operand.const (Value.bool true)) (Operand.tmp 42), none, true⟩,
  ⟨some 44, Op.move (Operand.tmp 43), none, true⟩,
  ⟨some 45, Op.move (Operand.tmp 7), some (44, false), true⟩,
  ⟨some 46, Op.binOp BinOp.lss 3 (Operand.tmp 45) (Operand.const (Value.int IntKind.i64 1)) 3, some (44, false), true⟩,
  ⟨some 47, Op.pick (Operand.tmp 44) (Operand.const (Value.bool true)) (Operand.tmp 46), none, true⟩,
  ⟨some 48, Op.move (Operand.tmp 47), none, true⟩,
  ⟨some 49, Op.move (Operand.tmp 7), some (48, false), true⟩,
  ⟨some 50, Op.binOp BinOp.gtr 3 (Operand.tmp 49) (Operand.const (Value.int IntKind.i64 9)) 3, some (48, false), true⟩,
  ⟨some 51, Op.pick (Operand.tmp 48) (Operand.const (Value.bool true)) (Operand.tmp 50), none, true⟩]
theorem k6_r6_e {P : Program} {pr : Prim} {N : Nat} {e : Nat → V} {σ : St} {Q : VX → (Nat → V) → St → Prop} : Eo P pr N k6_r6 e σ Q = Eo P pr N [
  ⟨some 29, Op.move (Operand.tmp 6), none, true⟩,
  ⟨some 30, Op.move (Operand.tmp 0), none, true⟩,
  ⟨some 31, Op.binOp BinOp.neq 3 (Operand.tmp 29) (Operand.tmp 30) 3, none, true⟩,
  ⟨some 32, Op.move (Operand.tmp 31), none, true⟩,
  ⟨some 33, Op.move (Operand.tmp 7), some (32, false), true⟩,
  ⟨some 34, Op.move (Operand.tmp 5), some (32, false), true⟩,
  ⟨some 35, Op.call { callee := Callee.builtin Builtin.len, args := #[Operand.tmp 34], argTypes := #[22] }, some (32, false), true⟩,
  ⟨some 36, Op.binOp BinOp.neq 3 (Operand.tmp 33) (Operand.tmp 35) 3, some (32, false), true⟩,
  ⟨some 37, Op.pick (Operand.tmp 32) (Operand.const (Value.bool true)) (Operand.tmp 36), none, true⟩,
  ⟨some 38, Op.move (Operand.tmp 37), none, true⟩,
  ⟨some 39, Op.move (Operand.tmp 7), some (38, false), true⟩,
  ⟨some 40, Op.move (Operand.tmp 0), some (38, false), true⟩,
  ⟨some 41, Op.call { callee := Callee.value (Operand.func 17), args := #[Operand.tmp 40], argTypes := #[3] }, some (38, false), true⟩,
  ⟨some 42, Op.binOp BinOp.neq 3 (Operand.tmp 39) (Operand.tmp 41) 3, some (38, false), true⟩,
  ⟨some 43, Op.pick (Operand.tmp 38) (Operand.const (Value.bool true)) (Operand.tmp 42), none, true⟩,
  ⟨some 44, Op.move (Operand.tmp 43), none, true⟩,
  ⟨some 45, Op.move (Operand.tmp 7), some (44, false), true⟩,
  ⟨some 46, Op.binOp BinOp.lss 3 (Operand.tmp 45) (Operand.const (Value.int IntKind.i64 1)) 3, some (44, false), true⟩,
  ⟨some 47, Op.pick (Operand.tmp 44) (Operand.const (Value.bool true)) (Operand.tmp 46), none, true⟩,
  ⟨some 48, Op.move (Operand.tmp 47), none, true⟩,
  ⟨some 49, Op.move (Operand.tmp 7), some (48, false), true⟩,
  ⟨some 50, Op.binOp BinOp.gtr 3 (Operand.tmp 49) (Operand.const (Value.int IntKind.i64 9)) 3, some (48, false), true⟩,
  ⟨some 51, Op.pick (Operand.tmp 48) (Operand.const (Value.bool true)) (Operand.tmp 50), none, true⟩] e σ Q := propext ⟨fun h => h, fun h => h⟩
def k6_r7 : List COp := [
  ⟨some 4, Op.assign (Operand.const (Value.bool false)), none, true⟩]
theorem k6_r7_e {P : Program} {pr : Prim} {N : Nat} {e : Nat → V} {σ : St} {Q : VX → (Nat → V) → St → Prop} : Eo P pr N k6_r7 e σ Q = Eo P pr N [
  ⟨some 4, Op.assign (Operand.const (Value.bool false)), none, true⟩] e σ Q := propext ⟨fun h => h, fun h => h⟩
def k6_r8 : List COp := [
  ⟨some 53, Op.move (Operand.tmp 1), none, true⟩,
  ⟨some 54, Op.call { callee := Callee.value (Operand.func 12), args := #[Operand.tmp 53], argTypes := #[22] }, none, true⟩,
  ⟨some 52, Op.move (Operand.tmp 54), none, true⟩,
  ⟨some 55, Op.extract (Operand.tmp 52) 0, none, true⟩,
  ⟨some 56, Op.extract (Operand.tmp 52) 1, none, true⟩,
  ⟨some 8, Op.assign (Operand.tmp 55), none, true⟩,
  ⟨some 9, Op.assign (Operand.tmp 56), none, true⟩]
theorem k6_r8_e {P : Program} {pr : Prim} {N : Nat} {e : Nat → V} {σ : St} {Q : VX → (Nat → V) → St → Prop} : Eo P pr N k6_r8 e σ Q = Eo P pr N [
  ⟨some 53, Op.move (Operand.tmp 1), none, true⟩,
  ⟨some 54, Op.call { callee := Callee.value (Operand.func 12), args := #[Operand.tmp 53], argTypes := #[22] }, none, true⟩,
  ⟨some 52, Op.move (Operand.tmp 54), none, true⟩,
  ⟨some 55, Op.extract (Operand.tmp 52) 0, none, true⟩,
  ⟨some 56, Op.extract (Operand.tmp 52) 1, none, true⟩,
  ⟨some 8, Op.assign (Operand.tmp 55), none, true⟩,
  ⟨some 9, Op.assign (Operand.tmp 56), none, true⟩] e σ Q := propext ⟨fun h => h, fun h => h⟩
def k6_r9 : List COp := [
  ⟨some 57, Op.move (Operand.tmp 9), none, true⟩,
  ⟨some 58, Op.binOp BinOp.eql 3 (Operand.tmp 57) (Operand.const (Value.int IntKind.i64 0)) 3, none, true⟩]
theorem k6_r9_e {P : Program} {pr : Prim} {N : Nat} {e : Nat → V} {σ : St} {Q : VX → (Nat → V) → St → Prop} : Eo P pr N k6_r9 e σ Q = Eo P pr N [
  ⟨some 57, Op.move (Operand.tmp 9), none, true⟩,
  ⟨some 58, Op.binOp BinOp.eql 3 (Operand.tmp 57) (Operand.const (Value.int IntKind.i64 0)) 3, none, true⟩] e σ Q := propext ⟨fun h => h, fun h => h⟩
def k6_r10 : List COp := [
  ⟨some 59, Op.move (Operand.tmp 8), none, true⟩,
  ⟨some 60, Op.binOp BinOp.eql 3 (Operand.tmp 59) (Operand.const (Value.int IntKind.i64 0)) 3, none, true⟩,
  ⟨some 4, Op.assign (Operand.tmp 60), none, true⟩]
theorem k6_r10_e {P : Program} {pr : Prim} {N : Nat} {e : Nat → V} {σ : St} {Q : VX → (Nat → V) → St → Prop} : Eo P pr N k6_r10 e σ Q = Eo P pr N [
  ⟨some 59, Op.move (Operand.tmp 8), none, true⟩,
  ⟨some 60, Op.binOp BinOp.eql 3 (Operand.tmp 59) (Operand.const (Value.int IntKind.i64 0)) 3, none, true⟩,
  ⟨some 4, Op.assign (Operand.tmp 60), none, true⟩] e σ Q := propext ⟨fun h => h, fun h => h⟩
def k6_r11 : List COp := [
  ⟨some 61, Op.move (Operand.tmp 8), none, true⟩,
  ⟨some 62, Op.binOp BinOp.geq 3 (Operand.tmp 61) (Operand.const (Value.int IntKind.i64 0)) 3, none, true⟩,
  ⟨some 63, Op.move (Operand.tmp 62), none, true⟩,
  ⟨some 64, Op.move (Operand.tmp 9), some (63, true), true⟩,
  ⟨some 65, Op.binOp BinOp.gtr 3 (Operand.tmp 64) (Operand.const (Value.int IntKind.i64 0)) 3, some (63, true), true⟩,
  ⟨some 66, Op.pick (Operand.tmp 63) (Operand.tmp 65) (Operand.const (Value.bool false)), none, true⟩,
  ⟨some 67, Op.move (Operand.tmp 66), none, true⟩,
  ⟨some 68, Op.move (Operand.tmp 9), some (67, true), false⟩,
  ⟨some 69, Op.move (Operand.tmp 1), some (67, true), true⟩,
  ⟨some 70, Op.call { callee := Callee.builtin Builtin.len, args := #[Operand.tmp 69], argTypes := #[22] }, some (67, true), true⟩,
  ⟨some 71, Op.binOp BinOp.leq 3 (Operand.tmp 68) (Operand.tmp 70) 3, some (67, true), true⟩,
  ⟨some 72, Op.pick (Operand.tmp 67) (Operand.tmp 71) (Operand.const (Value.bool false)), none, true⟩,
  ⟨some 73, Op.move (Operand.tmp 72), none, true⟩,
  ⟨some 74, Op.move (Operand.tmp 8), some (73, true), false⟩,
  ⟨some 75, Op.buildSlice 30 1 #[(0, Operand.tmp 74)], some (73, true), false⟩,
  ⟨some 76, Op.call { callee := Callee.value (Operand.func 14), args := #[Operand.const (Value.slice .none 0 0), Operand.tmp 75], argTypes := #[22, 30] }, some (73, true), false⟩,
  ⟨some 77, Op.move (Operand.tmp 1), some (73, true), false⟩,
  ⟨some 78, Op.move (Operand.tmp 9), some (73, true), true⟩,
  ⟨some 79, Op.slice 22 (Operand.tmp 77) .none (some (Operand.tmp 78)) .none, some (73, true), true⟩,
  ⟨some 80, Op.call { callee := Callee.value (Operand.func 15), args := #[Operand.tmp 76, Operand.tmp 79], argTypes := #[22, 22] }, some (73, true), true⟩,
  ⟨some 81, Op.pick (Operand.tmp 73) (Operand.tmp 80) (Operand.const (Value.bool false)), none, true⟩,
  ⟨some 4, Op.assign (Operand.tmp 81), none, true⟩]
theorem k6_r11_e {P : Program} {pr : Prim} {N : Nat} {e : Nat → V} {σ : St} {Q : VX → (Nat → V) → St → Prop} : Eo P pr N k6_r11 e σ Q = Eo P pr N [
  ⟨some 61, Op.move (Operand.tmp 8), none, true⟩,
  ⟨some 62, Op.binOp BinOp.geq 3 (Operand.tmp 61) (Operand.const (Value.int IntKind.i64 0)) 3, none, true⟩,
  ⟨some 63, Op.move (Operand.tmp 62), none, true⟩,
  ⟨some 64, Op.move (Operand.tmp 9), some (63, true), true⟩,
  ⟨some 65, Op.binOp BinOp.gtr 3 (Operand.tmp 64) (Operand.const (Value.int IntKind.i64 0)) 3, some (63, true), true⟩,
  ⟨some 66, Op.pick (Operand.tmp 63) (Operand.tmp 65) (Operand.const (Value.bool false)), none, true⟩,
  ⟨some 67, Op.move (Operand.tmp 66), none, true⟩,
  ⟨some 68, Op.move (Operand.tmp 9), some (67, true), false⟩,
  ⟨some 69, Op.move (Operand.tmp 1), some (67, true), true⟩,
  ⟨some 70, Op.call { callee := Callee.builtin Builtin.len, args := #[Operand.tmp 69], argTypes := #[22] }, some (67, true), true⟩,
  ⟨some 71, Op.binOp BinOp.leq 3 (Operand.tmp 68) (Operand.tmp 70) 3, some (67, true), true⟩,
  ⟨some 72, Op.pick (Operand.tmp 67) (Operand.tmp 71) (Operand.const (Value.bool false)), none, true⟩,
  ⟨some 73, Op.move (Operand.tmp 72), none, true⟩,
  ⟨some 74, Op.move (Operand.tmp 8), some (73, true), false⟩,
  ⟨some 75, Op.buildSlice 30 1 #[(0, Operand.tmp 74)], some (73, true), false⟩,
  ⟨some 76, Op.call { callee := Callee.value (Operand.func 14), args := #[Operand.const (Value.slice .none 0 0), Operand.tmp 75], argTypes := #[22, 30] }, some (73, true), false⟩,
  ⟨some 77, Op.move (Operand.tmp 1), some (73, true), false⟩,
  ⟨some 78, Op.move (Operand.tmp 9), some (73, true), true⟩,
  ⟨some 79, Op.slice 22 (Operand.tmp 77) .none (some (Operand.tmp 78)) .none, some (73, true), true⟩,
  ⟨some 80, Op.call { callee := Callee.value (Operand.func 15), args := #[Operand.tmp 76, Operand.tmp 79], argTypes := #[22, 22] }, some (73, true), true⟩,
  ⟨some 81, Op.pick (Operand.tmp 73) (Operand.tmp 80) (Operand.const (Value.bool false)), none, true⟩,
  ⟨some 4, Op.assign (Operand.tmp 81), none, true⟩] e σ Q := propext ⟨fun h => h, fun h => h⟩
def k6 : CC := (.seq (.region k6_r0) (.seq (.seq (.region k6_r1) (.cond (Operand.tmp 11) (.seq (.region k6_r2) .ret) .skip)) (.seq (.seq (.region k6_r3) (.cond (Operand.tmp 13) (.seq (.region k6_r4) (.seq (.region k6_r5) (.seq (.region k6_r6) (.cond (Operand.tmp 51) (.seq (.region k6_r7) .ret) .skip)))) .skip)) (.seq (.region k6_r8) (.seq (.seq (.region k6_r9) (.cond (Operand.tmp 58) (.seq (.region k6_r10) .ret) .skip)) (.seq (.region k6_r11) .ret))))))
theorem k6_e {P : Program} {pr : Prim} {N : Nat} {e : Nat → V} {σ : St} {Q : VX → (Nat → V) → St → Prop} : Ev P pr N k6 e σ Q = Ev P pr N (.seq (.region k6_r0) (.seq (.seq (.region k6_r1) (.cond (Operand.tmp 11) (.seq (.region k6_r2) .ret) .skip)) (.seq (.seq (.region k6_r3) (.cond (Operand.tmp 13) (.seq (.region k6_r4) (.seq (.region k6_r5) (.seq (.region k6_r6) (.cond (Operand.tmp 51) (.seq (.region k6_r7) .ret) .skip)))) .skip)) (.seq (.region k6_r8) (.seq (.seq (.region k6_r9) (.cond (Operand.tmp 58) (.seq (.region k6_r10) .ret) .skip)) (.seq (.region k6_r11) .ret)))))) e σ Q := propext ⟨fun h => h, fun h => h⟩
/-- quern/quernlaw01.PackBack -/
theorem k6_is : FnIs Try.prog noPrim 6 82 [ResultVar.tmp 4] k6 := FnIs.of_fn Try.func6 (by kernel_rfl)
def k10_r0 : List COp := [
  ⟨some 4, Op.assign (Operand.const (Value.bool false)), none, true⟩]
theorem k10_r0_e {P : Program} {pr : Prim} {N : Nat} {e : Nat → V} {σ : St} {Q : VX → (Nat → V) → St → Prop} : Eo P pr N k10_r0 e σ Q = Eo P pr N [
  ⟨some 4, Op.assign (Operand.const (Value.bool false)), none, true⟩] e σ Q := propext ⟨fun h => h, fun h => h⟩
def k10_r1 : List COp := [
  ⟨some 12, Op.call { callee := Callee.value (Operand.func 11), args := #[], argTypes := #[] }, none, true⟩,
  ⟨some 13, Op.unOp UnOp.not 4 (Operand.tmp 12), none, true⟩]
theorem k10_r1_e {P : Program} {pr : Prim} {N : Nat} {e : Nat → V} {σ : St} {Q : VX → (Nat → V) → St → Prop} : Eo P pr N k10_r1 e σ Q = Eo P pr N [
  ⟨some 12, Op.call { callee := Callee.value (Operand.func 11), args := #[], argTypes := #[] }, none, true⟩,
  ⟨some 13, Op.unOp UnOp.not 4 (Operand.tmp 12), none, true⟩] e σ Q := propext ⟨fun h => h, fun h => h⟩
def k10_r2 : List COp := [
  ⟨some 4, Op.assign (Operand.const (Value.bool false)), none, true⟩]
theorem k10_r2_e {P : Program} {pr : Prim} {N : Nat} {e : Nat → V} {σ : St} {Q : VX → (Nat → V) → St → Prop} : Eo P pr N k10_r2 e σ Q = Eo P pr N [
  ⟨some 4, Op.assign (Operand.const (Value.bool false)), none, true⟩] e σ Q := propext ⟨fun h => h, fun h => h⟩
def k10_r3 : List COp := [
  ⟨some 14, Op.move (Operand.tmp 0), none, true⟩,
  ⟨some 15, Op.call { callee := Callee.value (Operand.func 19), args := #[Operand.tmp 14], argTypes := #[22] }, none, true⟩,
  ⟨some 5, Op.assign (Operand.tmp 15), none, true⟩]
theorem k10_r3_e {P : Program} {pr : Prim} {N : Nat} {e : Nat → V} {σ : St} {Q : VX → (Nat → V) → St → Prop} : Eo P pr N k10_r3 e σ Q = Eo P pr N [
  ⟨some 14, Op.move (Operand.tmp 0), none, true⟩,
  ⟨some 15, Op.call { callee := Callee.value (Operand.func 19), args := #[Operand.tmp 14], argTypes := #[22] }, none, true⟩,
  ⟨some 5, Op.assign (Operand.tmp 15), none, true⟩] e σ Q := propext ⟨fun h => h, fun h => h⟩
def k10_r4 : List COp := [
  ⟨some 16, Op.move (Operand.tmp 5), none, true⟩,
  ⟨some 17, Op.binOp BinOp.eql 40 (Operand.tmp 16) (Operand.const (Value.pointer .none)) 40, none, true⟩]
theorem k10_r4_e {P : Program} {pr : Prim} {N : Nat} {e : Nat → V} {σ : St} {Q : VX → (Nat → V) → St → Prop} : Eo P pr N k10_r4 e σ Q = Eo P pr N [
  ⟨some 16, Op.move (Operand.tmp 5), none, true⟩,
  ⟨some 17, Op.binOp BinOp.eql 40 (Operand.tmp 16) (Operand.const (Value.pointer .none)) 40, none, true⟩] e σ Q := propext ⟨fun h => h, fun h => h⟩
def k10_r5 : List COp := [
  ⟨some 4, Op.assign (Operand.const (Value.bool false)), none, true⟩]
theorem k10_r5_e {P : Program} {pr : Prim} {N : Nat} {e : Nat → V} {σ : St} {Q : VX → (Nat → V) → St → Prop} : Eo P pr N k10_r5 e σ Q = Eo P pr N [
  ⟨some 4, Op.assign (Operand.const (Value.bool false)), none, true⟩] e σ Q := propext ⟨fun h => h, fun h => h⟩
def k10_r6 : List COp := [
  ⟨some 18, Op.buildSlice 22 0 #[], none, true⟩,
  ⟨some 19, Op.move (Operand.tmp 0), none, true⟩,
  ⟨some 20, Op.call { callee := Callee.builtin Builtin.append, args := #[Operand.tmp 18, Operand.tmp 19], argTypes := #[22, 22] }, none, true⟩,
  ⟨some 21, Op.build 46 #[(0, Operand.tmp 20)], none, true⟩,
  ⟨some 22, Op.box 46 (Operand.tmp 21), none, true⟩,
  ⟨some 6, Op.assign (Operand.tmp 22), none, true⟩]
theorem k10_r6_e {P : Program} {pr : Prim} {N : Nat} {e : Nat → V} {σ : St} {Q : VX → (Nat → V) → St → Prop} : Eo P pr N k10_r6 e σ Q = Eo P pr N [
  ⟨some 18, Op.buildSlice 22 0 #[], none, true⟩,
  ⟨some 19, Op.move (Operand.tmp 0), none, true⟩,
  ⟨some 20, Op.call { callee := Callee.builtin Builtin.append, args := #[Operand.tmp 18, Operand.tmp 19], argTypes := #[22, 22] }, none, true⟩,
  ⟨some 21, Op.build 46 #[(0, Operand.tmp 20)], none, true⟩,
  ⟨some 22, Op.box 46 (Operand.tmp 21), none, true⟩,
  ⟨some 6, Op.assign (Operand.tmp 22), none, true⟩] e σ Q := propext ⟨fun h => h, fun h => h⟩
def k10_r7 : List COp := [
  ⟨some 23, Op.move (Operand.tmp 1), none, true⟩,
  ⟨some 24, Op.call { callee := Callee.builtin Builtin.len, args := #[Operand.tmp 23], argTypes := #[43] }, none, true⟩,
  ⟨some 25, Op.move (Operand.const (Value.int IntKind.i64 0)), none, true⟩]
theorem k10_r7_e {P : Program} {pr : Prim} {N : Nat} {e : Nat → V} {σ : St} {Q : VX → (Nat → V) → St → Prop} : Eo P pr N k10_r7 e σ Q = Eo P pr N [
  ⟨some 23, Op.move (Operand.tmp 1), none, true⟩,
  ⟨some 24, Op.call { callee := Callee.builtin Builtin.len, args := #[Operand.tmp 23], argTypes := #[43] }, none, true⟩,
  ⟨some 25, Op.move (Operand.const (Value.int IntKind.i64 0)), none, true⟩] e σ Q := propext ⟨fun h => h, fun h => h⟩
def k10_r8 : List COp := [
  ⟨some 26, Op.binOp BinOp.lss 3 (Operand.tmp 25) (Operand.tmp 24) 3, none, true⟩]
theorem k10_r8_e {P : Program} {pr : Prim} {N : Nat} {e : Nat → V} {σ : St} {Q : VX → (Nat → V) → St → Prop} : Eo P pr N k10_r8 e σ Q = Eo P pr N [
  ⟨some 26, Op.binOp BinOp.lss 3 (Operand.tmp 25) (Operand.tmp 24) 3, none, true⟩] e σ Q := propext ⟨fun h => h, fun h => h⟩
def k10_r9 : List COp := [
  ⟨some 27, Op.indexAddr 43 (Operand.tmp 23) (Operand.tmp 25), none, true⟩,
  ⟨some 28, Op.load 48 (Operand.tmp 27), none, true⟩,
  ⟨some 8, Op.alloc 48, none, true⟩,
  ⟨none, Op.store 48 (Operand.tmp 8) (Operand.tmp 28), none, true⟩]
theorem k10_r9_e {P : Program} {pr : Prim} {N : Nat} {e : Nat → V} {σ : St} {Q : VX → (Nat → V) → St → Prop} : Eo P pr N k10_r9 e σ Q = Eo P pr N [
  ⟨some 27, Op.indexAddr 43 (Operand.tmp 23) (Operand.tmp 25), none, true⟩,
  ⟨some 28, Op.load 48 (Operand.tmp 27), none, true⟩,
  ⟨some 8, Op.alloc 48, none, true⟩,
  ⟨none, Op.store 48 (Operand.tmp 8) (Operand.tmp 28), none, true⟩] e σ Q := propext ⟨fun h => h, fun h => h⟩
def k10_r10 : List COp := [
  ⟨some 29, Op.fieldAddr 48 (Operand.tmp 8) 0, none, true⟩,
  ⟨some 30, Op.load 3 (Operand.tmp 29), none, true⟩]
theorem k10_r10_e {P : Program} {pr : Prim} {N : Nat} {e : Nat → V} {σ : St} {Q : VX → (Nat → V) → St → Prop} : Eo P pr N k10_r10 e σ Q = Eo P pr N [
  ⟨some 29, Op.fieldAddr 48 (Operand.tmp 8) 0, none, true⟩,
  ⟨some 30, Op.load 3 (Operand.tmp 29), none, true⟩] e σ Q := propext ⟨fun h => h, fun h => h⟩
def k10_r11 : List COp := [
  ⟨some 32, Op.binOp BinOp.eql 3 (Operand.tmp 30) (Operand.const (Value.int IntKind.i64 0)) 3, none, true⟩,
  ⟨some 31, Op.assign (Operand.tmp 32), none, true⟩]
theorem k10_r11_e {P : Program} {pr : Prim} {N : Nat} {e : Nat → V} {σ : St} {Q : VX → (Nat → V) → St → Prop} : Eo P pr N k10_r11 e σ Q = Eo P pr N [
  ⟨some 32, Op.binOp BinOp.eql 3 (Operand.tmp 30) (Operand.const (Value.int IntKind.i64 0)) 3, none, true⟩,
  ⟨some 31, Op.assign (Operand.tmp 32), none, true⟩] e σ Q := propext ⟨fun h => h, fun h => h⟩
def k10_r12 : List COp := [
  ⟨some 33, Op.move (Operand.tmp 5), none, true⟩,
  ⟨some 34, Op.call { callee := Callee.value (Operand.func 22), args := #[Operand.tmp 33], argTypes := #[40] }, none, true⟩,
  ⟨some 35, Op.move (Operand.tmp 6), none, true⟩,
  ⟨some 36, Op.call { callee := Callee.value (Operand.func 23), args := #[Operand.tmp 35], argTypes := #[44] }, none, true⟩,
  ⟨some 37, Op.binOp BinOp.neq 3 (Operand.tmp 34) (Operand.tmp 36) 3, none, true⟩]
theorem k10_r12_e {P : Program} {pr : Prim} {N : Nat} {e : Nat → V} {σ : St} {Q : VX → (Nat → V) → St → Prop} : Eo P pr N k10_r12 e σ Q = Eo P pr N [
  ⟨some 33, Op.move (Operand.tmp 5), none, true⟩,
  ⟨some 34, Op.call { callee := Callee.value (Operand.func 22), args := #[Operand.tmp 33], argTypes := #[40] }, none, true⟩,
  ⟨some 35, Op.move (Operand.tmp 6), none, true⟩,
  ⟨some 36, Op.call { callee := Callee.value (Operand.func 23), args := #[Operand.tmp 35], argTypes := #[44] }, none, true⟩,
  ⟨some 37, Op.binOp BinOp.neq 3 (Operand.tmp 34) (Operand.tmp 36) 3, none, true⟩] e σ Q := propext ⟨fun h => h, fun h => h⟩
def k10_r13 : List COp := [
  ⟨some 4, Op.assign (Operand.const (Value.bool false)), none, true⟩]
theorem k10_r13_e {P : Program} {pr : Prim} {N : Nat} {e : Nat → V} {σ : St} {Q : VX → (Nat → V) → St → Prop} : Eo P pr N k10_r13 e σ Q = Eo P pr N [
  ⟨some 4, Op.assign (Operand.const (Value.bool false)), none, true⟩] e σ Q := propext ⟨fun h => h, fun h => h⟩
def k10_r14 : List COp := [
  ⟨some 39, Op.binOp BinOp.eql 3 (Operand.tmp 30) (Operand.const (Value.int IntKind.i64 1)) 3, none, true⟩,
  ⟨some 38, Op.assign (Operand.tmp 39), none, true⟩]
theorem k10_r14_e {P : Program} {pr : Prim} {N : Nat} {e : Nat → V} {σ : St} {Q : VX → (Nat → V) → St → Prop} : Eo P pr N k10_r14 e σ Q = Eo P pr N [
  ⟨some 39, Op.binOp BinOp.eql 3 (Operand.tmp 30) (Operand.const (Value.int IntKind.i64 1)) 3, none, true⟩,
  ⟨some 38, Op.assign (Operand.tmp 39), none, true⟩] e σ Q := propext ⟨fun h => h, fun h => h⟩
def k10_r15 : List COp := [
  ⟨some 9, Op.assign (Operand.const (Value.int IntKind.u8 0)), none, true⟩]
theorem k10_r15_e {P : Program} {pr : Prim} {N : Nat} {e : Nat → V} {σ : St} {Q : VX → (Nat → V) → St → Prop} : Eo P pr N k10_r15 e σ Q = Eo P pr N [
  ⟨some 9, Op.assign (Operand.const (Value.int IntKind.u8 0)), none, true⟩] e σ Q := propext ⟨fun h => h, fun h => h⟩
def k10_r16 : List COp := [
  ⟨some 40, Op.move (Operand.tmp 6), none, true⟩,
  ⟨some 41, Op.call { callee := Callee.value (Operand.func 24), args := #[Operand.tmp 40, Operand.const (Value.int IntKind.i64 1)], argTypes := #[44, 3] }, none, true⟩,
  ⟨some 10, Op.assign (Operand.tmp 41), none, true⟩]
theorem k10_r16_e {P : Program} {pr : Prim} {N : Nat} {e : Nat → V} {σ : St} {Q : VX → (Nat → V) → St → Prop} : Eo P pr N k10_r16 e σ Q = Eo P pr N [
  ⟨some 40, Op.move (Operand.tmp 6), none, true⟩,
  ⟨some 41, Op.call { callee := Callee.value (Operand.func 24), args := #[Operand.tmp 40, Operand.const (Value.int IntKind.i64 1)], argTypes := #[44, 3] }, none, true⟩,
  ⟨some 10, Op.assign (Operand.tmp 41), none, true⟩] e σ Q := propext ⟨fun h => h, fun h => h⟩
def k10_r17 : List COp := [
  ⟨some 42, Op.move (Operand.tmp 10), none, true⟩,
  ⟨some 43, Op.call { callee := Callee.builtin Builtin.len, args := #[Operand.tmp 42], argTypes := #[22] }, none, true⟩,
  ⟨some 44, Op.binOp BinOp.eql 3 (Operand.tmp 43) (Operand.const (Value.int IntKind.i64 1)) 3, none, true⟩]
theorem k10_r17_e {P : Program} {pr : Prim} {N : Nat} {e : Nat → V} {σ : St} {Q : VX → (Nat → V) → St → Prop} : Eo P pr N k10_r17 e σ Q = Eo P pr N [
  ⟨some 42, Op.move (Operand.tmp 10), none, true⟩,
  ⟨some 43, Op.call { callee := Callee.builtin Builtin.len, args := #[Operand.tmp 42], argTypes := #[22] }, none, true⟩,
  ⟨some 44, Op.binOp BinOp.eql 3 (Operand.tmp 43) (Operand.const (Value.int IntKind.i64 1)) 3, none, true⟩] e σ Q := propext ⟨fun h => h, fun h => h⟩
def k10_r18 : List COp := [
  ⟨some 45, Op.move (Operand.tmp 10), none, true⟩,
  ⟨some 46, Op.indexAddr 22 (Operand.tmp 45) (Operand.const (Value.int IntKind.i64 0)), none, true⟩,
  ⟨some 47, Op.load 5 (Operand.tmp 46), none, true⟩,
  ⟨some 9, Op.assign (Operand.tmp 47), none, true⟩]
theorem k10_r18_e {P : Program} {pr : Prim} {N : Nat} {e : Nat → V} {σ : St} {Q : VX → (Nat → V) → St → Prop} : Eo P pr N k10_r18 e σ Q = Eo P pr N [
  ⟨some 45, Op.move (Operand.tmp 10), none, true⟩,
  ⟨some 46, Op.indexAddr 22 (Operand.tmp 45) (Operand.const (Value.int IntKind.i64 0)), none, true⟩,
  ⟨some 47, Op.load 5 (Operand.tmp 46), none, true⟩,
  ⟨some 9, Op.assign (Operand.tmp 47), none, true⟩] e σ Q := propext ⟨fun h => h, fun h => h⟩
def k10_r19 : List COp := [
  ⟨some 48, Op.move (Operand.tmp 5), none, true⟩,
  ⟨some 49, Op.call { callee := Callee.value (Operand.func 25), args := #[Operand.tmp 48], argTypes := #[40] }, none, true⟩,
  ⟨some 50, Op.move (Operand.tmp 9), none, true⟩,
  ⟨some 51, Op.binOp BinOp.neq 5 (Operand.tmp 49) (Operand.tmp 50) 5, none, true⟩]
theorem k10_r19_e {P : Program} {pr : Prim} {N : Nat} {e : Nat → V} {σ : St} {Q : VX → (Nat → V) → St → Prop} : Eo P pr N k10_r19 e σ Q = Eo P pr N [
  ⟨some 48, Op.move (Operand.tmp 5), none, true⟩,
  ⟨some 49, Op.call { callee := Callee.value (Operand.func 25), args := #[Operand.tmp 48], argTypes := #[40] }, none, true⟩,
  ⟨some 50, Op.move (Operand.tmp 9), none, true⟩,
  ⟨some 51, Op.binOp BinOp.neq 5 (Operand.tmp 49) (Operand.tmp 50) 5, none, true⟩] e σ Q := propext ⟨fun h => h, fun h => h⟩
def k10_r20 : List COp := [
  ⟨some 4, Op.assign (Operand.const (Value.bool false)), none, true⟩]
theorem k10_r20_e {P : Program} {pr : Prim} {N : Nat} {e : Nat → V} {σ : St} {Q : VX → (Nat → V) → St → Prop} : Eo P pr N k10_r20 e σ Q = Eo P pr N [
  ⟨some 4, Op.assign (Operand.const (Value.bool false)), none, true⟩] e σ Q := propext ⟨fun h => h, fun h => h⟩
def k10_r21 : List COp := [
  ⟨some 53, Op.binOp BinOp.eql 3 (Operand.tmp 30) (Operand.const (Value.int IntKind.i64 2)) 3, none, true⟩,
  ⟨some 52, Op.assign (Operand.tmp 53), none, true⟩]
theorem k10_r21_e {P : Program} {pr : Prim} {N : Nat} {e : Nat → V} {σ : St} {Q : VX → (Nat → V) → St → Prop} : Eo P pr N k10_r21 e σ Q = Eo P pr N [
  ⟨some 53, Op.binOp BinOp.eql 3 (Operand.tmp 30) (Operand.const (Value.int IntKind.i64 2)) 3, none, true⟩,
  ⟨some 52, Op.assign (Operand.tmp 53), none, true⟩] e σ Q := propext ⟨fun h => h, fun h => h⟩
def k10_r22 : CC := (.wregion [
  (true, ⟨some 54, Op.move (Operand.tmp 5), none, false⟩),
  (false, ⟨some 55, Op.fieldAddr 48 (Operand.tmp 8) 1, none, false⟩),
  (false, ⟨some 56, Op.load 3 (Operand.tmp 55), none, false⟩),
  (false, ⟨some 57, Op.call { callee := Callee.value (Operand.func 20), args := #[Operand.tmp 54, Operand.tmp 56], argTypes := #[40, 3] }, none, false⟩),
  (true, ⟨some 58, Op.move (Operand.tmp 6), none, false⟩),
  (false, ⟨some 59, Op.fieldAddr 48 (Operand.tmp 8) 1, none, true⟩),
  (true, ⟨some 60, Op.load 3 (Operand.tmp 59), none, true⟩),
  (false, ⟨some 61, Op.call { callee := Callee.value (Operand.func 24), args := #[Operand.tmp 58, Operand.tmp 60], argTypes := #[44, 3] }, none, true⟩),
  (false, ⟨some 62, Op.call { callee := Callee.value (Operand.func 15), args := #[Operand.tmp 57, Operand.tmp 61], argTypes := #[22, 22] }, none, true⟩),
  (false, ⟨some 63, Op.unOp UnOp.not 4 (Operand.tmp 62), none, true⟩)] false [(6, ⟨some 60, Op.load 3 (Operand.tmp 59), none, true⟩, [0, 4])])
theorem k10_r22_e {P : Program} {pr : Prim} {N : Nat} {e : Nat → V} {σ : St} {Q : VX → (Nat → V) → St → Prop} : Ev P pr N k10_r22 e σ Q = Ev P pr N (.wregion [
  (true, ⟨some 54, Op.move (Operand.tmp 5), none, false⟩),
  (false, ⟨some 55, Op.fieldAddr 48 (Operand.tmp 8) 1, none, false⟩),
  (false, ⟨some 56, Op.load 3 (Operand.tmp 55), none, false⟩),
  (false, ⟨some 57, Op.call { callee := Callee.value (Operand.func 20), args := #[Operand.tmp 54, Operand.tmp 56], argTypes := #[40, 3] }, none, false⟩),
  (true, ⟨some 58, Op.move (Operand.tmp 6), none, false⟩),
  (false, ⟨some 59, Op.fieldAddr 48 (Operand.tmp 8) 1, none, true⟩),
  (true, ⟨some 60, Op.load 3 (Operand.tmp 59), none, true⟩),
  (false, ⟨some 61, Op.call { callee := Callee.value (Operand.func 24), args := #[Operand.tmp 58, Operand.tmp 60], argTypes := #[44, 3] }, none, true⟩),
  (false, ⟨some 62, Op.call { callee := Callee.value (Operand.func 15), args := #[Operand.tmp 57, Operand.tmp 61], argTypes := #[22, 22] }, none, true⟩),
  (false, ⟨some 63, Op.unOp UnOp.not 4 (Operand.tmp 62), none, true⟩)] false [(6, ⟨some 60, Op.load 3 (Operand.tmp 59), none, true⟩, [0, 4])]) e σ Q := propext ⟨fun h => h, fun h => h⟩
def k10_r23 : List COp := [
  ⟨some 4, Op.assign (Operand.const (Value.bool false)), none, true⟩]
theorem k10_r23_e {P : Program} {pr : Prim} {N : Nat} {e : Nat → V} {σ : St} {Q : VX → (Nat → V) → St → Prop} : Eo P pr N k10_r23 e σ Q = Eo P pr N [
  ⟨some 4, Op.assign (Operand.const (Value.bool false)), none, true⟩] e σ Q := propext ⟨fun h => h, fun h => h⟩
def k10_r24 : CC := (.wregion [
  (false, ⟨some 64, Op.move (Operand.tmp 5), none, false⟩),
  (false, ⟨some 65, Op.call { callee := Callee.value (Operand.func 26), args := #[Operand.tmp 64], argTypes := #[40] }, none, false⟩),
  (false, ⟨some 66, Op.move (Operand.tmp 6), none, true⟩),
  (false, ⟨some 67, Op.call { callee := Callee.value (Operand.func 27), args := #[Operand.tmp 66], argTypes := #[44] }, none, true⟩),
  (true, ⟨some 68, Op.binOp BinOp.neq 3 (Operand.tmp 65) (Operand.tmp 67) 3, none, true⟩),
  (false, ⟨some 69, Op.move (Operand.tmp 68), none, true⟩),
  (false, ⟨some 70, Op.move (Operand.tmp 5), some (69, false), false⟩),
  (false, ⟨some 71, Op.call { callee := Callee.value (Operand.func 28), args := #[Operand.tmp 70], argTypes := #[40] }, some (69, false), false⟩),
  (true, ⟨some 72, Op.move (Operand.tmp 6), some (69, false), true⟩),
  (false, ⟨some 73, Op.nilCheck (Operand.tmp 72), some (69, false), true⟩),
  (false, ⟨some 74, Op.fieldAddr 46 (Operand.tmp 73) 1, some (69, false), true⟩),
  (true, ⟨some 75, Op.load 4 (Operand.tmp 74), some (69, false), true⟩),
  (false, ⟨some 76, Op.binOp BinOp.neq 4 (Operand.tmp 71) (Operand.tmp 75) 4, some (69, false), true⟩),
  (false, ⟨some 77, Op.pick (Operand.tmp 69) (Operand.const (Value.bool true)) (Operand.tmp 76), none, true⟩),
  (false, ⟨some 78, Op.move (Operand.tmp 77), none, true⟩),
  (false, ⟨some 79, Op.move (Operand.tmp 5), some (78, false), false⟩),
  (false, ⟨some 80, Op.call { callee := Callee.value (Operand.func 21), args := #[Operand.tmp 79], argTypes := #[40] }, some (78, false), false⟩),
  (true, ⟨some 81, Op.move (Operand.tmp 6), some (78, false), true⟩),
  (false, ⟨some 82, Op.nilCheck (Operand.tmp 81), some (78, false), true⟩),
  (false, ⟨some 83, Op.fieldAddr 46 (Operand.tmp 82) 1, some (78, false), true⟩),
  (true, ⟨some 84, Op.load 4 (Operand.tmp 83), some (78, false), true⟩),
  (false, ⟨some 85, Op.unOp UnOp.not 4 (Operand.tmp 84), some (78, false), true⟩),
  (false, ⟨some 86, Op.move (Operand.tmp 85), some (78, false), true⟩),
  (false, ⟨some 87, Op.move (Operand.tmp 6), some (86, true), true⟩),
  (false, ⟨some 88, Op.nilCheck (Operand.tmp 87), some (86, true), true⟩),
  (false, ⟨some 89, Op.fieldAddr 46 (Operand.tmp 88) 0, some (86, true), true⟩),
  (false, ⟨some 90, Op.load 22 (Operand.tmp 89), some (86, true), true⟩),
  (false, ⟨some 91, Op.call { callee := Callee.builtin Builtin.len, args := #[Operand.tmp 90], argTypes := #[22] }, some (86, true), true⟩),
  (false, ⟨some 92, Op.binOp BinOp.eql 3 (Operand.tmp 91) (Operand.const (Value.int IntKind.i64 0)) 3, some (86, true), true⟩),
  (false, ⟨some 93, Op.pick (Operand.tmp 86) (Operand.tmp 92) (Operand.const (Value.bool false)), some (78, false), true⟩),
  (false, ⟨some 94, Op.binOp BinOp.neq 4 (Operand.tmp 80) (Operand.tmp 93) 4, some (78, false), true⟩),
  (false, ⟨some 95, Op.pick (Operand.tmp 78) (Operand.const (Value.bool true)) (Operand.tmp 94), none, true⟩)] false [(11, ⟨some 75, Op.load 4 (Operand.tmp 74), some (69, false), true⟩, [4, 8]), (20, ⟨some 84, Op.load 4 (Operand.tmp 83), some (78, false), true⟩, [8, 17])])
theorem k10_r24_e {P : Program} {pr : Prim} {N : Nat} {e : Nat → V} {σ : St} {Q : VX → (Nat → V) → St → Prop} : Ev P pr N k10_r24 e σ Q = Ev P pr N (.wregion [
  (false, ⟨some 64, Op.move (Operand.tmp 5), none, false⟩),
  (false, ⟨some 65, Op.call { callee := Callee.value (Operand.func 26), args := #[Operand.tmp 64], argTypes := #[40] }, none, false⟩),
  (false, ⟨some 66, Op.move (Operand.tmp 6), none, true⟩),
  (false, ⟨some 67, Op.call { callee := Callee.value (Operand.func 27), args := #[Operand.tmp 66], argTypes := #[44] }, none, true⟩),
  (true, ⟨some 68, Op.binOp BinOp.neq 3 (Operand.tmp 65) (Operand.tmp 67) 3, none, true⟩),
  (false, ⟨some 69, Op.move (Operand.tmp 68), none, true⟩),
  (false, ⟨some 70, Op.move (Operand.tmp 5), some (69, false), false⟩),
  (false, ⟨some 71, Op.call { callee := Callee.value (Operand.func 28), args := #[Operand.tmp 70], argTypes := #[40] }, some (69, false), false⟩),
  (true, ⟨some 72, Op.move (Operand.tmp 6), some (69, false), true⟩),
  (false, ⟨some 73, Op.nilCheck (Operand.tmp 72), some (69, false), true⟩),
  (false, ⟨some 74, Op.fieldAddr 46 (Operand.tmp 73) 1, some (69, false), true⟩),
  (true, ⟨some 75, Op.load 4 (Operand.tmp 74), some (69, false), true⟩),
  (false, ⟨some 76, Op.binOp BinOp.neq 4 (Operand.tmp 71) (Operand.tmp 75) 4, some (69, false), true⟩),
  (false, ⟨some 77, Op.pick (Operand.tmp 69) (Operand.const (Value.bool true)) (Operand.tmp 76), none, true⟩),
  (false, ⟨some 78, Op.move (Operand.tmp 77), none, true⟩),
  (false, ⟨some 79, Op.move (Operand.tmp 5), some (78, false), false⟩),
  (false, ⟨some 80, Op.call { callee := Callee.value (Operand.func 21), args := #[Operand.tmp 79], argTypes := #[40] }, some (78, false), false⟩),
  (true, ⟨some 81, Op.move (Operand.tmp 6), some (78, false), true⟩),
  (false, ⟨some 82, Op.nilCheck (Operand.tmp 81), some (78, false), true⟩),
  (false, ⟨some 83, Op.fieldAddr 46 (Operand.tmp 82) 1, some (78, false), true⟩),
  (true, ⟨some 84, Op.load 4 (Operand.tmp 83), some (78, false), true⟩),
  (false, ⟨some 85, Op.unOp UnOp.not 4 (Operand.tmp 84), some (78, false), true⟩),
  (false, ⟨some 86, Op.move (Operand.tmp 85), some (78, false), true⟩),
  (false, ⟨some 87, Op.move (Operand.tmp 6), some (86, true), true⟩),
  (false, ⟨some 88, Op.nilCheck (Operand.tmp 87), some (86, true), true⟩),
  (false, ⟨some 89, Op.fieldAddr 46 (Operand.tmp 88) 0, some (86, true), true⟩),
  (false, ⟨some 90, Op.load 22 (Operand.tmp 89), some (86, true), true⟩),
  (false, ⟨some 91, Op.call { callee := Callee.builtin Builtin.len, args := #[Operand.tmp 90], argTypes := #[22] }, some (86, true), true⟩),
  (false, ⟨some 92, Op.binOp BinOp.eql 3 (Operand.tmp 91) (Operand.const (Value.int IntKind.i64 0)) 3, some (86, true), true⟩),
  (false, ⟨some 93, Op.pick (Operand.tmp 86) (Operand.tmp 92) (Operand.const (Value.bool false)), some (78, false), true⟩),
  (false, ⟨some 94, Op.binOp BinOp.neq 4 (Operand.tmp 80) (Operand.tmp 93) 4, some (78, false), true⟩),
  (false, ⟨some 95, Op.pick (Operand.tmp 78) (Operand.const (Value.bool true)) (Operand.tmp 94), none, true⟩)] false [(11, ⟨some 75, Op.load 4 (Operand.tmp 74), some (69, false), true⟩, [4, 8]), (20, ⟨some 84, Op.load 4 (Operand.tmp 83), some (78, false), true⟩, [8, 17])]) e σ Q := propext ⟨fun h => h, fun h => h⟩
def k10_r25 : List COp := [
  ⟨some 4, Op.assign (Operand.const (Value.bool false)), none, true⟩]
theorem k10_r25_e {P : Program} {pr : Prim} {N : Nat} {e : Nat → V} {σ : St} {Q : VX → (Nat → V) → St → Prop} : Eo P pr N k10_r25 e σ Q = Eo P pr N [
  ⟨some 4, Op.assign (Operand.const (Value.bool false)), none, true⟩] e σ Q := propext ⟨fun h => h, fun h => h⟩
def k10_r26 : List COp := [
  ⟨some 96, Op.binOp BinOp.add 3 (Operand.tmp 25) (Operand.const (Value.int IntKind.i64 1)) 3, none, true⟩,
  ⟨some 25, Op.move (Operand.tmp 96), none, true⟩]
theorem k10_r26_e {P : Program} {pr : Prim} {N : Nat} {e : Nat → V} {σ : St} {Q : VX → (Nat → V) → St → Prop} : Eo P pr N k10_r26 e σ Q = Eo P pr N [
  ⟨some 96, Op.binOp BinOp.add 3 (Operand.tmp 25) (Operand.const (Value.int IntKind.i64 1)) 3, none, true⟩,
  ⟨some 25, Op.move (Operand.tmp 96), none, true⟩] e σ Q := propext ⟨fun h => h, fun h => h⟩
def k10_l0 : CC := (.seq (.region k10_r8) (.seq (.cond (Operand.tmp 26) .skip (.exit 0)) (.seq (.block 1 (.seq (.region k10_r9) (.seq (.seq (.region k10_r10) (.block 2 (.seq (.region k10_r11) (.cond (Operand.tmp 31) (.seq (.region k10_r12) (.cond (Operand.tmp 37) (.seq (.region k10_r13) .ret) .skip)) (.seq (.region k10_r14) (.cond (Operand.tmp 38) (.seq (.region k10_r15) (.seq (.region k10_r16) (.seq (.seq (.region k10_r17) (.cond (Operand.tmp 44) (.region k10_r18) .skip)) (.seq (.region k10_r19) (.cond (Operand.tmp 51) (.seq (.region k10_r20) .ret) .skip))))) (.seq (.region k10_r21) (.cond (Operand.tmp 52) (.seq k10_r22 (.cond (Operand.tmp 63) (.seq (.region k10_r23) .ret) .skip)) .skip)))))))) (.seq k10_r24 (.cond (Operand.tmp 95) (.seq (.region k10_r25) .ret) .skip))))) (.region k10_r26))))
theorem k10_l0_e {P : Program} {pr : Prim} {N : Nat} {e : Nat → V} {σ : St} {Q : VX → (Nat → V) → St → Prop} : Ev P pr N k10_l0 e σ Q = Ev P pr N (.seq (.region k10_r8) (.seq (.cond (Operand.tmp 26) .skip (.exit 0)) (.seq (.block 1 (.seq (.region k10_r9) (.seq (.seq (.region k10_r10) (.block 2 (.seq (.region k10_r11) (.cond (Operand.tmp 31) (.seq (.region k10_r12) (.cond (Operand.tmp 37) (.seq (.region k10_r13) .ret) .skip)) (.seq (.region k10_r14) (.cond (Operand.tmp 38) (.seq (.region k10_r15) (.seq (.region k10_r16) (.seq (.seq (.region k10_r17) (.cond (Operand.tmp 44) (.region k10_r18) .skip)) (.seq (.region k10_r19) (.cond (Operand.tmp 51) (.seq (.region k10_r20) .ret) .skip))))) (.seq (.region k10_r21) (.cond (Operand.tmp 52) (.seq k10_r22 (.cond (Operand.tmp 63) (.seq (.region k10_r23) .ret) .skip)) .skip)))))))) (.seq k10_r24 (.cond (Operand.tmp 95) (.seq (.region k10_r25) .ret) .skip))))) (.region k10_r26)))) e σ Q := propext ⟨fun h => h, fun h => h⟩
def k10_r27 : List COp := [
  ⟨some 11, Op.assign (Operand.const (Value.pointer .none)), none, true⟩]
theorem k10_r27_e {P : Program} {pr : Prim} {N : Nat} {e : Nat → V} {σ : St} {Q : VX → (Nat → V) → St → Prop} : Eo P pr N k10_r27 e σ Q = Eo P pr N [
  ⟨some 11, Op.assign (Operand.const (Value.pointer .none)), none, true⟩] e σ Q := propext ⟨fun h => h, fun h => h⟩
def k10_r28 : List COp := [
  ⟨some 97, Op.move (Operand.tmp 11), none, true⟩,
  ⟨some 98, Op.call { callee := Callee.value (Operand.func 22), args := #[Operand.tmp 97], argTypes := #[40] }, none, true⟩,
  ⟨some 99, Op.binOp BinOp.eql 3 (Operand.tmp 98) (Operand.const (Value.int IntKind.i64 0)) 3, none, true⟩,
  ⟨some 100, Op.move (Operand.tmp 99), none, true⟩,
  ⟨some 101, Op.move (Operand.tmp 11), some (100, true), true⟩,
  ⟨some 102, Op.call { callee := Callee.value (Operand.func 25), args := #[Operand.tmp 101], argTypes := #[40] }, some (100, true), true⟩,
  ⟨some 103, Op.binOp BinOp.eql 5 (Operand.tmp 102) (Operand.const (Value.int IntKind.u8 0)) 5, some (100, true), true⟩,
  ⟨some 104, Op.pick (Operand.tmp 100) (Operand.tmp 103) (Operand.const (Value.bool false)), none, true⟩,
  ⟨some 105, Op.move (Operand.tmp 104), none, true⟩,
  ⟨some 106, Op.move (Operand.tmp 11), some (105, true), true⟩,
  ⟨some 107, Op.call { callee := Callee.value (Operand.func 20), args := #[Operand.tmp 106, Operand.const (Value.int IntKind.i64 1)], argTypes := #[40, 3] }, some (105, true), true⟩,
  ⟨some 108, Op.call { callee := Callee.builtin Builtin.len, args := #[Operand.tmp 107], argTypes := #[22] }, some (105, true), true⟩,
  ⟨some 109, Op.binOp BinOp.eql 3 (Operand.tmp 108) (Operand.const (Value.int IntKind.i64 0)) 3, some (105, true), true⟩,
  ⟨some 110, Op.pick (Operand.tmp 105) (Operand.tmp 109) (Operand.const (Value.bool false)), none, true⟩,
  ⟨some 111, Op.move (Operand.tmp 110), none, true⟩,
  ⟨some 112, Op.move (Operand.tmp 11), some (111, true), true⟩,
  ⟨some 113, Op.call { callee := Callee.value (Operand.func 26), args := #[Operand.tmp 112], argTypes := #[40] }, some (111, true), true⟩,
  ⟨some 114, Op.binOp BinOp.eql 3 (Operand.tmp 113) (Operand.const (Value.int IntKind.i64 0)) 3, some (111, true), true⟩,
  ⟨some 115, Op.pick (Operand.tmp 111) (Operand.tmp 114) (Operand.const (Value.bool false)), none, true⟩,
  ⟨some 116, Op.move (Operand.tmp 115), none, true⟩,
  ⟨some 117, Op.move (Operand.tmp 11), some (116, true), true⟩,
  ⟨some 118, Op.call { callee := Callee.value (Operand.func 28), args := #[Operand.tmp 117], argTypes := #[40] }, some (116, true), true⟩,
  ⟨some 119, Op.unOp UnOp.not 4 (Operand.tmp 118), some (116, true), true⟩,
  ⟨some 120, Op.pick (Operand.tmp 116) (Operand.tmp 119) (Operand.const (Value.bool false)), none, true⟩,
  ⟨some 121, Op.move (Operand.tmp 120), none, true⟩,
  ⟨some 122, Op.move (Operand.tmp 11), some (121, true), true⟩,
  ⟨some 123, Op.call { callee := Callee.value (Operand.func 21), args := #[Operand.tmp 122], argTypes := #[40] }, some (121, true), true⟩,
  ⟨some 124, Op.unOp UnOp.not 4 (Operand.tmp 123), some (121, true), true⟩,
  ⟨some 125, Op.pick (Operand.tmp 121) (Operand.tmp 124) (Operand.const (Value.bool false)), none, true⟩,
  ⟨some 4, Op.assign (Operand.tmp 125), none, true⟩]
theorem k10_r28_e {P : Program} {pr : Prim} {N : Nat} {e : Nat → V} {σ : St} {Q : VX → (Nat → V) → St → Prop} : Eo P pr N k10_r28 e σ Q = Eo P pr N [
  ⟨some 97, Op.move (Operand.tmp 11), none, true⟩,
  ⟨some 98, Op.call { callee := Callee.value (Operand.func 22), args := #[Operand.tmp 97], argTypes := #[40] }, none, true⟩,
  ⟨some 99, Op.binOp BinOp.eql 3 (Operand.tmp 98) (Operand.const (Value.int IntKind.i64 0)) 3, none, true⟩,
  ⟨some 100, Op.move (Operand.tmp 99), none, true⟩,
  ⟨some 101, Op.move (Operand.tmp 11), some (100, true), true⟩,
  ⟨some 102, Op.call { callee := Callee.value (Operand.func 25), args := #[Operand.tmp 101], argTypes := #[40] }, some (100, true), true⟩,
  ⟨some 103, Op.binOp BinOp.eql 5 (Operand.tmp 102) (Operand.const (Value.int IntKind.u8 0)) 5, some (100, true), true⟩,
  ⟨some 104, Op.pick (Operand.tmp 100) (Operand.tmp 103) (Operand.const (Value.bool false)), none, true⟩,
  ⟨some 105, Op.move (Operand.tmp 104), none, true⟩,
  ⟨some 106, Op.move (Operand.tmp 11), some (105, true), true⟩,
  ⟨some 107, Op.call { callee := Callee.value (Operand.func 20), args := #[Operand.tmp 106, Operand.const (Value.int IntKind.i64 1)], argTypes := #[40, 3] }, some (105, true), true⟩,
  ⟨some 108, Op.call { callee := Callee.builtin Builtin.len, args := #[Operand.tmp 107], argTypes := #[22] }, some (105, true), true⟩,
  ⟨some 109, Op.binOp BinOp.eql 3 (Operand.tmp 108) (Operand.const (Value.int IntKind.i64 0)) 3, some (105, true), true⟩,
  ⟨some 110, Op.pick (Operand.tmp 105) (Operand.tmp 109) (Operand.const (Value.bool false)), none, true⟩,
  ⟨some 111, Op.move (Operand.tmp 110), none, true⟩,
  ⟨some 112, Op.move (Operand.tmp 11), some (111, true), true⟩,
  ⟨some 113, Op.call { callee := Callee.value (Operand.func 26), args := #[Operand.tmp 112], argTypes := #[40] }, some (111, true), true⟩,
  ⟨some 114, Op.binOp BinOp.eql 3 (Operand.tmp 113) (Operand.const (Value.int IntKind.i64 0)) 3, some (111, true), true⟩,
  ⟨some 115, Op.pick (Operand.tmp 111) (Operand.tmp 114) (Operand.const (Value.bool false)), none, true⟩,
  ⟨some 116, Op.move (Operand.tmp 115), none, true⟩,
  ⟨some 117, Op.move (Operand.tmp 11), some (116, true), true⟩,
  ⟨some 118, Op.call { callee := Callee.value (Operand.func 28), args := #[Operand.tmp 117], argTypes := #[40] }, some (116, true), true⟩,
  ⟨some 119, Op.unOp UnOp.not 4 (Operand.tmp 118), some (116, true), true⟩,
  ⟨some 120, Op.pick (Operand.tmp 116) (Operand.tmp 119) (Operand.const (Value.bool false)), none, true⟩,
  ⟨some 121, Op.move (Operand.tmp 120), none, true⟩,
  ⟨some 122, Op.move (Operand.tmp 11), some (121, true), true⟩,
  ⟨some 123, Op.call { callee := Callee.value (Operand.func 21), args := #[Operand.tmp 122], argTypes := #[40] }, some (121, true), true⟩,
  ⟨some 124, Op.unOp UnOp.not 4 (Operand.tmp 123), some (121, true), true⟩,
  ⟨some 125, Op.pick (Operand.tmp 121) (Operand.tmp 124) (Operand.const (Value.bool false)), none, true⟩,
  ⟨some 4, Op.assign (Operand.tmp 125), none, true⟩] e σ Q := propext ⟨fun h => h, fun h => h⟩
def k10 : CC := (.seq (.region k10_r0) (.seq (.seq (.region k10_r1) (.cond (Operand.tmp 13) (.seq (.region k10_r2) .ret) .skip)) (.seq (.region k10_r3) (.seq (.seq (.region k10_r4) (.cond (Operand.tmp 17) (.seq (.region k10_r5) .ret) .skip)) (.seq (.region k10_r6) (.seq (.seq (.region k10_r7) (.block 0 (.loop k10_l0))) (.seq (.region k10_r27) (.seq (.region k10_r28) .ret))))))))
theorem k10_e {P : Program} {pr : Prim} {N : Nat} {e : Nat → V} {σ : St} {Q : VX → (Nat → V) → St → Prop} : Ev P pr N k10 e σ Q = Ev P pr N (.seq (.region k10_r0) (.seq (.seq (.region k10_r1) (.cond (Operand.tmp 13) (.seq (.region k10_r2) .ret) .skip)) (.seq (.region k10_r3) (.seq (.seq (.region k10_r4) (.cond (Operand.tmp 17) (.seq (.region k10_r5) .ret) .skip)) (.seq (.region k10_r6) (.seq (.seq (.region k10_r7) (.block 0 (.loop k10_l0))) (.seq (.region k10_r27) (.seq (.region k10_r28) .ret)))))))) e σ Q := propext ⟨fun h => h, fun h => h⟩
/-- quern/quernlaw01.PackReads -/
theorem k10_is : FnIs Try.prog noPrim 10 126 [ResultVar.tmp 4] k10 := FnIs.of_fn Try.func10 (by kernel_rfl)
def k11_r0 : List COp := [
  ⟨some 0, Op.assign (Operand.const (Value.bool false)), none, true⟩]
theorem k11_r0_e {P : Program} {pr : Prim} {N : Nat} {e : Nat → V} {σ : St} {Q : VX → (Nat → V) → St → Prop} : Eo P pr N k11_r0 e σ Q = Eo P pr N [
  ⟨some 0, Op.assign (Operand.const (Value.bool false)), none, true⟩] e σ Q := propext ⟨fun h => h, fun h => h⟩
def k11_r1 : List COp := [
  ⟨some 4, Op.buildSlice 22 3 #[(0, Operand.const (Value.int IntKind.u8 172)), (1, Operand.const (Value.int IntKind.u8 2)), (2, Operand.const (Value.int IntKind.u8 7))], none, true⟩,
  ⟨some 5, Op.call { callee := Callee.value (Operand.func 12), args := #[Operand.tmp 4], argTypes := #[22] }, none, true⟩,
  ⟨some 3, Op.move (Operand.tmp 5), none, true⟩,
  ⟨some 6, Op.extract (Operand.tmp 3) 0, none, true⟩,
  ⟨some 7, Op.extract (Operand.tmp 3) 1, none, true⟩,
  ⟨some 1, Op.assign (Operand.tmp 6), none, true⟩,
  ⟨some 2, Op.assign (Operand.tmp 7), none, true⟩]
theorem k11_r1_e {P : Program} {pr : Prim} {N : Nat} {e : Nat → V} {σ : St} {Q : VX → (Nat → V) → St → Prop} : Eo P pr N k11_r1 e σ Q = Eo P pr N [
  ⟨some 4, Op.buildSlice 22 3 #[(0, Operand.const (Value.int IntKind.u8 172)), (1, Operand.const (Value.int IntKind.u8 2)), (2, Operand.const (Value.int IntKind.u8 7))], none, true⟩,
  ⟨some 5, Op.call { callee := Callee.value (Operand.func 12), args := #[Operand.tmp 4], argTypes := #[22] }, none, true⟩,
  ⟨some 3, Op.move (Operand.tmp 5), none, true⟩,
  ⟨some 6, Op.extract (Operand.tmp 3) 0, none, true⟩,
  ⟨some 7, Op.extract (Operand.tmp 3) 1, none, true⟩,
  ⟨some 1, Op.assign (Operand.tmp 6), none, true⟩,
  ⟨some 2, Op.assign (Operand.tmp 7), none, true⟩] e σ Q := propext ⟨fun h => h, fun h => h⟩
def k11_r2 : List COp := [
  ⟨some 8, Op.move (Operand.tmp 1), none, true⟩,
  ⟨some 9, Op.binOp BinOp.eql 3 (Operand.tmp 8) (Operand.const (Value.int IntKind.i64 300)) 3, none, true⟩,
  ⟨some 10, Op.move (Operand.tmp 9), none, true⟩,
  ⟨some 11, Op.move (Operand.tmp 2), some (10, true), true⟩,
  ⟨some 12, Op.binOp BinOp.eql 3 (Operand.tmp 11) (Operand.const (Value.int IntKind.i64 2)) 3, some (10, true), true⟩,
  ⟨some 13, Op.pick (Operand.tmp 10) (Operand.tmp 12) (Operand.const (Value.bool false)), none, true⟩,
  ⟨some 14, Op.move (Operand.tmp 13), none, true⟩,
  ⟨some 15, Op.buildSlice 30 4 #[(0, Operand.const (Value.int IntKind.i64 0)), (1, Operand.const (Value.int IntKind.i64 127)), (2, Operand.const (Value.int IntKind.i64 128)), (3, Operand.const (Value.int IntKind.i64 300))], some (14, true), true⟩,
  ⟨some 16, Op.call { callee := Callee.value (Operand.func 14), args := #[Operand.const (Value.slice .none 0 0), Operand.tmp 15], argTypes := #[22, 30] }, some (14, true), true⟩,
  ⟨some 17, Op.buildSlice 22 6 #[(0, Operand.const (Value.int IntKind.u8 0)), (1, Operand.const (Value.int IntKind.u8 127)), (2, Operand.const (Value.int IntKind.u8 128)), (3, Operand.const (Value.int IntKind.u8 1)), (4, Operand.const (Value.int IntKind.u8 172)), (5, Operand.const (Value.int IntKind.u8 2))], some (14, true), true⟩,
  ⟨some 18, Op.call { callee := Callee.value (Operand.func 15), args := #[Operand.tmp 16, Operand.tmp 17], argTypes := #[22, 22] }, some (14, true), true⟩,
  ⟨some 19, Op.pick (Operand.tmp 14) (Operand.tmp 18) (Operand.const (Value.bool false)), none, true⟩,
  ⟨some 0, Op.assign (Operand.tmp 19), none, true⟩]
theorem k11_r2_e {P : Program} {pr : Prim} {N : Nat} {e : Nat → V} {σ : St} {Q : VX → (Nat → V) → St → Prop} : Eo P pr N k11_r2 e σ Q = Eo P pr N [
  ⟨some 8, Op.move (Operand.tmp 1), none, true⟩,
  ⟨some 9, Op.binOp BinOp.eql 3 (Operand.tmp 8) (Operand.const (Value.int IntKind.i64 300)) 3, none, true⟩,
  ⟨some 10, Op.move (Operand.tmp 9), none, true⟩,
  ⟨some 11, Op.move (Operand.tmp 2), some (10, true), true⟩,
  ⟨some 12, Op.binOp BinOp.eql 3 (Operand.tmp 11) (Operand.const (Value.int IntKind.i64 2)) 3, some (10, true), true⟩,
  ⟨some 13, Op.pick (Operand.tmp 10) (Operand.tmp 12) (Operand.const (Value.bool false)), none, true⟩,
  ⟨some 14, Op.move (Operand.tmp 13), none, true⟩,
  ⟨some 15, Op.buildSlice 30 4 #[(0, Operand.const (Value.int IntKind.i64 0)), (1, Operand.const (Value.int IntKind.i64 127)), (2, Operand.const (Value.int IntKind.i64 128)), (3, Operand.const (Value.int IntKind.i64 300))], some (14, true), true⟩,
  ⟨some 16, Op.call { callee := Callee.value (Operand.func 14), args := #[Operand.const (Value.slice .none 0 0), Operand.tmp 15], argTypes := #[22, 30] }, some (14, true), true⟩,
  ⟨some 17, Op.buildSlice 22 6 #[(0, Operand.const (Value.int IntKind.u8 0)), (1, Operand.const (Value.int IntKind.u8 127)), (2, Operand.const (Value.int IntKind.u8 128)), (3, Operand.const (Value.int IntKind.u8 1)), (4, Operand.const (Value.int IntKind.u8 172)), (5, Operand.const (Value.int IntKind.u8 2))], some (14, true), true⟩,
  ⟨some 18, Op.call { callee := Callee.value (Operand.func 15), args := #[Operand.tmp 16, Operand.tmp 17], argTypes := #[22, 22] }, some (14, true), true⟩,
  ⟨some 19, Op.pick (Operand.tmp 14) (Operand.tmp 18) (Operand.const (Value.bool false)), none, true⟩,
  ⟨some 0, Op.assign (Operand.tmp 19), none, true⟩] e σ Q := propext ⟨fun h => h, fun h => h⟩
def k11 : CC := (.seq (.region k11_r0) (.seq (.region k11_r1) (.seq (.region k11_r2) .ret)))
theorem k11_e {P : Program} {pr : Prim} {N : Nat} {e : Nat → V} {σ : St} {Q : VX → (Nat → V) → St → Prop} : Ev P pr N k11 e σ Q = Ev P pr N (.seq (.region k11_r0) (.seq (.region k11_r1) (.seq (.region k11_r2) .ret))) e σ Q := propext ⟨fun h => h, fun h => h⟩
/-- quern/quernlaw01.wakes -/
theorem k11_is : FnIs Try.prog noPrim 11 20 [ResultVar.tmp 0] k11 := FnIs.of_fn Try.func11 (by kernel_rfl)
def k12_r0 : List COp := [
  ⟨some 2, Op.assign (Operand.const (Value.int IntKind.i64 0)), none, true⟩,
  ⟨some 3, Op.assign (Operand.const (Value.int IntKind.i64 0)), none, true⟩]
theorem k12_r0_e {P : Program} {pr : Prim} {N : Nat} {e : Nat → V} {σ : St} {Q : VX → (Nat → V) → St → Prop} : Eo P pr N k12_r0 e σ Q = Eo P pr N [
  ⟨some 2, Op.assign (Operand.const (Value.int IntKind.i64 0)), none, true⟩,
  ⟨some 3, Op.assign (Operand.const (Value.int IntKind.i64 0)), none, true⟩] e σ Q := propext ⟨fun h => h, fun h => h⟩
def k12_r1 : List COp := [
  ⟨some 4, Op.assign (Operand.const (Value.int IntKind.i64 0)), none, true⟩]
theorem k12_r1_e {P : Program} {pr : Prim} {N : Nat} {e : Nat → V} {σ : St} {Q : VX → (Nat → V) → St → Prop} : Eo P pr N k12_r1 e σ Q = Eo P pr N [
  ⟨some 4, Op.assign (Operand.const (Value.int IntKind.i64 0)), none, true⟩] e σ Q := propext ⟨fun h => h, fun h => h⟩
def k12_r2 : List COp := [
  ⟨some 5, Op.assign (Operand.const (Value.int IntKind.i64 0)), none, true⟩]
theorem k12_r2_e {P : Program} {pr : Prim} {N : Nat} {e : Nat → V} {σ : St} {Q : VX → (Nat → V) → St → Prop} : Eo P pr N k12_r2 e σ Q = Eo P pr N [
  ⟨some 5, Op.assign (Operand.const (Value.int IntKind.i64 0)), none, true⟩] e σ Q := propext ⟨fun h => h, fun h => h⟩
def k12_r3 : List COp := [
  ⟨some 6, Op.move (Operand.tmp 5), none, true⟩,
  ⟨some 7, Op.move (Operand.tmp 0), none, true⟩,
  ⟨some 8, Op.call { callee := Callee.builtin Builtin.len, args := #[Operand.tmp 7], argTypes := #[22] }, none, true⟩,
  ⟨some 9, Op.binOp BinOp.lss 3 (Operand.tmp 6) (Operand.tmp 8) 3, none, true⟩,
  ⟨some 10, Op.move (Operand.tmp 9), none, true⟩,
  ⟨some 11, Op.move (Operand.tmp 5), some (10, true), true⟩,
  ⟨some 12, Op.binOp BinOp.lss 3 (Operand.tmp 11) (Operand.const (Value.int IntKind.i64 9)) 3, some (10, true), true⟩,
  ⟨some 13, Op.pick (Operand.tmp 10) (Operand.tmp 12) (Operand.const (Value.bool false)), none, true⟩]
theorem k12_r3_e {P : Program} {pr : Prim} {N : Nat} {e : Nat → V} {σ : St} {Q : VX → (Nat → V) → St → Prop} : Eo P pr N k12_r3 e σ Q = Eo P pr N [
  ⟨some 6, Op.move (Operand.tmp 5), none, true⟩,
  ⟨some 7, Op.move (Operand.tmp 0), none, true⟩,
  ⟨some 8, Op.call { callee := Callee.builtin Builtin.len, args := #[Operand.tmp 7], argTypes := #[22] }, none, true⟩,
  ⟨some 9, Op.binOp BinOp.lss 3 (Operand.tmp 6) (Operand.tmp 8) 3, none, true⟩,
  ⟨some 10, Op.move (Operand.tmp 9), none, true⟩,
  ⟨some 11, Op.move (Operand.tmp 5), some (10, true), true⟩,
  ⟨some 12, Op.binOp BinOp.lss 3 (Operand.tmp 11) (Operand.const (Value.int IntKind.i64 9)) 3, some (10, true), true⟩,
  ⟨some 13, Op.pick (Operand.tmp 10) (Operand.tmp 12) (Operand.const (Value.bool false)), none, true⟩] e σ Q := propext ⟨fun h => h, fun h => h⟩
def k12_r5 : List COp := [
  ⟨some 16, Op.move (Operand.tmp 4), none, true⟩,
  ⟨some 17, Op.move (Operand.tmp 0), none, true⟩,
  ⟨some 18, Op.move (Operand.tmp 5), none, true⟩,
  ⟨some 19, Op.indexAddr 22 (Operand.tmp 17) (Operand.tmp 18), none, true⟩,
  ⟨some 20, Op.load 5 (Operand.tmp 19), none, true⟩,
  ⟨some 21, Op.binOp BinOp.and 5 (Operand.tmp 20) (Operand.const (Value.int IntKind.u8 127)) 5, none, true⟩,
  ⟨some 22, Op.convert 5 3 (Operand.tmp 21), none, true⟩,
  ⟨some 23, Op.move (Operand.tmp 5), none, true⟩,
  ⟨some 24, Op.binOp BinOp.mul 3 (Operand.const (Value.int IntKind.i64 7)) (Operand.tmp 23) 3, none, true⟩,
  ⟨some 25, Op.binOp BinOp.shl 3 (Operand.tmp 22) (Operand.tmp 24) 3, none, true⟩,
  ⟨some 26, Op.binOp BinOp.or 3 (Operand.tmp 16) (Operand.tmp 25) 3, none, true⟩,
  ⟨some 4, Op.assign (Operand.tmp 26), none, true⟩]
theorem k12_r5_e {P : Program} {pr : Prim} {N : Nat} {e : Nat → V} {σ : St} {Q : VX → (Nat → V) → St → Prop} : Eo P pr N k12_r5 e σ Q = Eo P pr N [
  ⟨some 16, Op.move (Operand.tmp 4), none, true⟩,
  ⟨some 17, Op.move (Operand.tmp 0), none, true⟩,
  ⟨some 18, Op.move (Operand.tmp 5), none, true⟩,
  ⟨some 19, Op.indexAddr 22 (Operand.tmp 17) (Operand.tmp 18), none, true⟩,
  ⟨some 20, Op.load 5 (Operand.tmp 19), none, true⟩,
  ⟨some 21, Op.binOp BinOp.and 5 (Operand.tmp 20) (Operand.const (Value.int IntKind.u8 127)) 5, none, true⟩,
  ⟨some 22, Op.convert 5 3 (Operand.tmp 21), none, true⟩,
  ⟨some 23, Op.move (Operand.tmp 5), none, true⟩,
  ⟨some 24, Op.binOp BinOp.mul 3 (Operand.const (Value.int IntKind.i64 7)) (Operand.tmp 23) 3, none, true⟩,
  ⟨some 25, Op.binOp BinOp.shl 3 (Operand.tmp 22) (Operand.tmp 24) 3, none, true⟩,
  ⟨some 26, Op.binOp BinOp.or 3 (Operand.tmp 16) (Operand.tmp 25) 3, none, true⟩,
  ⟨some 4, Op.assign (Operand.tmp 26), none, true⟩] e σ Q := propext ⟨fun h => h, fun h => h⟩
def k12_r6 : List COp := [
  ⟨some 27, Op.move (Operand.tmp 0), none, true⟩,
  ⟨some 28, Op.move (Operand.tmp 5), none, true⟩,
  ⟨some 29, Op.indexAddr 22 (Operand.tmp 27) (Operand.tmp 28), none, true⟩,
  ⟨some 30, Op.load 5 (Operand.tmp 29), none, true⟩,
  ⟨some 31, Op.binOp BinOp.gtr 5 (Operand.tmp 30) (Operand.const (Value.int IntKind.u8 127)) 5, none, true⟩]
theorem k12_r6_e {P : Program} {pr : Prim} {N : Nat} {e : Nat → V} {σ : St} {Q : VX → (Nat → V) → St → Prop} : Eo P pr N k12_r6 e σ Q = Eo P pr N [
  ⟨some 27, Op.move (Operand.tmp 0), none, true⟩,
  ⟨some 28, Op.move (Operand.tmp 5), none, true⟩,
  ⟨some 29, Op.indexAddr 22 (Operand.tmp 27) (Operand.tmp 28), none, true⟩,
  ⟨some 30, Op.load 5 (Operand.tmp 29), none, true⟩,
  ⟨some 31, Op.binOp BinOp.gtr 5 (Operand.tmp 30) (Operand.const (Value.int IntKind.u8 127)) 5, none, true⟩] e σ Q := propext ⟨fun h => h, fun h => h⟩
def k12_r7 : List COp := [
  ⟨some 32, Op.move (Operand.tmp 0), none, true⟩,
  ⟨some 33, Op.move (Operand.tmp 5), none, true⟩,
  ⟨some 34, Op.indexAddr 22 (Operand.tmp 32) (Operand.tmp 33), none, true⟩,
  ⟨some 35, Op.load 5 (Operand.tmp 34), none, true⟩,
  ⟨some 36, Op.binOp BinOp.eql 5 (Operand.tmp 35) (Operand.const (Value.int IntKind.u8 0)) 5, none, true⟩,
  ⟨some 37, Op.move (Operand.tmp 36), none, true⟩,
  ⟨some 38, Op.move (Operand.tmp 5), some (37, true), true⟩,
  ⟨some 39, Op.binOp BinOp.gtr 3 (Operand.tmp 38) (Operand.const (Value.int IntKind.i64 0)) 3, some (37, true), true⟩,
  ⟨some 40, Op.pick (Operand.tmp 37) (Operand.tmp 39) (Operand.const (Value.bool false)), none, true⟩]
theorem k12_r7_e {P : Program} {pr : Prim} {N : Nat} {e : Nat → V} {σ : St} {Q : VX → (Nat → V) → St → Prop} : Eo P pr N k12_r7 e σ Q = Eo P pr N [
  ⟨some 32, Op.move (Operand.tmp 0), none, true⟩,
  ⟨some 33, Op.move (Operand.tmp 5), none, true⟩,
  ⟨some 34, Op.indexAddr 22 (Operand.tmp 32) (Operand.tmp 33), none, true⟩,
  ⟨some 35, Op.load 5 (Operand.tmp 34), none, true⟩,
  ⟨some 36, Op.binOp BinOp.eql 5 (Operand.tmp 35) (Operand.const (Value.int IntKind.u8 0)) 5, none, true⟩,
  ⟨some 37, Op.move (Operand.tmp 36), none, true⟩,
  ⟨some 38, Op.move (Operand.tmp 5), some (37, true), true⟩,
  ⟨some 39, Op.binOp BinOp.gtr 3 (Operand.tmp 38) (Operand.const (Value.int IntKind.i64 0)) 3, some (37, true), true⟩,
  ⟨some 40, Op.pick (Operand.tmp 37) (Operand.tmp 39) (Operand.const (Value.bool false)), none, true⟩] e σ Q := propext ⟨fun h => h, fun h => h⟩
def k12_r8 : List COp := [
  ⟨some 41, Op.move (Operand.tmp 4), none, true⟩,
  ⟨some 42, Op.move (Operand.tmp 5), none, true⟩,
  ⟨some 43, Op.binOp BinOp.add 3 (Operand.tmp 42) (Operand.const (Value.int IntKind.i64 1)) 3, none, true⟩,
  ⟨some 2, Op.assign (Operand.tmp 41), none, true⟩,
  ⟨some 3, Op.assign (Operand.tmp 43), none, true⟩]
theorem k12_r8_e {P : Program} {pr : Prim} {N : Nat} {e : Nat → V} {σ : St} {Q : VX → (Nat → V) → St → Prop} : Eo P pr N k12_r8 e σ Q = Eo P pr N [
  ⟨some 41, Op.move (Operand.tmp 4), none, true⟩,
  ⟨some 42, Op.move (Operand.tmp 5), none, true⟩,
  ⟨some 43, Op.binOp BinOp.add 3 (Operand.tmp 42) (Operand.const (Value.int IntKind.i64 1)) 3, none, true⟩,
  ⟨some 2, Op.assign (Operand.tmp 41), none, true⟩,
  ⟨some 3, Op.assign (Operand.tmp 43), none, true⟩] e σ Q := propext ⟨fun h => h, fun h => h⟩
def k12_r4 : List COp := [
  ⟨some 14, Op.move (Operand.tmp 5), none, true⟩,
  ⟨some 15, Op.binOp BinOp.add 3 (Operand.tmp 14) (Operand.const (Value.int IntKind.i64 1)) 3, none, true⟩,
  ⟨some 5, Op.assign (Operand.tmp 15), none, true⟩]
theorem k12_r4_e {P : Program} {pr : Prim} {N : Nat} {e : Nat → V} {σ : St} {Q : VX → (Nat → V) → St → Prop} : Eo P pr N k12_r4 e σ Q = Eo P pr N [
  ⟨some 14, Op.move (Operand.tmp 5), none, true⟩,
  ⟨some 15, Op.binOp BinOp.add 3 (Operand.tmp 14) (Operand.const (Value.int IntKind.i64 1)) 3, none, true⟩,
  ⟨some 5, Op.assign (Operand.tmp 15), none, true⟩] e σ Q := propext ⟨fun h => h, fun h => h⟩
def k12_l0 : CC := (.seq (.seq (.region k12_r3) (.cond (Operand.tmp 13) .skip (.exit 0))) (.seq (.block 1 (.seq (.region k12_r5) (.seq (.seq (.region k12_r6) (.cond (Operand.tmp 31) (.exit 1) .skip)) (.seq (.seq (.region k12_r7) (.cond (Operand.tmp 40) (.exit 0) .skip)) (.seq (.region k12_r8) .ret))))) (.region k12_r4)))
theorem k12_l0_e {P : Program} {pr : Prim} {N : Nat} {e : Nat → V} {σ : St} {Q : VX → (Nat → V) → St → Prop} : Ev P pr N k12_l0 e σ Q = Ev P pr N (.seq (.seq (.region k12_r3) (.cond (Operand.tmp 13) .skip (.exit 0))) (.seq (.block 1 (.seq (.region k12_r5) (.seq (.seq (.region k12_r6) (.cond (Operand.tmp 31) (.exit 1) .skip)) (.seq (.seq (.region k12_r7) (.cond (Operand.tmp 40) (.exit 0) .skip)) (.seq (.region k12_r8) .ret))))) (.region k12_r4))) e σ Q := propext ⟨fun h => h, fun h => h⟩
def k12_r9 : List COp := [
  ⟨some 2, Op.assign (Operand.const (Value.int IntKind.i64 0)), none, true⟩,
  ⟨some 3, Op.assign (Operand.const (Value.int IntKind.i64 0)), none, true⟩]
theorem k12_r9_e {P : Program} {pr : Prim} {N : Nat} {e : Nat → V} {σ : St} {Q : VX → (Nat → V) → St → Prop} : Eo P pr N k12_r9 e σ Q = Eo P pr N [
  ⟨some 2, Op.assign (Operand.const (Value.int IntKind.i64 0)), none, true⟩,
  ⟨some 3, Op.assign (Operand.const (Value.int IntKind.i64 0)), none, true⟩] e σ Q := propext ⟨fun h => h, fun h => h⟩
def k12 : CC := (.seq (.region k12_r0) (.seq (.region k12_r1) (.seq (.seq (.region k12_r2) (.block 0 (.loop k12_l0))) (.seq (.region k12_r9) .ret))))
theorem k12_e {P : Program} {pr : Prim} {N : Nat} {e : Nat → V} {σ : St} {Q : VX → (Nat → V) → St → Prop} : Ev P pr N k12 e σ Q = Ev P pr N (.seq (.region k12_r0) (.seq (.region k12_r1) (.seq (.seq (.region k12_r2) (.block 0 (.loop k12_l0))) (.seq (.region k12_r9) .ret)))) e σ Q := propext ⟨fun h => h, fun h => h⟩
/-- quern/pack.Take -/
theorem k12_is : FnIs Try.prog noPrim 12 44 [ResultVar.tmp 2, ResultVar.tmp 3] k12 := FnIs.of_fn Try.func12 (by kernel_rfl)
def k13_r0 : List COp := [
  ⟨some 2, Op.assign (Operand.const (Value.int IntKind.i64 0)), none, true⟩,
  ⟨some 3, Op.assign (Operand.const (Value.int IntKind.i64 0)), none, true⟩]
theorem k13_r0_e {P : Program} {pr : Prim} {N : Nat} {e : Nat → V} {σ : St} {Q : VX → (Nat → V) → St → Prop} : Eo P pr N k13_r0 e σ Q = Eo P pr N [
  ⟨some 2, Op.assign (Operand.const (Value.int IntKind.i64 0)), none, true⟩,
  ⟨some 3, Op.assign (Operand.const (Value.int IntKind.i64 0)), none, true⟩] e σ Q := propext ⟨fun h => h, fun h => h⟩
def k13_r1 : List COp := [
  ⟨some 4, Op.assign (Operand.const (Value.int IntKind.i64 0)), none, true⟩]
theorem k13_r1_e {P : Program} {pr : Prim} {N : Nat} {e : Nat → V} {σ : St} {Q : VX → (Nat → V) → St → Prop} : Eo P pr N k13_r1 e σ Q = Eo P pr N [
  ⟨some 4, Op.assign (Operand.const (Value.int IntKind.i64 0)), none, true⟩] e σ Q := propext ⟨fun h => h, fun h => h⟩
def k13_r2 : List COp := [
  ⟨some 7, Op.move (Operand.tmp 4), none, true⟩,
  ⟨some 8, Op.move (Operand.tmp 0), none, true⟩,
  ⟨some 9, Op.call { callee := Callee.builtin Builtin.len, args := #[Operand.tmp 8], argTypes := #[22] }, none, true⟩,
  ⟨some 10, Op.binOp BinOp.lss 3 (Operand.tmp 7) (Operand.tmp 9) 3, none, true⟩,
  ⟨some 11, Op.move (Operand.tmp 10), none, true⟩,
  ⟨some 12, Op.move (Operand.tmp 0), some (11, true), true⟩,
  ⟨some 13, Op.move (Operand.tmp 4), some (11, true), true⟩,
  ⟨some 14, Op.indexAddr 22 (Operand.tmp 12) (Operand.tmp 13), some (11, true), true⟩,
  ⟨some 15, Op.load 5 (Operand.tmp 14), some (11, true), true⟩,
  ⟨some 16, Op.binOp BinOp.geq 5 (Operand.tmp 15) (Operand.const (Value.int IntKind.u8 128)) 5, some (11, true), true⟩,
  ⟨some 17, Op.pick (Operand.tmp 11) (Operand.tmp 16) (Operand.const (Value.bool false)), none, true⟩]
theorem k13_r2_e {P : Program} {pr : Prim} {N : Nat} {e : Nat → V} {σ : St} {Q : VX → (Nat → V) → St → Prop} : Eo P pr N k13_r2 e σ Q = Eo P pr N [
  ⟨some 7, Op.move (Operand.tmp 4), none, true⟩,
  ⟨some 8, Op.move (Operand.tmp 0), none, true⟩,
  ⟨some 9, Op.call { callee := Callee.builtin Builtin.len, args := #[Operand.tmp 8], argTypes := #[22] }, none, true⟩,
  ⟨some 10, Op.binOp BinOp.lss 3 (Operand.tmp 7) (Operand.tmp 9) 3, none, true⟩,
  ⟨some 11, Op.move (Operand.tmp 10), none, true⟩,
  ⟨some 12, Op.move (Operand.tmp 0), some (11, true), true⟩,
  ⟨some 13, Op.move (Operand.tmp 4), some (11, true), true⟩,
  ⟨some 14, Op.indexAddr 22 (Operand.tmp 12) (Operand.tmp 13), some (11, true), true⟩,
  ⟨some 15, Op.load 5 (Operand.tmp 14), some (11, true), true⟩,
  ⟨some 16, Op.binOp BinOp.geq 5 (Operand.tmp 15) (Operand.const (Value.int IntKind.u8 128)) 5, some (11, true), true⟩,
  ⟨some 17, Op.pick (Operand.tmp 11) (Operand.tmp 16) (Operand.const (Value.bool false)), none, true⟩] e σ Q := propext ⟨fun h => h, fun h => h⟩
def k13_r3 : List COp := [
  ⟨some 18, Op.move (Operand.tmp 4), none, true⟩,
  ⟨some 19, Op.binOp BinOp.add 3 (Operand.tmp 18) (Operand.const (Value.int IntKind.i64 1)) 3, none, true⟩,
  ⟨some 4, Op.assign (Operand.tmp 19), none, true⟩]
theorem k13_r3_e {P : Program} {pr : Prim} {N : Nat} {e : Nat → V} {σ : St} {Q : VX → (Nat → V) → St → Prop} : Eo P pr N k13_r3 e σ Q = Eo P pr N [
  ⟨some 18, Op.move (Operand.tmp 4), none, true⟩,
  ⟨some 19, Op.binOp BinOp.add 3 (Operand.tmp 18) (Operand.const (Value.int IntKind.i64 1)) 3, none, true⟩,
  ⟨some 4, Op.assign (Operand.tmp 19), none, true⟩] e σ Q := propext ⟨fun h => h, fun h => h⟩
def k13_l0 : CC := (.seq (.seq (.region k13_r2) (.cond (Operand.tmp 17) .skip (.exit 0))) (.block 1 (.region k13_r3)))
theorem k13_l0_e {P : Program} {pr : Prim} {N : Nat} {e : Nat → V} {σ : St} {Q : VX → (Nat → V) → St → Prop} : Ev P pr N k13_l0 e σ Q = Ev P pr N (.seq (.seq (.region k13_r2) (.cond (Operand.tmp 17) .skip (.exit 0))) (.block 1 (.region k13_r3))) e σ Q := propext ⟨fun h => h, fun h => h⟩
def k13_r4 : List COp := [
  ⟨some 20, Op.move (Operand.tmp 4), none, true⟩,
  ⟨some 21, Op.move (Operand.tmp 0), none, true⟩,
  ⟨some 22, Op.call { callee := Callee.builtin Builtin.len, args := #[Operand.tmp 21], argTypes := #[22] }, none, true⟩,
  ⟨some 23, Op.binOp BinOp.geq 3 (Operand.tmp 20) (Operand.tmp 22) 3, none, true⟩,
  ⟨some 24, Op.move (Operand.tmp 23), none, true⟩,
  ⟨some 25, Op.move (Operand.tmp 4), some (24, false), true⟩,
  ⟨some 26, Op.binOp BinOp.geq 3 (Operand.tmp 25) (Operand.const (Value.int IntKind.i64 9)) 3, some (24, false), true⟩,
  ⟨some 27, Op.pick (Operand.tmp 24) (Operand.const (Value.bool true)) (Operand.tmp 26), none, true⟩,
  ⟨some 28, Op.move (Operand.tmp 27), none, true⟩,
  ⟨some 29, Op.move (Operand.tmp 4), some (28, false), true⟩,
  ⟨some 30, Op.binOp BinOp.gtr 3 (Operand.tmp 29) (Operand.const (Value.int IntKind.i64 0)) 3, some (28, false), true⟩,
  ⟨some 31, Op.move (Operand.tmp 30), some (28, false), true⟩,
  ⟨some 32, Op.move (Operand.tmp 0), some (31, true), true⟩,
  ⟨some 33, Op.move (Operand.tmp 4), some (31, true), true⟩,
  ⟨some 34, Op.indexAddr 22 (Operand.tmp 32) (Operand.tmp 33), some (31, true), true⟩,
  ⟨some 35, Op.load 5 (Operand.tmp 34), some (31, true), true⟩,
  ⟨some 36, Op.binOp BinOp.eql 5 (Operand.tmp 35) (Operand.const (Value.int IntKind.u8 0)) 5, some (31, true), true⟩,
  ⟨some 37, Op.pick (Operand.tmp 31) (Operand.tmp 36) (Operand.const (Value.bool false)), some (28, false), true⟩,
  ⟨some 38, Op.pick (Operand.tmp 28) (Operand.const (Value.bool true)) (Operand.tmp 37), none, true⟩]
theorem k13_r4_e {P : Program} {pr : Prim} {N : Nat} {e : Nat → V} {σ : St} {Q : VX → (Nat → V) → St → Prop} : Eo P pr N k13_r4 e σ Q = Eo P pr N [
  ⟨some 20, Op.move (Operand.tmp 4), none, true⟩,
  ⟨some 21, Op.move (Operand.tmp 0), none, true⟩,
  ⟨some 22, Op.call { callee := Callee.builtin Builtin.len, args := #[Operand.tmp 21], argTypes := #[22] }, none, true⟩,
  ⟨some 23, Op.binOp BinOp.geq 3 (Operand.tmp 20) (Operand.tmp 22) 3, none, true⟩,
  ⟨some 24, Op.move (Operand.tmp 23), none, true⟩,
  ⟨some 25, Op.move (Operand.tmp 4), some (24, false), true⟩,
  ⟨some 26, Op.binOp BinOp.geq 3 (Operand.tmp 25) (Operand.const (Value.int IntKind.i64 9)) 3, some (24, false), true⟩,
  ⟨some 27, Op.pick (Operand.tmp 24) (Operand.const (Value.bool true)) (Operand.tmp 26), none, true⟩,
  ⟨some 28, Op.move (Operand.tmp 27), none, true⟩,
  ⟨some 29, Op.move (Operand.tmp 4), some (28, false), true⟩,
  ⟨some 30, Op.binOp BinOp.gtr 3 (Operand.tmp 29) (Operand.const (Value.int IntKind.i64 0)) 3, some (28, false), true⟩,
  ⟨some 31, Op.move (Operand.tmp 30), some (28, false), true⟩,
  ⟨some 32, Op.move (Operand.tmp 0), some (31, true), true⟩,
  ⟨some 33, Op.move (Operand.tmp 4), some (31, true), true⟩,
  ⟨some 34, Op.indexAddr 22 (Operand.tmp 32) (Operand.tmp 33), some (31, true), true⟩,
  ⟨some 35, Op.load 5 (Operand.tmp 34), some (31, true), true⟩,
  ⟨some 36, Op.binOp BinOp.eql 5 (Operand.tmp 35) (Operand.const (Value.int IntKind.u8 0)) 5, some (31, true), true⟩,
  ⟨some 37, Op.pick (Operand.tmp 31) (Operand.tmp 36) (Operand.const (Value.bool false)), some (28, false), true⟩,
  ⟨some 38, Op.pick (Operand.tmp 28) (Operand.const (Value.bool true)) (Operand.tmp 37), none, true⟩] e σ Q := propext ⟨fun h => h, fun h => h⟩
def k13_r5 : List COp := [
  ⟨some 2, Op.assign (Operand.const (Value.int IntKind.i64 0)), none, true⟩,
  ⟨some 3, Op.assign (Operand.const (Value.int IntKind.i64 0)), none, true⟩]
theorem k13_r5_e {P : Program} {pr : Prim} {N : Nat} {e : Nat → V} {σ : St} {Q : VX → (Nat → V) → St → Prop} : Eo P pr N k13_r5 e σ Q = Eo P pr N [
  ⟨some 2, Op.assign (Operand.const (Value.int IntKind.i64 0)), none, true⟩,
  ⟨some 3, Op.assign (Operand.const (Value.int IntKind.i64 0)), none, true⟩] e σ Q := propext ⟨fun h => h, fun h => h⟩
def k13_r6 : List COp := [
  ⟨some 5, Op.assign (Operand.const (Value.int IntKind.i64 0)), none, true⟩]
theorem k13_r6_e {P : Program} {pr : Prim} {N : Nat} {e : Nat → V} {σ : St} {Q : VX → (Nat → V) → St → Prop} : Eo P pr N k13_r6 e σ Q = Eo P pr N [
  ⟨some 5, Op.assign (Operand.const (Value.int IntKind.i64 0)), none, true⟩] e σ Q := propext ⟨fun h => h, fun h => h⟩
def k13_r7 : List COp := [
  ⟨some 39, Op.move (Operand.tmp 4), none, true⟩,
  ⟨some 6, Op.assign (Operand.tmp 39), none, true⟩]
theorem k13_r7_e {P : Program} {pr : Prim} {N : Nat} {e : Nat → V} {σ : St} {Q : VX → (Nat → V) → St → Prop} : Eo P pr N k13_r7 e σ Q = Eo P pr N [
  ⟨some 39, Op.move (Operand.tmp 4), none, true⟩,
  ⟨some 6, Op.assign (Operand.tmp 39), none, true⟩] e σ Q := propext ⟨fun h => h, fun h => h⟩
def k13_r8 : List COp := [
  ⟨some 40, Op.move (Operand.tmp 6), none, true⟩,
  ⟨some 41, Op.binOp BinOp.geq 3 (Operand.tmp 40) (Operand.const (Value.int IntKind.i64 0)) 3, none, true⟩]
theorem k13_r8_e {P : Program} {pr : Prim} {N : Nat} {e : Nat → V} {σ : St} {Q : VX → (Nat → V) → St → Prop} : Eo P pr N k13_r8 e σ Q = Eo P pr N [
  ⟨some 40, Op.move (Operand.tmp 6), none, true⟩,
  ⟨some 41, Op.binOp BinOp.geq 3 (Operand.tmp 40) (Operand.const (Value.int IntKind.i64 0)) 3, none, true⟩] e σ Q := propext ⟨fun h => h, fun h => h⟩
def k13_r10 : List COp := [
  ⟨some 44, Op.move (Operand.tmp 5), none, true⟩,
  ⟨some 45, Op.binOp BinOp.mul 3 (Operand.tmp 44) (Operand.const (Value.int IntKind.i64 128)) 3, none, true⟩,
  ⟨some 46, Op.move (Operand.tmp 0), none, true⟩,
  ⟨some 47, Op.move (Operand.tmp 6), none, true⟩,
  ⟨some 48, Op.indexAddr 22 (Operand.tmp 46) (Operand.tmp 47), none, true⟩,
  ⟨some 49, Op.load 5 (Operand.tmp 48), none, true⟩,
  ⟨some 50, Op.convert 5 3 (Operand.tmp 49), none, true⟩,
  ⟨some 51, Op.binOp BinOp.rem 3 (Operand.tmp 50) (Operand.const (Value.int IntKind.i64 128)) 3, none, true⟩,
  ⟨some 52, Op.binOp BinOp.add 3 (Operand.tmp 45) (Operand.tmp 51) 3, none, true⟩,
  ⟨some 5, Op.assign (Operand.tmp 52), none, true⟩]
theorem k13_r10_e {P : Program} {pr : Prim} {N : Nat} {e : Nat → V} {σ : St} {Q : VX → (Nat → V) → St → Prop} : Eo P pr N k13_r10 e σ Q = Eo P pr N [
  ⟨some 44, Op.move (Operand.tmp 5), none, true⟩,
  ⟨some 45, Op.binOp BinOp.mul 3 (Operand.tmp 44) (Operand.const (Value.int IntKind.i64 128)) 3, none, true⟩,
  ⟨some 46, Op.move (Operand.tmp 0), none, true⟩,
  ⟨some 47, Op.move (Operand.tmp 6), none, true⟩,
  ⟨some 48, Op.indexAddr 22 (Operand.tmp 46) (Operand.tmp 47), none, true⟩,
  ⟨some 49, Op.load 5 (Operand.tmp 48), none, true⟩,
  ⟨some 50, Op.convert 5 3 (Operand.tmp 49), none, true⟩,
  ⟨some 51, Op.binOp BinOp.rem 3 (Operand.tmp 50) (Operand.const (Value.int IntKind.i64 128)) 3, none, true⟩,
  ⟨some 52, Op.binOp BinOp.add 3 (Operand.tmp 45) (Operand.tmp 51) 3, none, true⟩,
  ⟨some 5, Op.assign (Operand.tmp 52), none, true⟩] e σ Q := propext ⟨fun h => h, fun h => h⟩
def k13_r9 : List COp := [
  ⟨some 42, Op.move (Operand.tmp 6), none, true⟩,
  ⟨some 43, Op.binOp BinOp.sub 3 (Operand.tmp 42) (Operand.const (Value.int IntKind.i64 1)) 3, none, true⟩,
  ⟨some 6, Op.assign (Operand.tmp 43), none, true⟩]
theorem k13_r9_e {P : Program} {pr : Prim} {N : Nat} {e : Nat → V} {σ : St} {Q : VX → (Nat → V) → St → Prop} : Eo P pr N k13_r9 e σ Q = Eo P pr N [
  ⟨some 42, Op.move (Operand.tmp 6), none, true⟩,
  ⟨some 43, Op.binOp BinOp.sub 3 (Operand.tmp 42) (Operand.const (Value.int IntKind.i64 1)) 3, none, true⟩,
  ⟨some 6, Op.assign (Operand.tmp 43), none, true⟩] e σ Q := propext ⟨fun h => h, fun h => h⟩
def k13_l1 : CC := (.seq (.seq (.region k13_r8) (.cond (Operand.tmp 41) .skip (.exit 2))) (.seq (.block 3 (.region k13_r10)) (.region k13_r9)))
theorem k13_l1_e {P : Program} {pr : Prim} {N : Nat} {e : Nat → V} {σ : St} {Q : VX → (Nat → V) → St → Prop} : Ev P pr N k13_l1 e σ Q = Ev P pr N (.seq (.seq (.region k13_r8) (.cond (Operand.tmp 41) .skip (.exit 2))) (.seq (.block 3 (.region k13_r10)) (.region k13_r9))) e σ Q := propext ⟨fun h => h, fun h => h⟩
def k13_r11 : List COp := [
  ⟨some 53, Op.move (Operand.tmp 5), none, true⟩,
  ⟨some 54, Op.move (Operand.tmp 4), none, true⟩,
  ⟨some 55, Op.binOp BinOp.add 3 (Operand.tmp 54) (Operand.const (Value.int IntKind.i64 1)) 3, none, true⟩,
  ⟨some 2, Op.assign (Operand.tmp 53), none, true⟩,
  ⟨some 3, Op.assign (Operand.tmp 55), none, true⟩]
theorem k13_r11_e {P : Program} {pr : Prim} {N : Nat} {e : Nat → V} {σ : St} {Q : VX → (Nat → V) → St → Prop} : Eo P pr N k13_r11 e σ Q = Eo P pr N [
  ⟨some 53, Op.move (Operand.tmp 5), none, true⟩,
  ⟨some 54, Op.move (Operand.tmp 4), none, true⟩,
  ⟨some 55, Op.binOp BinOp.add 3 (Operand.tmp 54) (Operand.const (Value.int IntKind.i64 1)) 3, none, true⟩,
  ⟨some 2, Op.assign (Operand.tmp 53), none, true⟩,
  ⟨some 3, Op.assign (Operand.tmp 55), none, true⟩] e σ Q := propext ⟨fun h => h, fun h => h⟩
def k13 : CC := (.seq (.region k13_r0) (.seq (.region k13_r1) (.seq (.block 0 (.loop k13_l0)) (.seq (.seq (.region k13_r4) (.cond (Operand.tmp 38) (.seq (.region k13_r5) .ret) .skip)) (.seq (.region k13_r6) (.seq (.seq (.region k13_r7) (.block 2 (.loop k13_l1))) (.seq (.region k13_r11) .ret)))))))
theorem k13_e {P : Program} {pr : Prim} {N : Nat} {e : Nat → V} {σ : St} {Q : VX → (Nat → V) → St → Prop} : Ev P pr N k13 e σ Q = Ev P pr N (.seq (.region k13_r0) (.seq (.region k13_r1) (.seq (.block 0 (.loop k13_l0)) (.seq (.seq (.region k13_r4) (.cond (Operand.tmp 38) (.seq (.region k13_r5) .ret) .skip)) (.seq (.region k13_r6) (.seq (.seq (.region k13_r7) (.block 2 (.loop k13_l1))) (.seq (.region k13_r11) .ret))))))) e σ Q := propext ⟨fun h => h, fun h => h⟩
/-- quern/quernref01.Take -/
theorem k13_is : FnIs Try.prog noPrim 13 56 [ResultVar.tmp 2, ResultVar.tmp 3] k13 := FnIs.of_fn Try.func13 (by kernel_rfl)
def k14_r0 : List COp := [
  ⟨some 4, Op.assign (Operand.const (Value.slice .none 0 0)), none, true⟩]
theorem k14_r0_e {P : Program} {pr : Prim} {N : Nat} {e : Nat → V} {σ : St} {Q : VX → (Nat → V) → St → Prop} : Eo P pr N k14_r0 e σ Q = Eo P pr N [
  ⟨some 4, Op.assign (Operand.const (Value.slice .none 0 0)), none, true⟩] e σ Q := propext ⟨fun h => h, fun h => h⟩
def k14_r1 : List COp := [
  ⟨some 8, Op.move (Operand.tmp 0), none, true⟩,
  ⟨some 9, Op.call { callee := Callee.builtin Builtin.len, args := #[Operand.tmp 8], argTypes := #[22] }, none, true⟩,
  ⟨some 10, Op.move (Operand.tmp 1), none, true⟩,
  ⟨some 11, Op.call { callee := Callee.builtin Builtin.len, args := #[Operand.tmp 10], argTypes := #[30] }, none, true⟩,
  ⟨some 12, Op.binOp BinOp.mul 3 (Operand.const (Value.int IntKind.i64 2)) (Operand.tmp 11) 3, none, true⟩,
  ⟨some 13, Op.binOp BinOp.add 3 (Operand.tmp 9) (Operand.tmp 12) 3, none, true⟩,
  ⟨some 14, Op.makeSlice 22 (Operand.const (Value.int IntKind.i64 0)) (Operand.tmp 13), none, true⟩,
  ⟨some 15, Op.move (Operand.tmp 0), none, true⟩,
  ⟨some 16, Op.call { callee := Callee.builtin Builtin.append, args := #[Operand.tmp 14, Operand.tmp 15], argTypes := #[22, 22] }, none, true⟩,
  ⟨some 5, Op.assign (Operand.tmp 16), none, true⟩]
theorem k14_r1_e {P : Program} {pr : Prim} {N : Nat} {e : Nat → V} {σ : St} {Q : VX → (Nat → V) → St → Prop} : Eo P pr N k14_r1 e σ Q = Eo P pr N [
  ⟨some 8, Op.move (Operand.tmp 0), none, true⟩,
  ⟨some 9, Op.call { callee := Callee.builtin Builtin.len, args := #[Operand.tmp 8], argTypes := #[22] }, none, true⟩,
  ⟨some 10, Op.move (Operand.tmp 1), none, true⟩,
  ⟨some 11, Op.call { callee := Callee.builtin Builtin.len, args := #[Operand.tmp 10], argTypes := #[30] }, none, true⟩,
  ⟨some 12, Op.binOp BinOp.mul 3 (Operand.const (Value.int IntKind.i64 2)) (Operand.tmp 11) 3, none, true⟩,
  ⟨some 13, Op.binOp BinOp.add 3 (Operand.tmp 9) (Operand.tmp 12) 3, none, true⟩,
  ⟨some 14, Op.makeSlice 22 (Operand.const (Value.int IntKind.i64 0)) (Operand.tmp 13), none, true⟩,
  ⟨some 15, Op.move (Operand.tmp 0), none, true⟩,
  ⟨some 16, Op.call { callee := Callee.builtin Builtin.append, args := #[Operand.tmp 14, Operand.tmp 15], argTypes := #[22, 22] }, none, true⟩,
  ⟨some 5, Op.assign (Operand.tmp 16), none, true⟩] e σ Q := propext ⟨fun h => h, fun h => h⟩
def k14_r2 : List COp := [
  ⟨some 17, Op.move (Operand.tmp 1), none, true⟩,
  ⟨some 18, Op.call { callee := Callee.builtin Builtin.len, args := #[Operand.tmp 17], argTypes := #[30] }, none, true⟩,
  ⟨some 19, Op.move (Operand.const (Value.int IntKind.i64 0)), none, true⟩]
theorem k14_r2_e {P : Program} {pr : Prim} {N : Nat} {e : Nat → V} {σ : St} {Q : VX → (Nat → V) → St → Prop} : Eo P pr N k14_r2 e σ Q = Eo P pr N [
  ⟨some 17, Op.move (Operand.tmp 1), none, true⟩,
  ⟨some 18, Op.call { callee := Callee.builtin Builtin.len, args := #[Operand.tmp 17], argTypes := #[30] }, none, true⟩,
  ⟨some 19, Op.move (Operand.const (Value.int IntKind.i64 0)), none, true⟩] e σ Q := propext ⟨fun h => h, fun h => h⟩
def k14_r3 : List COp := [
  ⟨some 20, Op.binOp BinOp.lss 3 (Operand.tmp 19) (Operand.tmp 18) 3, none, true⟩]
theorem k14_r3_e {P : Program} {pr : Prim} {N : Nat} {e : Nat → V} {σ : St} {Q : VX → (Nat → V) → St → Prop} : Eo P pr N k14_r3 e σ Q = Eo P pr N [
  ⟨some 20, Op.binOp BinOp.lss 3 (Operand.tmp 19) (Operand.tmp 18) 3, none, true⟩] e σ Q := propext ⟨fun h => h, fun h => h⟩
def k14_r4 : List COp := [
  ⟨some 21, Op.indexAddr 30 (Operand.tmp 17) (Operand.tmp 19), none, true⟩,
  ⟨some 22, Op.load 3 (Operand.tmp 21), none, true⟩,
  ⟨some 7, Op.assign (Operand.tmp 22), none, true⟩]
theorem k14_r4_e {P : Program} {pr : Prim} {N : Nat} {e : Nat → V} {σ : St} {Q : VX → (Nat → V) → St → Prop} : Eo P pr N k14_r4 e σ Q = Eo P pr N [
  ⟨some 21, Op.indexAddr 30 (Operand.tmp 17) (Operand.tmp 19), none, true⟩,
  ⟨some 22, Op.load 3 (Operand.tmp 21), none, true⟩,
  ⟨some 7, Op.assign (Operand.tmp 22), none, true⟩] e σ Q := propext ⟨fun h => h, fun h => h⟩
def k14_r5 : List COp := [
  ⟨some 23, Op.move (Operand.tmp 7), none, true⟩,
  ⟨some 24, Op.call { callee := Callee.builtin Builtin.max, args := #[Operand.tmp 23, Operand.const (Value.int IntKind.i64 0)], argTypes := #[3, 3] }, none, true⟩,
  ⟨some 7, Op.assign (Operand.tmp 24), none, true⟩]
theorem k14_r5_e {P : Program} {pr : Prim} {N : Nat} {e : Nat → V} {σ : St} {Q : VX → (Nat → V) → St → Prop} : Eo P pr N k14_r5 e σ Q = Eo P pr N [
  ⟨some 23, Op.move (Operand.tmp 7), none, true⟩,
  ⟨some 24, Op.call { callee := Callee.builtin Builtin.max, args := #[Operand.tmp 23, Operand.const (Value.int IntKind.i64 0)], argTypes := #[3, 3] }, none, true⟩,
  ⟨some 7, Op.assign (Operand.tmp 24), none, true⟩] e σ Q := propext ⟨fun h => h, fun h => h⟩
def k14_r6 : List COp := [
  ⟨some 25, Op.move (Operand.tmp 7), none, true⟩,
  ⟨some 26, Op.binOp BinOp.gtr 3 (Operand.tmp 25) (Operand.const (Value.int IntKind.i64 127)) 3, none, true⟩]
theorem k14_r6_e {P : Program} {pr : Prim} {N : Nat} {e : Nat → V} {σ : St} {Q : VX → (Nat → V) → St → Prop} : Eo P pr N k14_r6 e σ Q = Eo P pr N [
  ⟨some 25, Op.move (Operand.tmp 7), none, true⟩,
  ⟨some 26, Op.binOp BinOp.gtr 3 (Operand.tmp 25) (Operand.const (Value.int IntKind.i64 127)) 3, none, true⟩] e σ Q := propext ⟨fun h => h, fun h => h⟩
def k14_r8 : List COp := [
  ⟨some 29, Op.move (Operand.tmp 5), none, true⟩,
  ⟨some 30, Op.move (Operand.tmp 7), none, true⟩,
  ⟨some 31, Op.binOp BinOp.and 3 (Operand.tmp 30) (Operand.const (Value.int IntKind.i64 127)) 3, none, true⟩,
  ⟨some 32, Op.binOp BinOp.or 3 (Operand.tmp 31) (Operand.const (Value.int IntKind.i64 128)) 3, none, true⟩,
  ⟨some 33, Op.convert 3 5 (Operand.tmp 32), none, true⟩,
  ⟨some 34, Op.buildSlice 22 1 #[(0, Operand.tmp 33)], none, true⟩,
  ⟨some 35, Op.call { callee := Callee.builtin Builtin.append, args := #[Operand.tmp 29, Operand.tmp 34], argTypes := #[22, 22] }, none, true⟩,
  ⟨some 5, Op.assign (Operand.tmp 35), none, true⟩]
theorem k14_r8_e {P : Program} {pr : Prim} {N : Nat} {e : Nat → V} {σ : St} {Q : VX → (Nat → V) → St → Prop} : Eo P pr N k14_r8 e σ Q = Eo P pr N [
  ⟨some 29, Op.move (Operand.tmp 5), none, true⟩,
  ⟨some 30, Op.move (Operand.tmp 7), none, true⟩,
  ⟨some 31, Op.binOp BinOp.and 3 (Operand.tmp 30) (Operand.const (Value.int IntKind.i64 127)) 3, none, true⟩,
  ⟨some 32, Op.binOp BinOp.or 3 (Operand.tmp 31) (Operand.const (Value.int IntKind.i64 128)) 3, none, true⟩,
  ⟨some 33, Op.convert 3 5 (Operand.tmp 32), none, true⟩,
  ⟨some 34, Op.buildSlice 22 1 #[(0, Operand.tmp 33)], none, true⟩,
  ⟨some 35, Op.call { callee := Callee.builtin Builtin.append, args := #[Operand.tmp 29, Operand.tmp 34], argTypes := #[22, 22] }, none, true⟩,
  ⟨some 5, Op.assign (Operand.tmp 35), none, true⟩] e σ Q := propext ⟨fun h => h, fun h => h⟩
def k14_r7 : List COp := [
  ⟨some 27, Op.move (Operand.tmp 7), none, true⟩,
  ⟨some 28, Op.binOp BinOp.shr 3 (Operand.tmp 27) (Operand.const (Value.int IntKind.u64 7)) 52, none, true⟩,
  ⟨some 7, Op.assign (Operand.tmp 28), none, true⟩]
theorem k14_r7_e {P : Program} {pr : Prim} {N : Nat} {e : Nat → V} {σ : St} {Q : VX → (Nat → V) → St → Prop} : Eo P pr N k14_r7 e σ Q = Eo P pr N [
  ⟨some 27, Op.move (Operand.tmp 7), none, true⟩,
  ⟨some 28, Op.binOp BinOp.shr 3 (Operand.tmp 27) (Operand.const (Value.int IntKind.u64 7)) 52, none, true⟩,
  ⟨some 7, Op.assign (Operand.tmp 28), none, true⟩] e σ Q := propext ⟨fun h => h, fun h => h⟩
def k14_l1 : CC := (.seq (.seq (.region k14_r6) (.cond (Operand.tmp 26) .skip (.exit 2))) (.seq (.block 3 (.region k14_r8)) (.region k14_r7)))
theorem k14_l1_e {P : Program} {pr : Prim} {N : Nat} {e : Nat → V} {σ : St} {Q : VX → (Nat → V) → St → Prop} : Ev P pr N k14_l1 e σ Q = Ev P pr N (.seq (.seq (.region k14_r6) (.cond (Operand.tmp 26) .skip (.exit 2))) (.seq (.block 3 (.region k14_r8)) (.region k14_r7))) e σ Q := propext ⟨fun h => h, fun h => h⟩
def k14_r9 : List COp := [
  ⟨some 36, Op.move (Operand.tmp 5), none, true⟩,
  ⟨some 37, Op.move (Operand.tmp 7), none, true⟩,
  ⟨some 38, Op.convert 3 5 (Operand.tmp 37), none, true⟩,
  ⟨some 39, Op.buildSlice 22 1 #[(0, Operand.tmp 38)], none, true⟩,
  ⟨some 40, Op.call { callee := Callee.builtin Builtin.append, args := #[Operand.tmp 36, Operand.tmp 39], argTypes := #[22, 22] }, none, true⟩,
  ⟨some 5, Op.assign (Operand.tmp 40), none, true⟩]
theorem k14_r9_e {P : Program} {pr : Prim} {N : Nat} {e : Nat → V} {σ : St} {Q : VX → (Nat → V) → St → Prop} : Eo P pr N k14_r9 e σ Q = Eo P pr N [
  ⟨some 36, Op.move (Operand.tmp 5), none, true⟩,
  ⟨some 37, Op.move (Operand.tmp 7), none, true⟩,
  ⟨some 38, Op.convert 3 5 (Operand.tmp 37), none, true⟩,
  ⟨some 39, Op.buildSlice 22 1 #[(0, Operand.tmp 38)], none, true⟩,
  ⟨some 40, Op.call { callee := Callee.builtin Builtin.append, args := #[Operand.tmp 36, Operand.tmp 39], argTypes := #[22, 22] }, none, true⟩,
  ⟨some 5, Op.assign (Operand.tmp 40), none, true⟩] e σ Q := propext ⟨fun h => h, fun h => h⟩
def k14_r10 : List COp := [
  ⟨some 41, Op.binOp BinOp.add 3 (Operand.tmp 19) (Operand.const (Value.int IntKind.i64 1)) 3, none, true⟩,
  ⟨some 19, Op.move (Operand.tmp 41), none, true⟩]
theorem k14_r10_e {P : Program} {pr : Prim} {N : Nat} {e : Nat → V} {σ : St} {Q : VX → (Nat → V) → St → Prop} : Eo P pr N k14_r10 e σ Q = Eo P pr N [
  ⟨some 41, Op.binOp BinOp.add 3 (Operand.tmp 19) (Operand.const (Value.int IntKind.i64 1)) 3, none, true⟩,
  ⟨some 19, Op.move (Operand.tmp 41), none, true⟩] e σ Q := propext ⟨fun h => h, fun h => h⟩
def k14_l0 : CC := (.seq (.region k14_r3) (.seq (.cond (Operand.tmp 20) .skip (.exit 0)) (.seq (.block 1 (.seq (.region k14_r4) (.seq (.region k14_r5) (.seq (.block 2 (.loop k14_l1)) (.region k14_r9))))) (.region k14_r10))))
theorem k14_l0_e {P : Program} {pr : Prim} {N : Nat} {e : Nat → V} {σ : St} {Q : VX → (Nat → V) → St → Prop} : Ev P pr N k14_l0 e σ Q = Ev P pr N (.seq (.region k14_r3) (.seq (.cond (Operand.tmp 20) .skip (.exit 0)) (.seq (.block 1 (.seq (.region k14_r4) (.seq (.region k14_r5) (.seq (.block 2 (.loop k14_l1)) (.region k14_r9))))) (.region k14_r10)))) e σ Q := propext ⟨fun h => h, fun h => h⟩
def k14_r11 : List COp := [
  ⟨some 42, Op.move (Operand.tmp 5), none, true⟩,
  ⟨some 4, Op.assign (Operand.tmp 42), none, true⟩]
theorem k14_r11_e {P : Program} {pr : Prim} {N : Nat} {e : Nat → V} {σ : St} {Q : VX → (Nat → V) → St → Prop} : Eo P pr N k14_r11 e σ Q = Eo P pr N [
  ⟨some 42, Op.move (Operand.tmp 5), none, true⟩,
  ⟨some 4, Op.assign (Operand.tmp 42), none, true⟩] e σ Q := propext ⟨fun h => h, fun h => h⟩
def k14 : CC := (.seq (.region k14_r0) (.seq (.region k14_r1) (.seq (.seq (.region k14_r2) (.block 0 (.loop k14_l0))) (.seq (.region k14_r11) .ret))))
theorem k14_e {P : Program} {pr : Prim} {N : Nat} {e : Nat → V} {σ : St} {Q : VX → (Nat → V) → St → Prop} : Ev P pr N k14 e σ Q = Ev P pr N (.seq (.region k14_r0) (.seq (.region k14_r1) (.seq (.seq (.region k14_r2) (.block 0 (.loop k14_l0))) (.seq (.region k14_r11) .ret)))) e σ Q := propext ⟨fun h => h, fun h => h⟩
/-- quern/pack.Put -/
theorem k14_is : FnIs Try.prog noPrim 14 43 [ResultVar.tmp 4] k14 := FnIs.of_fn Try.func14 (by kernel_rfl)
def k15_r0 : List COp := [
  ⟨some 4, Op.assign (Operand.const (Value.bool false)), none, true⟩]
theorem k15_r0_e {P : Program} {pr : Prim} {N : Nat} {e : Nat → V} {σ : St} {Q : VX → (Nat → V) → St → Prop} : Eo P pr N k15_r0 e σ Q = Eo P pr N [
  ⟨some 4, Op.assign (Operand.const (Value.bool false)), none, true⟩] e σ Q := propext ⟨fun h => h, fun h => h⟩
def k15_r1 : List COp := [
  ⟨some 6, Op.move (Operand.tmp 0), none, true⟩,
  ⟨some 7, Op.call { callee := Callee.builtin Builtin.len, args := #[Operand.tmp 6], argTypes := #[22] }, none, true⟩,
  ⟨some 8, Op.move (Operand.tmp 1), none, true⟩,
  ⟨some 9, Op.call { callee := Callee.builtin Builtin.len, args := #[Operand.tmp 8], argTypes := #[22] }, none, true⟩,
  ⟨some 10, Op.binOp BinOp.neq 3 (Operand.tmp 7) (Operand.tmp 9) 3, none, true⟩]
theorem k15_r1_e {P : Program} {pr : Prim} {N : Nat} {e : Nat → V} {σ : St} {Q : VX → (Nat → V) → St → Prop} : Eo P pr N k15_r1 e σ Q = Eo P pr N [
  ⟨some 6, Op.move (Operand.tmp 0), none, true⟩,
  ⟨some 7, Op.call { callee := Callee.builtin Builtin.len, args := #[Operand.tmp 6], argTypes := #[22] }, none, true⟩,
  ⟨some 8, Op.move (Operand.tmp 1), none, true⟩,
  ⟨some 9, Op.call { callee := Callee.builtin Builtin.len, args := #[Operand.tmp 8], argTypes := #[22] }, none, true⟩,
  ⟨some 10, Op.binOp BinOp.neq 3 (Operand.tmp 7) (Operand.tmp 9) 3, none, true⟩] e σ Q := propext ⟨fun h => h, fun h => h⟩
def k15_r2 : List COp := [
  ⟨some 4, Op.assign (Operand.const (Value.bool false)), none, true⟩]
theorem k15_r2_e {P : Program} {pr : Prim} {N : Nat} {e : Nat → V} {σ : St} {Q : VX → (Nat → V) → St → Prop} : Eo P pr N k15_r2 e σ Q = Eo P pr N [
  ⟨some 4, Op.assign (Operand.const (Value.bool false)), none, true⟩] e σ Q := propext ⟨fun h => h, fun h => h⟩
def k15_r3 : List COp := [
  ⟨some 11, Op.move (Operand.tmp 0), none, true⟩,
  ⟨some 12, Op.call { callee := Callee.builtin Builtin.len, args := #[Operand.tmp 11], argTypes := #[22] }, none, true⟩,
  ⟨some 13, Op.move (Operand.const (Value.int IntKind.i64 0)), none, true⟩]
theorem k15_r3_e {P : Program} {pr : Prim} {N : Nat} {e : Nat → V} {σ : St} {Q : VX → (Nat → V) → St → Prop} : Eo P pr N k15_r3 e σ Q = Eo P pr N [
  ⟨some 11, Op.move (Operand.tmp 0), none, true⟩,
  ⟨some 12, Op.call { callee := Callee.builtin Builtin.len, args := #[Operand.tmp 11], argTypes := #[22] }, none, true⟩,
  ⟨some 13, Op.move (Operand.const (Value.int IntKind.i64 0)), none, true⟩] e σ Q := propext ⟨fun h => h, fun h => h⟩
def k15_r4 : List COp := [
  ⟨some 14, Op.binOp BinOp.lss 3 (Operand.tmp 13) (Operand.tmp 12) 3, none, true⟩]
theorem k15_r4_e {P : Program} {pr : Prim} {N : Nat} {e : Nat → V} {σ : St} {Q : VX → (Nat → V) → St → Prop} : Eo P pr N k15_r4 e σ Q = Eo P pr N [
  ⟨some 14, Op.binOp BinOp.lss 3 (Operand.tmp 13) (Operand.tmp 12) 3, none, true⟩] e σ Q := propext ⟨fun h => h, fun h => h⟩
def k15_r5 : List COp := [
  ⟨some 15, Op.move (Operand.tmp 13), none, true⟩,
  ⟨some 5, Op.assign (Operand.tmp 15), none, true⟩]
theorem k15_r5_e {P : Program} {pr : Prim} {N : Nat} {e : Nat → V} {σ : St} {Q : VX → (Nat → V) → St → Prop} : Eo P pr N k15_r5 e σ Q = Eo P pr N [
  ⟨some 15, Op.move (Operand.tmp 13), none, true⟩,
  ⟨some 5, Op.assign (Operand.tmp 15), none, true⟩] e σ Q := propext ⟨fun h => h, fun h => h⟩
def k15_r6 : List COp := [
  ⟨some 16, Op.move (Operand.tmp 0), none, false⟩,
  ⟨some 17, Op.move (Operand.tmp 5), none, false⟩,
  ⟨some 18, Op.indexAddr 22 (Operand.tmp 16) (Operand.tmp 17), none, false⟩,
  ⟨some 19, Op.load 5 (Operand.tmp 18), none, false⟩,
  ⟨some 20, Op.move (Operand.tmp 1), none, false⟩,
  ⟨some 21, Op.move (Operand.tmp 5), none, true⟩,
  ⟨some 22, Op.indexAddr 22 (Operand.tmp 20) (Operand.tmp 21), none, true⟩,
  ⟨some 23, Op.load 5 (Operand.tmp 22), none, true⟩,
  ⟨some 24, Op.binOp BinOp.neq 5 (Operand.tmp 19) (Operand.tmp 23) 5, none, true⟩]
theorem k15_r6_e {P : Program} {pr : Prim} {N : Nat} {e : Nat → V} {σ : St} {Q : VX → (Nat → V) → St → Prop} : Eo P pr N k15_r6 e σ Q = Eo P pr N [
  ⟨some 16, Op.move (Operand.tmp 0), none, false⟩,
  ⟨some 17, Op.move (Operand.tmp 5), none, false⟩,
  ⟨some 18, Op.indexAddr 22 (Operand.tmp 16) (Operand.tmp 17), none, false⟩,
  ⟨some 19, Op.load 5 (Operand.tmp 18), none, false⟩,
  ⟨some 20, Op.move (Operand.tmp 1), none, false⟩,
  ⟨some 21, Op.move (Operand.tmp 5), none, true⟩,
  ⟨some 22, Op.indexAddr 22 (Operand.tmp 20) (Operand.tmp 21), none, true⟩,
  ⟨some 23, Op.load 5 (Operand.tmp 22), none, true⟩,
  ⟨some 24, Op.binOp BinOp.neq 5 (Operand.tmp 19) (Operand.tmp 23) 5, none, true⟩] e σ Q := propext ⟨fun h => h, fun h => h⟩
def k15_r7 : List COp := [
  ⟨some 4, Op.assign (Operand.const (Value.bool false)), none, true⟩]
theorem k15_r7_e {P : Program} {pr : Prim} {N : Nat} {e : Nat → V} {σ : St} {Q : VX → (Nat → V) → St → Prop} : Eo P pr N k15_r7 e σ Q = Eo P pr N [
  ⟨some 4, Op.assign (Operand.const (Value.bool false)), none, true⟩] e σ Q := propext ⟨fun h => h, fun h => h⟩
def k15_r8 : List COp := [
  ⟨some 25, Op.binOp BinOp.add 3 (Operand.tmp 13) (Operand.const (Value.int IntKind.i64 1)) 3, none, true⟩,
  ⟨some 13, Op.move (Operand.tmp 25), none, true⟩]
theorem k15_r8_e {P : Program} {pr : Prim} {N : Nat} {e : Nat → V} {σ : St} {Q : VX → (Nat → V) → St → Prop} : Eo P pr N k15_r8 e σ Q = Eo P pr N [
  ⟨some 25, Op.binOp BinOp.add 3 (Operand.tmp 13) (Operand.const (Value.int IntKind.i64 1)) 3, none, true⟩,
  ⟨some 13, Op.move (Operand.tmp 25), none, true⟩] e σ Q := propext ⟨fun h => h, fun h => h⟩
def k15_l0 : CC := (.seq (.region k15_r4) (.seq (.cond (Operand.tmp 14) .skip (.exit 0)) (.seq (.block 1 (.seq (.region k15_r5) (.seq (.region k15_r6) (.cond (Operand.tmp 24) (.seq (.region k15_r7) .ret) .skip)))) (.region k15_r8))))
theorem k15_l0_e {P : Program} {pr : Prim} {N : Nat} {e : Nat → V} {σ : St} {Q : VX → (Nat → V) → St → Prop} : Ev P pr N k15_l0 e σ Q = Ev P pr N (.seq (.region k15_r4) (.seq (.cond (Operand.tmp 14) .skip (.exit 0)) (.seq (.block 1 (.seq (.region k15_r5) (.seq (.region k15_r6) (.cond (Operand.tmp 24) (.seq (.region k15_r7) .ret) .skip)))) (.region k15_r8)))) e σ Q := propext ⟨fun h => h, fun h => h⟩
def k15_r9 : List COp := [
  ⟨some 4, Op.assign (Operand.const (Value.bool true)), none, true⟩]
theorem k15_r9_e {P : Program} {pr : Prim} {N : Nat} {e : Nat → V} {σ : St} {Q : VX → (Nat → V) → St → Prop} : Eo P pr N k15_r9 e σ Q = Eo P pr N [
  ⟨some 4, Op.assign (Operand.const (Value.bool true)), none, true⟩] e σ Q := propext ⟨fun h => h, fun h => h⟩
def k15 : CC := (.seq (.region k15_r0) (.seq (.seq (.region k15_r1) (.cond (Operand.tmp 10) (.seq (.region k15_r2) .ret) .skip)) (.seq (.seq (.region k15_r3) (.block 0 (.loop k15_l0))) (.seq (.region k15_r9) .ret))))
theorem k15_e {P : Program} {pr : Prim} {N : Nat} {e : Nat → V} {σ : St} {Q : VX → (Nat → V) → St → Prop} : Ev P pr N k15 e σ Q = Ev P pr N (.seq (.region k15_r0) (.seq (.seq (.region k15_r1) (.cond (Operand.tmp 10) (.seq (.region k15_r2) .ret) .skip)) (.seq (.seq (.region k15_r3) (.block 0 (.loop k15_l0))) (.seq (.region k15_r9) .ret)))) e σ Q := propext ⟨fun h => h, fun h => h⟩
/-- quern/quernlaw01.same -/
theorem k15_is : FnIs Try.prog noPrim 15 26 [ResultVar.tmp 4] k15 := FnIs.of_fn Try.func15 (by kernel_rfl)
def k16_r0 : List COp := [
  ⟨some 4, Op.assign (Operand.const (Value.slice .none 0 0)), none, true⟩]
theorem k16_r0_e {P : Program} {pr : Prim} {N : Nat} {e : Nat → V} {σ : St} {Q : VX → (Nat → V) → St → Prop} : Eo P pr N k16_r0 e σ Q = Eo P pr N [
  ⟨some 4, Op.assign (Operand.const (Value.slice .none 0 0)), none, true⟩] e σ Q := propext ⟨fun h => h, fun h => h⟩
def k16_r1 : List COp := [
  ⟨some 6, Op.buildSlice 22 0 #[], none, true⟩,
  ⟨some 7, Op.move (Operand.tmp 0), none, true⟩,
  ⟨some 8, Op.call { callee := Callee.builtin Builtin.append, args := #[Operand.tmp 6, Operand.tmp 7], argTypes := #[22, 22] }, none, true⟩,
  ⟨some 5, Op.assign (Operand.tmp 8), none, true⟩]
theorem k16_r1_e {P : Program} {pr : Prim} {N : Nat} {e : Nat → V} {σ : St} {Q : VX → (Nat → V) → St → Prop} : Eo P pr N k16_r1 e σ Q = Eo P pr N [
  ⟨some 6, Op.buildSlice 22 0 #[], none, true⟩,
  ⟨some 7, Op.move (Operand.tmp 0), none, true⟩,
  ⟨some 8, Op.call { callee := Callee.builtin Builtin.append, args := #[Operand.tmp 6, Operand.tmp 7], argTypes := #[22, 22] }, none, true⟩,
  ⟨some 5, Op.assign (Operand.tmp 8), none, true⟩] e σ Q := propext ⟨fun h => h, fun h => h⟩
def k16_r2 : List COp := [
  ⟨some 9, Op.move (Operand.tmp 1), none, true⟩,
  ⟨some 10, Op.binOp BinOp.lss 3 (Operand.tmp 9) (Operand.const (Value.int IntKind.i64 0)) 3, none, true⟩]
theorem k16_r2_e {P : Program} {pr : Prim} {N : Nat} {e : Nat → V} {σ : St} {Q : VX → (Nat → V) → St → Prop} : Eo P pr N k16_r2 e σ Q = Eo P pr N [
  ⟨some 9, Op.move (Operand.tmp 1), none, true⟩,
  ⟨some 10, Op.binOp BinOp.lss 3 (Operand.tmp 9) (Operand.const (Value.int IntKind.i64 0)) 3, none, true⟩] e σ Q := propext ⟨fun h => h, fun h => h⟩
def k16_r3 : List COp := [
  ⟨some 1, Op.assign (Operand.const (Value.int IntKind.i64 0)), none, true⟩]
theorem k16_r3_e {P : Program} {pr : Prim} {N : Nat} {e : Nat → V} {σ : St} {Q : VX → (Nat → V) → St → Prop} : Eo P pr N k16_r3 e σ Q = Eo P pr N [
  ⟨some 1, Op.assign (Operand.const (Value.int IntKind.i64 0)), none, true⟩] e σ Q := propext ⟨fun h => h, fun h => h⟩
def k16_r4 : List COp := [
  ⟨some 11, Op.move (Operand.tmp 1), none, true⟩,
  ⟨some 12, Op.binOp BinOp.geq 3 (Operand.tmp 11) (Operand.const (Value.int IntKind.i64 128)) 3, none, true⟩]
theorem k16_r4_e {P : Program} {pr : Prim} {N : Nat} {e : Nat → V} {σ : St} {Q : VX → (Nat → V) → St → Prop} : Eo P pr N k16_r4 e σ Q = Eo P pr N [
  ⟨some 11, Op.move (Operand.tmp 1), none, true⟩,
  ⟨some 12, Op.binOp BinOp.geq 3 (Operand.tmp 11) (Operand.const (Value.int IntKind.i64 128)) 3, none, true⟩] e σ Q := propext ⟨fun h => h, fun h => h⟩
def k16_r5 : List COp := [
  ⟨some 13, Op.move (Operand.tmp 5), none, true⟩,
  ⟨some 14, Op.move (Operand.tmp 1), none, true⟩,
  ⟨some 15, Op.binOp BinOp.rem 3 (Operand.tmp 14) (Operand.const (Value.int IntKind.i64 128)) 3, none, true⟩,
  ⟨some 16, Op.binOp BinOp.add 3 (Operand.tmp 15) (Operand.const (Value.int IntKind.i64 128)) 3, none, true⟩,
  ⟨some 17, Op.convert 3 5 (Operand.tmp 16), none, true⟩,
  ⟨some 18, Op.buildSlice 22 1 #[(0, Operand.tmp 17)], none, true⟩,
  ⟨some 19, Op.call { callee := Callee.builtin Builtin.append, args := #[Operand.tmp 13, Operand.tmp 18], argTypes := #[22, 22] }, none, true⟩,
  ⟨some 5, Op.assign (Operand.tmp 19), none, true⟩]
theorem k16_r5_e {P : Program} {pr : Prim} {N : Nat} {e : Nat → V} {σ : St} {Q : VX → (Nat → V) → St → Prop} : Eo P pr N k16_r5 e σ Q = Eo P pr N [
  ⟨some 13, Op.move (Operand.tmp 5), none, true⟩,
  ⟨some 14, Op.move (Operand.tmp 1), none, true⟩,
  ⟨some 15, Op.binOp BinOp.rem 3 (Operand.tmp 14) (Operand.const (Value.int IntKind.i64 128)) 3, none, true⟩,
  ⟨some 16, Op.binOp BinOp.add 3 (Operand.tmp 15) (Operand.const (Value.int IntKind.i64 128)) 3, none, true⟩,
  ⟨some 17, Op.convert 3 5 (Operand.tmp 16), none, true⟩,
  ⟨some 18, Op.buildSlice 22 1 #[(0, Operand.tmp 17)], none, true⟩,
  ⟨some 19, Op.call { callee := Callee.builtin Builtin.append, args := #[Operand.tmp 13, Operand.tmp 18], argTypes := #[22, 22] }, none, true⟩,
  ⟨some 5, Op.assign (Operand.tmp 19), none, true⟩] e σ Q := propext ⟨fun h => h, fun h => h⟩
def k16_r6 : List COp := [
  ⟨some 20, Op.move (Operand.tmp 1), none, true⟩,
  ⟨some 21, Op.binOp BinOp.quo 3 (Operand.tmp 20) (Operand.const (Value.int IntKind.i64 128)) 3, none, true⟩,
  ⟨some 1, Op.assign (Operand.tmp 21), none, true⟩]
theorem k16_r6_e {P : Program} {pr : Prim} {N : Nat} {e : Nat → V} {σ : St} {Q : VX → (Nat → V) → St → Prop} : Eo P pr N k16_r6 e σ Q = Eo P pr N [
  ⟨some 20, Op.move (Operand.tmp 1), none, true⟩,
  ⟨some 21, Op.binOp BinOp.quo 3 (Operand.tmp 20) (Operand.const (Value.int IntKind.i64 128)) 3, none, true⟩,
  ⟨some 1, Op.assign (Operand.tmp 21), none, true⟩] e σ Q := propext ⟨fun h => h, fun h => h⟩
def k16_l0 : CC := (.seq (.seq (.region k16_r4) (.cond (Operand.tmp 12) .skip (.exit 0))) (.block 1 (.seq (.region k16_r5) (.region k16_r6))))
theorem k16_l0_e {P : Program} {pr : Prim} {N : Nat} {e : Nat → V} {σ : St} {Q : VX → (Nat → V) → St → Prop} : Ev P pr N k16_l0 e σ Q = Ev P pr N (.seq (.seq (.region k16_r4) (.cond (Operand.tmp 12) .skip (.exit 0))) (.block 1 (.seq (.region k16_r5) (.region k16_r6)))) e σ Q := propext ⟨fun h => h, fun h => h⟩
def k16_r7 : List COp := [
  ⟨some 22, Op.move (Operand.tmp 5), none, true⟩,
  ⟨some 23, Op.move (Operand.tmp 1), none, true⟩,
  ⟨some 24, Op.convert 3 5 (Operand.tmp 23), none, true⟩,
  ⟨some 25, Op.buildSlice 22 1 #[(0, Operand.tmp 24)], none, true⟩,
  ⟨some 26, Op.call { callee := Callee.builtin Builtin.append, args := #[Operand.tmp 22, Operand.tmp 25], argTypes := #[22, 22] }, none, true⟩,
  ⟨some 4, Op.assign (Operand.tmp 26), none, true⟩]
theorem k16_r7_e {P : Program} {pr : Prim} {N : Nat} {e : Nat → V} {σ : St} {Q : VX → (Nat → V) → St → Prop} : Eo P pr N k16_r7 e σ Q = Eo P pr N [
  ⟨some 22, Op.move (Operand.tmp 5), none, true⟩,
  ⟨some 23, Op.move (Operand.tmp 1), none, true⟩,
  ⟨some 24, Op.convert 3 5 (Operand.tmp 23), none, true⟩,
  ⟨some 25, Op.buildSlice 22 1 #[(0, Operand.tmp 24)], none, true⟩,
  ⟨some 26, Op.call { callee := Callee.builtin Builtin.append, args := #[Operand.tmp 22, Operand.tmp 25], argTypes := #[22, 22] }, none, true⟩,
  ⟨some 4, Op.assign (Operand.tmp 26), none, true⟩] e σ Q := propext ⟨fun h => h, fun h => h⟩
def k16 : CC := (.seq (.region k16_r0) (.seq (.region k16_r1) (.seq (.seq (.region k16_r2) (.cond (Operand.tmp 10) (.region k16_r3) .skip)) (.seq (.block 0 (.loop k16_l0)) (.seq (.region k16_r7) .ret)))))
theorem k16_e {P : Program} {pr : Prim} {N : Nat} {e : Nat → V} {σ : St} {Q : VX → (Nat → V) → St → Prop} : Ev P pr N k16 e σ Q = Ev P pr N (.seq (.region k16_r0) (.seq (.region k16_r1) (.seq (.seq (.region k16_r2) (.cond (Operand.tmp 10) (.region k16_r3) .skip)) (.seq (.block 0 (.loop k16_l0)) (.seq (.region k16_r7) .ret))))) e σ Q := propext ⟨fun h => h, fun h => h⟩
/-- quern/quernref01.Put -/
theorem k16_is : FnIs Try.prog noPrim 16 27 [ResultVar.tmp 4] k16 := FnIs.of_fn Try.func16 (by kernel_rfl)
def k17_r0 : List COp := [
  ⟨some 2, Op.assign (Operand.const (Value.int IntKind.i64 0)), none, true⟩]
theorem k17_r0_e {P : Program} {pr : Prim} {N : Nat} {e : Nat → V} {σ : St} {Q : VX → (Nat → V) → St → Prop} : Eo P pr N k17_r0 e σ Q = Eo P pr N [
  ⟨some 2, Op.assign (Operand.const (Value.int IntKind.i64 0)), none, true⟩] e σ Q := propext ⟨fun h => h, fun h => h⟩
def k17_r1 : List COp := [
  ⟨some 3, Op.move (Operand.tmp 0), none, true⟩,
  ⟨some 4, Op.buildSlice 30 1 #[(0, Operand.tmp 3)], none, true⟩,
  ⟨some 5, Op.call { callee := Callee.value (Operand.func 14), args := #[Operand.const (Value.slice .none 0 0), Operand.tmp 4], argTypes := #[22, 30] }, none, true⟩,
  ⟨some 6, Op.call { callee := Callee.builtin Builtin.len, args := #[Operand.tmp 5], argTypes := #[22] }, none, true⟩,
  ⟨some 2, Op.assign (Operand.tmp 6), none, true⟩]
theorem k17_r1_e {P : Program} {pr : Prim} {N : Nat} {e : Nat → V} {σ : St} {Q : VX → (Nat → V) → St → Prop} : Eo P pr N k17_r1 e σ Q = Eo P pr N [
  ⟨some 3, Op.move (Operand.tmp 0), none, true⟩,
  ⟨some 4, Op.buildSlice 30 1 #[(0, Operand.tmp 3)], none, true⟩,
  ⟨some 5, Op.call { callee := Callee.value (Operand.func 14), args := #[Operand.const (Value.slice .none 0 0), Operand.tmp 4], argTypes := #[22, 30] }, none, true⟩,
  ⟨some 6, Op.call { callee := Callee.builtin Builtin.len, args := #[Operand.tmp 5], argTypes := #[22] }, none, true⟩,
  ⟨some 2, Op.assign (Operand.tmp 6), none, true⟩] e σ Q := propext ⟨fun h => h, fun h => h⟩
def k17 : CC := (.seq (.region k17_r0) (.seq (.region k17_r1) .ret))
theorem k17_e {P : Program} {pr : Prim} {N : Nat} {e : Nat → V} {σ : St} {Q : VX → (Nat → V) → St → Prop} : Ev P pr N k17 e σ Q = Ev P pr N (.seq (.region k17_r0) (.seq (.region k17_r1) .ret)) e σ Q := propext ⟨fun h => h, fun h => h⟩
/-- quern/pack.Size -/
theorem k17_is : FnIs Try.prog noPrim 17 7 [ResultVar.tmp 2] k17 := FnIs.of_fn Try.func17 (by kernel_rfl)
def k18_r0 : List COp := [
  ⟨some 2, Op.assign (Operand.const Value.nilFunc), none, true⟩]
theorem k18_r0_e {P : Program} {pr : Prim} {N : Nat} {e : Nat → V} {σ : St} {Q : VX → (Nat → V) → St → Prop} : Eo P pr N k18_r0 e σ Q = Eo P pr N [
  ⟨some 2, Op.assign (Operand.const Value.nilFunc), none, true⟩] e σ Q := propext ⟨fun h => h, fun h => h⟩
def k18_r1 : List COp := [
  ⟨some 4, Op.buildSlice 22 0 #[], none, true⟩,
  ⟨some 5, Op.move (Operand.tmp 0), none, true⟩,
  ⟨some 6, Op.call { callee := Callee.builtin Builtin.append, args := #[Operand.tmp 4, Operand.tmp 5], argTypes := #[22, 22] }, none, true⟩,
  ⟨some 3, Op.alloc 22, none, true⟩,
  ⟨none, Op.store 22 (Operand.tmp 3) (Operand.tmp 6), none, true⟩]
theorem k18_r1_e {P : Program} {pr : Prim} {N : Nat} {e : Nat → V} {σ : St} {Q : VX → (Nat → V) → St → Prop} : Eo P pr N k18_r1 e σ Q = Eo P pr N [
  ⟨some 4, Op.buildSlice 22 0 #[], none, true⟩,
  ⟨some 5, Op.move (Operand.tmp 0), none, true⟩,
  ⟨some 6, Op.call { callee := Callee.builtin Builtin.append, args := #[Operand.tmp 4, Operand.tmp 5], argTypes := #[22, 22] }, none, true⟩,
  ⟨some 3, Op.alloc 22, none, true⟩,
  ⟨none, Op.store 22 (Operand.tmp 3) (Operand.tmp 6), none, true⟩] e σ Q := propext ⟨fun h => h, fun h => h⟩
def k18_r2 : List COp := [
  ⟨some 7, Op.makeFunc (Fn.func 29) #[] #[Operand.tmp 3], none, true⟩,
  ⟨some 2, Op.assign (Operand.tmp 7), none, true⟩]
theorem k18_r2_e {P : Program} {pr : Prim} {N : Nat} {e : Nat → V} {σ : St} {Q : VX → (Nat → V) → St → Prop} : Eo P pr N k18_r2 e σ Q = Eo P pr N [
  ⟨some 7, Op.makeFunc (Fn.func 29) #[] #[Operand.tmp 3], none, true⟩,
  ⟨some 2, Op.assign (Operand.tmp 7), none, true⟩] e σ Q := propext ⟨fun h => h, fun h => h⟩
def k18 : CC := (.seq (.region k18_r0) (.seq (.region k18_r1) (.seq (.region k18_r2) .ret)))
theorem k18_e {P : Program} {pr : Prim} {N : Nat} {e : Nat → V} {σ : St} {Q : VX → (Nat → V) → St → Prop} : Ev P pr N k18 e σ Q = Ev P pr N (.seq (.region k18_r0) (.seq (.region k18_r1) (.seq (.region k18_r2) .ret))) e σ Q := propext ⟨fun h => h, fun h => h⟩
/-- quern/pack.Numbers -/
theorem k18_is : FnIs Try.prog noPrim 18 8 [ResultVar.tmp 2] k18 := FnIs.of_fn Try.func18 (by kernel_rfl)
def k19_r0 : List COp := [
  ⟨some 2, Op.assign (Operand.const (Value.pointer .none)), none, true⟩]
theorem k19_r0_e {P : Program} {pr : Prim} {N : Nat} {e : Nat → V} {σ : St} {Q : VX → (Nat → V) → St → Prop} : Eo P pr N k19_r0 e σ Q = Eo P pr N [
  ⟨some 2, Op.assign (Operand.const (Value.pointer .none)), none, true⟩] e σ Q := propext ⟨fun h => h, fun h => h⟩
def k19_r1 : List COp := [
  ⟨some 3, Op.buildSlice 22 0 #[], none, true⟩,
  ⟨some 4, Op.move (Operand.tmp 0), none, true⟩,
  ⟨some 5, Op.call { callee := Callee.builtin Builtin.append, args := #[Operand.tmp 3, Operand.tmp 4], argTypes := #[22, 22] }, none, true⟩,
  ⟨some 6, Op.build 54 #[(0, Operand.tmp 5)], none, true⟩,
  ⟨some 7, Op.box 54 (Operand.tmp 6), none, true⟩,
  ⟨some 2, Op.assign (Operand.tmp 7), none, true⟩]
theorem k19_r1_e {P : Program} {pr : Prim} {N : Nat} {e : Nat → V} {σ : St} {Q : VX → (Nat → V) → St → Prop} : Eo P pr N k19_r1 e σ Q = Eo P pr N [
  ⟨some 3, Op.buildSlice 22 0 #[], none, true⟩,
  ⟨some 4, Op.move (Operand.tmp 0), none, true⟩,
  ⟨some 5, Op.call { callee := Callee.builtin Builtin.append, args := #[Operand.tmp 3, Operand.tmp 4], argTypes := #[22, 22] }, none, true⟩,
  ⟨some 6, Op.build 54 #[(0, Operand.tmp 5)], none, true⟩,
  ⟨some 7, Op.box 54 (Operand.tmp 6), none, true⟩,
  ⟨some 2, Op.assign (Operand.tmp 7), none, true⟩] e σ Q := propext ⟨fun h => h, fun h => h⟩
def k19 : CC := (.seq (.region k19_r0) (.seq (.region k19_r1) .ret))
theorem k19_e {P : Program} {pr : Prim} {N : Nat} {e : Nat → V} {σ : St} {Q : VX → (Nat → V) → St → Prop} : Ev P pr N k19 e σ Q = Ev P pr N (.seq (.region k19_r0) (.seq (.region k19_r1) .ret)) e σ Q := propext ⟨fun h => h, fun h => h⟩
/-- quern/pack.New -/
theorem k19_is : FnIs Try.prog noPrim 19 8 [ResultVar.tmp 2] k19 := FnIs.of_fn Try.func19 (by kernel_rfl)
def k20_r0 : List COp := [
  ⟨some 4, Op.assign (Operand.const (Value.slice .none 0 0)), none, true⟩]
theorem k20_r0_e {P : Program} {pr : Prim} {N : Nat} {e : Nat → V} {σ : St} {Q : VX → (Nat → V) → St → Prop} : Eo P pr N k20_r0 e σ Q = Eo P pr N [
  ⟨some 4, Op.assign (Operand.const (Value.slice .none 0 0)), none, true⟩] e σ Q := propext ⟨fun h => h, fun h => h⟩
def k20_r1 : List COp := [
  ⟨some 6, Op.move (Operand.tmp 0), none, true⟩,
  ⟨some 7, Op.binOp BinOp.eql 40 (Operand.tmp 6) (Operand.const (Value.pointer .none)) 40, none, true⟩,
  ⟨some 8, Op.move (Operand.tmp 7), none, true⟩,
  ⟨some 9, Op.move (Operand.tmp 0), some (8, false), true⟩,
  ⟨some 10, Op.nilCheck (Operand.tmp 9), some (8, false), true⟩,
  ⟨some 11, Op.fieldAddr 54 (Operand.tmp 10) 1, some (8, false), true⟩,
  ⟨some 12, Op.load 4 (Operand.tmp 11), some (8, false), true⟩,
  ⟨some 13, Op.pick (Operand.tmp 8) (Operand.const (Value.bool true)) (Operand.tmp 12), none, true⟩]
theorem k20_r1_e {P : Program} {pr : Prim} {N : Nat} {e : Nat → V} {σ : St} {Q : VX → (Nat → V) → St → Prop} : Eo P pr N k20_r1 e σ Q = Eo P pr N [
  ⟨some 6, Op.move (Operand.tmp 0), none, true⟩,
  ⟨some 7, Op.binOp BinOp.eql 40 (Operand.tmp 6) (Operand.const (Value.pointer .none)) 40, none, true⟩,
  ⟨some 8, Op.move (Operand.tmp 7), none, true⟩,
  ⟨some 9, Op.move (Operand.tmp 0), some (8, false), true⟩,
  ⟨some 10, Op.nilCheck (Operand.tmp 9), some (8, false), true⟩,
  ⟨some 11, Op.fieldAddr 54 (Operand.tmp 10) 1, some (8, false), true⟩,
  ⟨some 12, Op.load 4 (Operand.tmp 11), some (8, false), true⟩,
  ⟨some 13, Op.pick (Operand.tmp 8) (Operand.const (Value.bool true)) (Operand.tmp 12), none, true⟩] e σ Q := propext ⟨fun h => h, fun h => h⟩
def k20_r2 : List COp := [
  ⟨some 4, Op.assign (Operand.const (Value.slice .none 0 0)), none, true⟩]
theorem k20_r2_e {P : Program} {pr : Prim} {N : Nat} {e : Nat → V} {σ : St} {Q : VX → (Nat → V) → St → Prop} : Eo P pr N k20_r2 e σ Q = Eo P pr N [
  ⟨some 4, Op.assign (Operand.const (Value.slice .none 0 0)), none, true⟩] e σ Q := propext ⟨fun h => h, fun h => h⟩
def k20_r3 : List COp := [
  ⟨some 14, Op.move (Operand.tmp 1), none, true⟩,
  ⟨some 15, Op.binOp BinOp.lss 3 (Operand.tmp 14) (Operand.const (Value.int IntKind.i64 0)) 3, none, true⟩,
  ⟨some 16, Op.move (Operand.tmp 15), none, true⟩,
  ⟨some 17, Op.move (Operand.tmp 1), some (16, false), true⟩,
  ⟨some 18, Op.move (Operand.tmp 0), some (16, false), true⟩,
  ⟨some 19, Op.nilCheck (Operand.tmp 18), some (16, false), true⟩,
  ⟨some 20, Op.fieldAddr 54 (Operand.tmp 19) 0, some (16, false), true⟩,
  ⟨some 21, Op.load 22 (Operand.tmp 20), some (16, false), true⟩,
  ⟨some 22, Op.call { callee := Callee.builtin Builtin.len, args := #[Operand.tmp 21], argTypes := #[22] }, some (16, false), true⟩,
  ⟨some 23, Op.binOp BinOp.gtr 3 (Operand.tmp 17) (Operand.tmp 22) 3, some (16, false), true⟩,
  ⟨some 24, Op.pick (Operand.tmp 16) (Operand.const (Value.bool true)) (Operand.tmp 23), none, true⟩]
theorem k20_r3_e {P : Program} {pr : Prim} {N : Nat} {e : Nat → V} {σ : St} {Q : VX → (Nat → V) → St → Prop} : Eo P pr N k20_r3 e σ Q = Eo P pr N [
  ⟨some 14, Op.move (Operand.tmp 1), none, true⟩,
  ⟨some 15, Op.binOp BinOp.lss 3 (Operand.tmp 14) (Operand.const (Value.int IntKind.i64 0)) 3, none, true⟩,
  ⟨some 16, Op.move (Operand.tmp 15), none, true⟩,
  ⟨some 17, Op.move (Operand.tmp 1), some (16, false), true⟩,
  ⟨some 18, Op.move (Operand.tmp 0), some (16, false), true⟩,
  ⟨some 19, Op.nilCheck (Operand.tmp 18), some (16, false), true⟩,
  ⟨some 20, Op.fieldAddr 54 (Operand.tmp 19) 0, some (16, false), true⟩,
  ⟨some 21, Op.load 22 (Operand.tmp 20), some (16, false), true⟩,
  ⟨some 22, Op.call { callee := Callee.builtin Builtin.len, args := #[Operand.tmp 21], argTypes := #[22] }, some (16, false), true⟩,
  ⟨some 23, Op.binOp BinOp.gtr 3 (Operand.tmp 17) (Operand.tmp 22) 3, some (16, false), true⟩,
  ⟨some 24, Op.pick (Operand.tmp 16) (Operand.const (Value.bool true)) (Operand.tmp 23), none, true⟩] e σ Q := propext ⟨fun h => h, fun h => h⟩
def k20_r4 : List COp := [
  ⟨some 25, Op.move (Operand.tmp 0), none, true⟩,
  ⟨some 26, Op.nilCheck (Operand.tmp 25), none, true⟩,
  ⟨some 27, Op.fieldAddr 54 (Operand.tmp 26) 1, none, true⟩,
  ⟨none, Op.store 4 (Operand.tmp 27) (Operand.const (Value.bool true)), none, true⟩]
theorem k20_r4_e {P : Program} {pr : Prim} {N : Nat} {e : Nat → V} {σ : St} {Q : VX → (Nat → V) → St → Prop} : Eo P pr N k20_r4 e σ Q = Eo P pr N [
  ⟨some 25, Op.move (Operand.tmp 0), none, true⟩,
  ⟨some 26, Op.nilCheck (Operand.tmp 25), none, true⟩,
  ⟨some 27, Op.fieldAddr 54 (Operand.tmp 26) 1, none, true⟩,
  ⟨none, Op.store 4 (Operand.tmp 27) (Operand.const (Value.bool true)), none, true⟩] e σ Q := propext ⟨fun h => h, fun h => h⟩
def k20_r5 : List COp := [
  ⟨some 4, Op.assign (Operand.const (Value.slice .none 0 0)), none, true⟩]
theorem k20_r5_e {P : Program} {pr : Prim} {N : Nat} {e : Nat → V} {σ : St} {Q : VX → (Nat → V) → St → Prop} : Eo P pr N k20_r5 e σ Q = Eo P pr N [
  ⟨some 4, Op.assign (Operand.const (Value.slice .none 0 0)), none, true⟩] e σ Q := propext ⟨fun h => h, fun h => h⟩
def k20_r6 : List COp := [
  ⟨some 28, Op.buildSlice 22 0 #[], none, true⟩,
  ⟨some 29, Op.move (Operand.tmp 0), none, true⟩,
  ⟨some 30, Op.nilCheck (Operand.tmp 29), none, true⟩,
  ⟨some 31, Op.fieldAddr 54 (Operand.tmp 30) 0, none, true⟩,
  ⟨some 32, Op.load 22 (Operand.tmp 31), none, true⟩,
  ⟨some 33, Op.move (Operand.tmp 1), none, true⟩,
  ⟨some 34, Op.slice 22 (Operand.tmp 32) .none (some (Operand.tmp 33)) .none, none, true⟩,
  ⟨some 35, Op.call { callee := Callee.builtin Builtin.append, args := #[Operand.tmp 28, Operand.tmp 34], argTypes := #[22, 22] }, none, true⟩,
  ⟨some 5, Op.assign (Operand.tmp 35), none, true⟩]
theorem k20_r6_e {P : Program} {pr : Prim} {N : Nat} {e : Nat → V} {σ : St} {Q : VX → (Nat → V) → St → Prop} : Eo P pr N k20_r6 e σ Q = Eo P pr N [
  ⟨some 28, Op.buildSlice 22 0 #[], none, true⟩,
  ⟨some 29, Op.move (Operand.tmp 0), none, true⟩,
  ⟨some 30, Op.nilCheck (Operand.tmp 29), none, true⟩,
  ⟨some 31, Op.fieldAddr 54 (Operand.tmp 30) 0, none, true⟩,
  ⟨some 32, Op.load 22 (Operand.tmp 31), none, true⟩,
  ⟨some 33, Op.move (Operand.tmp 1), none, true⟩,
  ⟨some 34, Op.slice 22 (Operand.tmp 32) .none (some (Operand.tmp 33)) .none, none, true⟩,
  ⟨some 35, Op.call { callee := Callee.builtin Builtin.append, args := #[Operand.tmp 28, Operand.tmp 34], argTypes := #[22, 22] }, none, true⟩,
  ⟨some 5, Op.assign (Operand.tmp 35), none, true⟩] e σ Q := propext ⟨fun h => h, fun h => h⟩
def k20_r7 : List COp := [
  ⟨some 36, Op.move (Operand.tmp 0), none, true⟩,
  ⟨some 37, Op.move (Operand.tmp 0), none, true⟩,
  ⟨some 38, Op.nilCheck (Operand.tmp 37), none, true⟩,
  ⟨some 39, Op.fieldAddr 54 (Operand.tmp 38) 0, none, true⟩,
  ⟨some 40, Op.load 22 (Operand.tmp 39), none, true⟩,
  ⟨some 41, Op.move (Operand.tmp 1), none, true⟩,
  ⟨some 42, Op.slice 22 (Operand.tmp 40) (some (Operand.tmp 41)) .none .none, none, true⟩,
  ⟨some 43, Op.nilCheck (Operand.tmp 36), none, true⟩,
  ⟨some 44, Op.fieldAddr 54 (Operand.tmp 43) 0, none, true⟩,
  ⟨none, Op.store 22 (Operand.tmp 44) (Operand.tmp 42), none, true⟩]
theorem k20_r7_e {P : Program} {pr : Prim} {N : Nat} {e : Nat → V} {σ : St} {Q : VX → (Nat → V) → St → Prop} : Eo P pr N k20_r7 e σ Q = Eo P pr N [
  ⟨some 36, Op.move (Operand.tmp 0), none, true⟩,
  ⟨some 37, Op.move (Operand.tmp 0), none, true⟩,
  ⟨some 38, Op.nilCheck (Operand.tmp 37), none, true⟩,
  ⟨some 39, Op.fieldAddr 54 (Operand.tmp 38) 0, none, true⟩,
  ⟨some 40, Op.load 22 (Operand.tmp 39), none, true⟩,
  ⟨some 41, Op.move (Operand.tmp 1), none, true⟩,
  ⟨some 42, Op.slice 22 (Operand.tmp 40) (some (Operand.tmp 41)) .none .none, none, true⟩,
  ⟨some 43, Op.nilCheck (Operand.tmp 36), none, true⟩,
  ⟨some 44, Op.fieldAddr 54 (Operand.tmp 43) 0, none, true⟩,
  ⟨none, Op.store 22 (Operand.tmp 44) (Operand.tmp 42), none, true⟩] e σ Q := propext ⟨fun h => h, fun h => h⟩
def k20_r8 : List COp := [
  ⟨some 45, Op.move (Operand.tmp 5), none, true⟩,
  ⟨some 4, Op.assign (Operand.tmp 45), none, true⟩]
theorem k20_r8_e {P : Program} {pr : Prim} {N : Nat} {e : Nat → V} {σ : St} {Q : VX → (Nat → V) → St → Prop} : Eo P pr N k20_r8 e σ Q = Eo P pr N [
  ⟨some 45, Op.move (Operand.tmp 5), none, true⟩,
  ⟨some 4, Op.assign (Operand.tmp 45), none, true⟩] e σ Q := propext ⟨fun h => h, fun h => h⟩
def k20 : CC := (.seq (.region k20_r0) (.seq (.seq (.region k20_r1) (.cond (Operand.tmp 13) (.seq (.region k20_r2) .ret) .skip)) (.seq (.seq (.region k20_r3) (.cond (Operand.tmp 24) (.seq (.region k20_r4) (.seq (.region k20_r5) .ret)) .skip)) (.seq (.region k20_r6) (.seq (.region k20_r7) (.seq (.region k20_r8) .ret))))))
theorem k20_e {P : Program} {pr : Prim} {N : Nat} {e : Nat → V} {σ : St} {Q : VX → (Nat → V) → St → Prop} : Ev P pr N k20 e σ Q = Ev P pr N (.seq (.region k20_r0) (.seq (.seq (.region k20_r1) (.cond (Operand.tmp 13) (.seq (.region k20_r2) .ret) .skip)) (.seq (.seq (.region k20_r3) (.cond (Operand.tmp 24) (.seq (.region k20_r4) (.seq (.region k20_r5) .ret)) .skip)) (.seq (.region k20_r6) (.seq (.region k20_r7) (.seq (.region k20_r8) .ret)))))) e σ Q := propext ⟨fun h => h, fun h => h⟩
/-- (*quern/pack.Reader).Bytes -/
theorem k20_is : FnIs Try.prog noPrim 20 46 [ResultVar.tmp 4] k20 := FnIs.of_fn Try.func20 (by kernel_rfl)
def k21_r0 : List COp := [
  ⟨some 2, Op.assign (Operand.const (Value.bool false)), none, true⟩]
theorem k21_r0_e {P : Program} {pr : Prim} {N : Nat} {e : Nat → V} {σ : St} {Q : VX → (Nat → V) → St → Prop} : Eo P pr N k21_r0 e σ Q = Eo P pr N [
  ⟨some 2, Op.assign (Operand.const (Value.bool false)), none, true⟩] e σ Q := propext ⟨fun h => h, fun h => h⟩
def k21_r1 : List COp := [
  ⟨some 3, Op.move (Operand.tmp 0), none, true⟩,
  ⟨some 4, Op.binOp BinOp.neq 40 (Operand.tmp 3) (Operand.const (Value.pointer .none)) 40, none, true⟩,
  ⟨some 5, Op.move (Operand.tmp 4), none, true⟩,
  ⟨some 6, Op.move (Operand.tmp 0), some (5, true), true⟩,
  ⟨some 7, Op.nilCheck (Operand.tmp 6), some (5, true), true⟩,
  ⟨some 8, Op.fieldAddr 54 (Operand.tmp 7) 1, some (5, true), true⟩,
  ⟨some 9, Op.load 4 (Operand.tmp 8), some (5, true), true⟩,
  ⟨some 10, Op.unOp UnOp.not 4 (Operand.tmp 9), some (5, true), true⟩,
  ⟨some 11, Op.pick (Operand.tmp 5) (Operand.tmp 10) (Operand.const (Value.bool false)), none, true⟩,
  ⟨some 12, Op.move (Operand.tmp 11), none, true⟩,
  ⟨some 13, Op.move (Operand.tmp 0), some (12, true), true⟩,
  ⟨some 14, Op.nilCheck (Operand.tmp 13), some (12, true), true⟩,
  ⟨some 15, Op.fieldAddr 54 (Operand.tmp 14) 0, some (12, true), true⟩,
  ⟨some 16, Op.load 22 (Operand.tmp 15), some (12, true), true⟩,
  ⟨some 17, Op.call { callee := Callee.builtin Builtin.len, args := #[Operand.tmp 16], argTypes := #[22] }, some (12, true), true⟩,
  ⟨some 18, Op.binOp BinOp.eql 3 (Operand.tmp 17) (Operand.const (Value.int IntKind.i64 0)) 3, some (12, true), true⟩,
  ⟨some 19, Op.pick (Operand.tmp 12) (Operand.tmp 18) (Operand.const (Value.bool false)), none, true⟩,
  ⟨some 2, Op.assign (Operand.tmp 19), none, true⟩]
theorem k21_r1_e {P : Program} {pr : Prim} {N : Nat} {e : Nat → V} {σ : St} {Q : VX → (Nat → V) → St → Prop} : Eo P pr N k21_r1 e σ Q = Eo P pr N [
  ⟨some 3, Op.move (Operand.tmp 0), none, true⟩,
  ⟨some 4, Op.binOp BinOp.neq 40 (Operand.tmp 3) (Operand.const (Value.pointer .none)) 40, none, true⟩,
  ⟨some 5, Op.move (Operand.tmp 4), none, true⟩,
  ⟨some 6, Op.move (Operand.tmp 0), some (5, true), true⟩,
  ⟨some 7, Op.nilCheck (Operand.tmp 6), some (5, true), true⟩,
  ⟨some 8, Op.fieldAddr 54 (Operand.tmp 7) 1, some (5, true), true⟩,
  ⟨some 9, Op.load 4 (Operand.tmp 8), some (5, true), true⟩,
  ⟨some 10, Op.unOp UnOp.not 4 (Operand.tmp 9), some (5, true), true⟩,
  ⟨some 11, Op.pick (Operand.tmp 5) (Operand.tmp 10) (Operand.const (Value.bool false)), none, true⟩,
  ⟨some 12, Op.move (Operand.tmp 11), none, true⟩,
  ⟨some 13, Op.move (Operand.tmp 0), some (12, true), true⟩,
  ⟨some 14, Op.nilCheck (Operand.tmp 13), some (12, true), true⟩,
  ⟨some 15, Op.fieldAddr 54 (Operand.tmp 14) 0, some (12, true), true⟩,
  ⟨some 16, Op.load 22 (Operand.tmp 15), some (12, true), true⟩,
  ⟨some 17, Op.call { callee := Callee.builtin Builtin.len, args := #[Operand.tmp 16], argTypes := #[22] }, some (12, true), true⟩,
  ⟨some 18, Op.binOp BinOp.eql 3 (Operand.tmp 17) (Operand.const (Value.int IntKind.i64 0)) 3, some (12, true), true⟩,
  ⟨some 19, Op.pick (Operand.tmp 12) (Operand.tmp 18) (Operand.const (Value.bool false)), none, true⟩,
  ⟨some 2, Op.assign (Operand.tmp 19), none, true⟩] e σ Q := propext ⟨fun h => h, fun h => h⟩
def k21 : CC := (.seq (.region k21_r0) (.seq (.region k21_r1) .ret))
theorem k21_e {P : Program} {pr : Prim} {N : Nat} {e : Nat → V} {σ : St} {Q : VX → (Nat → V) → St → Prop} : Ev P pr N k21 e σ Q = Ev P pr N (.seq (.region k21_r0) (.seq (.region k21_r1) .ret)) e σ Q := propext ⟨fun h => h, fun h => h⟩
/-- (*quern/pack.Reader).End -/
theorem k21_is : FnIs Try.prog noPrim 21 20 [ResultVar.tmp 2] k21 := FnIs.of_fn Try.func21 (by kernel_rfl)
def k22_r0 : List COp := [
  ⟨some 2, Op.assign (Operand.const (Value.int IntKind.i64 0)), none, true⟩]
theorem k22_r0_e {P : Program} {pr : Prim} {N : Nat} {e : Nat → V} {σ : St} {Q : VX → (Nat → V) → St → Prop} : Eo P pr N k22_r0 e σ Q = Eo P pr N [
  ⟨some 2, Op.assign (Operand.const (Value.int IntKind.i64 0)), none, true⟩] e σ Q := propext ⟨fun h => h, fun h => h⟩
def k22_r1 : List COp := [
  ⟨some 5, Op.move (Operand.tmp 0), none, true⟩,
  ⟨some 6, Op.binOp BinOp.eql 40 (Operand.tmp 5) (Operand.const (Value.pointer .none)) 40, none, true⟩,
  ⟨some 7, Op.move (Operand.tmp 6), none, true⟩,
  ⟨some 8, Op.move (Operand.tmp 0), some (7, false), true⟩,
  ⟨some 9, Op.nilCheck (Operand.tmp 8), some (7, false), true⟩,
  ⟨some 10, Op.fieldAddr 54 (Operand.tmp 9) 1, some (7, false), true⟩,
  ⟨some 11, Op.load 4 (Operand.tmp 10), some (7, false), true⟩,
  ⟨some 12, Op.pick (Operand.tmp 7) (Operand.const (Value.bool true)) (Operand.tmp 11), none, true⟩]
theorem k22_r1_e {P : Program} {pr : Prim} {N : Nat} {e : Nat → V} {σ : St} {Q : VX → (Nat → V) → St → Prop} : Eo P pr N k22_r1 e σ Q = Eo P pr N [
  ⟨some 5, Op.move (Operand.tmp 0), none, true⟩,
  ⟨some 6, Op.binOp BinOp.eql 40 (Operand.tmp 5) (Operand.const (Value.pointer .none)) 40, none, true⟩,
  ⟨some 7, Op.move (Operand.tmp 6), none, true⟩,
  ⟨some 8, Op.move (Operand.tmp 0), some (7, false), true⟩,
  ⟨some 9, Op.nilCheck (Operand.tmp 8), some (7, false), true⟩,
  ⟨some 10, Op.fieldAddr 54 (Operand.tmp 9) 1, some (7, false), true⟩,
  ⟨some 11, Op.load 4 (Operand.tmp 10), some (7, false), true⟩,
  ⟨some 12, Op.pick (Operand.tmp 7) (Operand.const (Value.bool true)) (Operand.tmp 11), none, true⟩] e σ Q := propext ⟨fun h => h, fun h => h⟩
def k22_r2 : List COp := [
  ⟨some 2, Op.assign (Operand.const (Value.int IntKind.i64 0)), none, true⟩]
theorem k22_r2_e {P : Program} {pr : Prim} {N : Nat} {e : Nat → V} {σ : St} {Q : VX → (Nat → V) → St → Prop} : Eo P pr N k22_r2 e σ Q = Eo P pr N [
  ⟨some 2, Op.assign (Operand.const (Value.int IntKind.i64 0)), none, true⟩] e σ Q := propext ⟨fun h => h, fun h => h⟩
def k22_r3 : List COp := [
  ⟨some 14, Op.move (Operand.tmp 0), none, true⟩,
  ⟨some 15, Op.nilCheck (Operand.tmp 14), none, true⟩,
  ⟨some 16, Op.fieldAddr 54 (Operand.tmp 15) 0, none, true⟩,
  ⟨some 17, Op.load 22 (Operand.tmp 16), none, true⟩,
  ⟨some 18, Op.call { callee := Callee.value (Operand.func 12), args := #[Operand.tmp 17], argTypes := #[22] }, none, true⟩,
  ⟨some 13, Op.move (Operand.tmp 18), none, true⟩,
  ⟨some 19, Op.extract (Operand.tmp 13) 0, none, true⟩,
  ⟨some 20, Op.extract (Operand.tmp 13) 1, none, true⟩,
  ⟨some 3, Op.assign (Operand.tmp 19), none, true⟩,
  ⟨some 4, Op.assign (Operand.tmp 20), none, true⟩]
theorem k22_r3_e {P : Program} {pr : Prim} {N : Nat} {e : Nat → V} {σ : St} {Q : VX → (Nat → V) → St → Prop} : Eo P pr N k22_r3 e σ Q = Eo P pr N [
  ⟨some 14, Op.move (Operand.tmp 0), none, true⟩,
  ⟨some 15, Op.nilCheck (Operand.tmp 14), none, true⟩,
  ⟨some 16, Op.fieldAddr 54 (Operand.tmp 15) 0, none, true⟩,
  ⟨some 17, Op.load 22 (Operand.tmp 16), none, true⟩,
  ⟨some 18, Op.call { callee := Callee.value (Operand.func 12), args := #[Operand.tmp 17], argTypes := #[22] }, none, true⟩,
  ⟨some 13, Op.move (Operand.tmp 18), none, true⟩,
  ⟨some 19, Op.extract (Operand.tmp 13) 0, none, true⟩,
  ⟨some 20, Op.extract (Operand.tmp 13) 1, none, true⟩,
  ⟨some 3, Op.assign (Operand.tmp 19), none, true⟩,
  ⟨some 4, Op.assign (Operand.tmp 20), none, true⟩] e σ Q := propext ⟨fun h => h, fun h => h⟩
def k22_r4 : List COp := [
  ⟨some 21, Op.move (Operand.tmp 0), none, true⟩,
  ⟨some 22, Op.move (Operand.tmp 4), none, true⟩,
  ⟨some 23, Op.binOp BinOp.eql 3 (Operand.tmp 22) (Operand.const (Value.int IntKind.i64 0)) 3, none, true⟩,
  ⟨some 24, Op.nilCheck (Operand.tmp 21), none, true⟩,
  ⟨some 25, Op.fieldAddr 54 (Operand.tmp 24) 1, none, true⟩,
  ⟨none, Op.store 4 (Operand.tmp 25) (Operand.tmp 23), none, true⟩]
theorem k22_r4_e {P : Program} {pr : Prim} {N : Nat} {e : Nat → V} {σ : St} {Q : VX → (Nat → V) → St → Prop} : Eo P pr N k22_r4 e σ Q = Eo P pr N [
  ⟨some 21, Op.move (Operand.tmp 0), none, true⟩,
  ⟨some 22, Op.move (Operand.tmp 4), none, true⟩,
  ⟨some 23, Op.binOp BinOp.eql 3 (Operand.tmp 22) (Operand.const (Value.int IntKind.i64 0)) 3, none, true⟩,
  ⟨some 24, Op.nilCheck (Operand.tmp 21), none, true⟩,
  ⟨some 25, Op.fieldAddr 54 (Operand.tmp 24) 1, none, true⟩,
  ⟨none, Op.store 4 (Operand.tmp 25) (Operand.tmp 23), none, true⟩] e σ Q := propext ⟨fun h => h, fun h => h⟩
def k22_r5 : List COp := [
  ⟨some 26, Op.move (Operand.tmp 0), none, true⟩,
  ⟨some 27, Op.move (Operand.tmp 0), none, true⟩,
  ⟨some 28, Op.nilCheck (Operand.tmp 27), none, true⟩,
  ⟨some 29, Op.fieldAddr 54 (Operand.tmp 28) 0, none, true⟩,
  ⟨some 30, Op.load 22 (Operand.tmp 29), none, true⟩,
  ⟨some 31, Op.move (Operand.tmp 4), none, true⟩,
  ⟨some 32, Op.slice 22 (Operand.tmp 30) (some (Operand.tmp 31)) .none .none, none, true⟩,
  ⟨some 33, Op.nilCheck (Operand.tmp 26), none, true⟩,
  ⟨some 34, Op.fieldAddr 54 (Operand.tmp 33) 0, none, true⟩,
  ⟨none, Op.store 22 (Operand.tmp 34) (Operand.tmp 32), none, true⟩]
theorem k22_r5_e {P : Program} {pr : Prim} {N : Nat} {e : Nat → V} {σ : St} {Q : VX → (Nat → V) → St → Prop} : Eo P pr N k22_r5 e σ Q = Eo P pr N [
  ⟨some 26, Op.move (Operand.tmp 0), none, true⟩,
  ⟨some 27, Op.move (Operand.tmp 0), none, true⟩,
  ⟨some 28, Op.nilCheck (Operand.tmp 27), none, true⟩,
  ⟨some 29, Op.fieldAddr 54 (Operand.tmp 28) 0, none, true⟩,
  ⟨some 30, Op.load 22 (Operand.tmp 29), none, true⟩,
  ⟨some 31, Op.move (Operand.tmp 4), none, true⟩,
  ⟨some 32, Op.slice 22 (Operand.tmp 30) (some (Operand.tmp 31)) .none .none, none, true⟩,
  ⟨some 33, Op.nilCheck (Operand.tmp 26), none, true⟩,
  ⟨some 34, Op.fieldAddr 54 (Operand.tmp 33) 0, none, true⟩,
  ⟨none, Op.store 22 (Operand.tmp 34) (Operand.tmp 32), none, true⟩] e σ Q := propext ⟨fun h => h, fun h => h⟩
def k22_r6 : List COp := [
  ⟨some 35, Op.move (Operand.tmp 3), none, true⟩,
  ⟨some 2, Op.assign (Operand.tmp 35), none, true⟩]
theorem k22_r6_e {P : Program} {pr : Prim} {N : Nat} {e : Nat → V} {σ : St} {Q : VX → (Nat → V) → St → Prop} : Eo P pr N k22_r6 e σ Q = Eo P pr N [
  ⟨some 35, Op.move (Operand.tmp 3), none, true⟩,
  ⟨some 2, Op.assign (Operand.tmp 35), none, true⟩] e σ Q := propext ⟨fun h => h, fun h => h⟩
def k22 : CC := (.seq (.region k22_r0) (.seq (.seq (.region k22_r1) (.cond (Operand.tmp 12) (.seq (.region k22_r2) .ret) .skip)) (.seq (.region k22_r3) (.seq (.region k22_r4) (.seq (.region k22_r5) (.seq (.region k22_r6) .ret))))))
theorem k22_e {P : Program} {pr : Prim} {N : Nat} {e : Nat → V} {σ : St} {Q : VX → (Nat → V) → St → Prop} : Ev P pr N k22 e σ Q = Ev P pr N (.seq (.region k22_r0) (.seq (.seq (.region k22_r1) (.cond (Operand.tmp 12) (.seq (.region k22_r2) .ret) .skip)) (.seq (.region k22_r3) (.seq (.region k22_r4) (.seq (.region k22_r5) (.seq (.region k22_r6) .ret)))))) e σ Q := propext ⟨fun h => h, fun h => h⟩
/-- (*quern/pack.Reader).Number -/
theorem k22_is : FnIs Try.prog noPrim 22 36 [ResultVar.tmp 2] k22 := FnIs.of_fn Try.func22 (by kernel_rfl)
def k23_r0 : List COp := [
  ⟨some 2, Op.assign (Operand.const (Value.int IntKind.i64 0)), none, true⟩]
theorem k23_r0_e {P : Program} {pr : Prim} {N : Nat} {e : Nat → V} {σ : St} {Q : VX → (Nat → V) → St → Prop} : Eo P pr N k23_r0 e σ Q = Eo P pr N [
  ⟨some 2, Op.assign (Operand.const (Value.int IntKind.i64 0)), none, true⟩] e σ Q := propext ⟨fun h => h, fun h => h⟩
def k23_r1 : List COp := [
  ⟨some 5, Op.move (Operand.tmp 0), none, true⟩,
  ⟨some 6, Op.nilCheck (Operand.tmp 5), none, true⟩,
  ⟨some 7, Op.fieldAddr 46 (Operand.tmp 6) 1, none, true⟩,
  ⟨some 8, Op.load 4 (Operand.tmp 7), none, true⟩]
theorem k23_r1_e {P : Program} {pr : Prim} {N : Nat} {e : Nat → V} {σ : St} {Q : VX → (Nat → V) → St → Prop} : Eo P pr N k23_r1 e σ Q = Eo P pr N [
  ⟨some 5, Op.move (Operand.tmp 0), none, true⟩,
  ⟨some 6, Op.nilCheck (Operand.tmp 5), none, true⟩,
  ⟨some 7, Op.fieldAddr 46 (Operand.tmp 6) 1, none, true⟩,
  ⟨some 8, Op.load 4 (Operand.tmp 7), none, true⟩] e σ Q := propext ⟨fun h => h, fun h => h⟩
def k23_r2 : List COp := [
  ⟨some 2, Op.assign (Operand.const (Value.int IntKind.i64 0)), none, true⟩]
theorem k23_r2_e {P : Program} {pr : Prim} {N : Nat} {e : Nat → V} {σ : St} {Q : VX → (Nat → V) → St → Prop} : Eo P pr N k23_r2 e σ Q = Eo P pr N [
  ⟨some 2, Op.assign (Operand.const (Value.int IntKind.i64 0)), none, true⟩] e σ Q := propext ⟨fun h => h, fun h => h⟩
def k23_r3 : List COp := [
  ⟨some 10, Op.move (Operand.tmp 0), none, true⟩,
  ⟨some 11, Op.nilCheck (Operand.tmp 10), none, true⟩,
  ⟨some 12, Op.fieldAddr 46 (Operand.tmp 11) 0, none, true⟩,
  ⟨some 13, Op.load 22 (Operand.tmp 12), none, true⟩,
  ⟨some 14, Op.call { callee := Callee.value (Operand.func 13), args := #[Operand.tmp 13], argTypes := #[22] }, none, true⟩,
  ⟨some 9, Op.move (Operand.tmp 14), none, true⟩,
  ⟨some 15, Op.extract (Operand.tmp 9) 0, none, true⟩,
  ⟨some 16, Op.extract (Operand.tmp 9) 1, none, true⟩,
  ⟨some 3, Op.assign (Operand.tmp 15), none, true⟩,
  ⟨some 4, Op.assign (Operand.tmp 16), none, true⟩]
theorem k23_r3_e {P : Program} {pr : Prim} {N : Nat} {e : Nat → V} {σ : St} {Q : VX → (Nat → V) → St → Prop} : Eo P pr N k23_r3 e σ Q = Eo P pr N [
  ⟨some 10, Op.move (Operand.tmp 0), none, true⟩,
  ⟨some 11, Op.nilCheck (Operand.tmp 10), none, true⟩,
  ⟨some 12, Op.fieldAddr 46 (Operand.tmp 11) 0, none, true⟩,
  ⟨some 13, Op.load 22 (Operand.tmp 12), none, true⟩,
  ⟨some 14, Op.call { callee := Callee.value (Operand.func 13), args := #[Operand.tmp 13], argTypes := #[22] }, none, true⟩,
  ⟨some 9, Op.move (Operand.tmp 14), none, true⟩,
  ⟨some 15, Op.extract (Operand.tmp 9) 0, none, true⟩,
  ⟨some 16, Op.extract (Operand.tmp 9) 1, none, true⟩,
  ⟨some 3, Op.assign (Operand.tmp 15), none, true⟩,
  ⟨some 4, Op.assign (Operand.tmp 16), none, true⟩] e σ Q := propext ⟨fun h => h, fun h => h⟩
def k23_r4 : List COp := [
  ⟨some 17, Op.move (Operand.tmp 4), none, true⟩,
  ⟨some 18, Op.binOp BinOp.eql 3 (Operand.tmp 17) (Operand.const (Value.int IntKind.i64 0)) 3, none, true⟩]
theorem k23_r4_e {P : Program} {pr : Prim} {N : Nat} {e : Nat → V} {σ : St} {Q : VX → (Nat → V) → St → Prop} : Eo P pr N k23_r4 e σ Q = Eo P pr N [
  ⟨some 17, Op.move (Operand.tmp 4), none, true⟩,
  ⟨some 18, Op.binOp BinOp.eql 3 (Operand.tmp 17) (Operand.const (Value.int IntKind.i64 0)) 3, none, true⟩] e σ Q := propext ⟨fun h => h, fun h => h⟩
def k23_r5 : List COp := [
  ⟨some 19, Op.move (Operand.tmp 0), none, true⟩,
  ⟨some 20, Op.nilCheck (Operand.tmp 19), none, true⟩,
  ⟨some 21, Op.fieldAddr 46 (Operand.tmp 20) 1, none, true⟩,
  ⟨none, Op.store 4 (Operand.tmp 21) (Operand.const (Value.bool true)), none, true⟩]
theorem k23_r5_e {P : Program} {pr : Prim} {N : Nat} {e : Nat → V} {σ : St} {Q : VX → (Nat → V) → St → Prop} : Eo P pr N k23_r5 e σ Q = Eo P pr N [
  ⟨some 19, Op.move (Operand.tmp 0), none, true⟩,
  ⟨some 20, Op.nilCheck (Operand.tmp 19), none, true⟩,
  ⟨some 21, Op.fieldAddr 46 (Operand.tmp 20) 1, none, true⟩,
  ⟨none, Op.store 4 (Operand.tmp 21) (Operand.const (Value.bool true)), none, true⟩] e σ Q := propext ⟨fun h => h, fun h => h⟩
def k23_r6 : List COp := [
  ⟨some 2, Op.assign (Operand.const (Value.int IntKind.i64 0)), none, true⟩]
theorem k23_r6_e {P : Program} {pr : Prim} {N : Nat} {e : Nat → V} {σ : St} {Q : VX → (Nat → V) → St → Prop} : Eo P pr N k23_r6 e σ Q = Eo P pr N [
  ⟨some 2, Op.assign (Operand.const (Value.int IntKind.i64 0)), none, true⟩] e σ Q := propext ⟨fun h => h, fun h => h⟩
def k23_r7 : List COp := [
  ⟨some 22, Op.move (Operand.tmp 0), none, true⟩,
  ⟨some 23, Op.move (Operand.tmp 0), none, true⟩,
  ⟨some 24, Op.nilCheck (Operand.tmp 23), none, true⟩,
  ⟨some 25, Op.fieldAddr 46 (Operand.tmp 24) 0, none, true⟩,
  ⟨some 26, Op.load 22 (Operand.tmp 25), none, true⟩,
  ⟨some 27, Op.move (Operand.tmp 4), none, true⟩,
  ⟨some 28, Op.slice 22 (Operand.tmp 26) (some (Operand.tmp 27)) .none .none, none, true⟩,
  ⟨some 29, Op.nilCheck (Operand.tmp 22), none, true⟩,
  ⟨some 30, Op.fieldAddr 46 (Operand.tmp 29) 0, none, true⟩,
  ⟨none, Op.store 22 (Operand.tmp 30) (Operand.tmp 28), none, true⟩]
theorem k23_r7_e {P : Program} {pr : Prim} {N : Nat} {e : Nat → V} {σ : St} {Q : VX → (Nat → V) → St → Prop} : Eo P pr N k23_r7 e σ Q = Eo P pr N [
  ⟨some 22, Op.move (Operand.tmp 0), none, true⟩,
  ⟨some 23, Op.move (Operand.tmp 0), none, true⟩,
  ⟨some 24, Op.nilCheck (Operand.tmp 23), none, true⟩,
  ⟨some 25, Op.fieldAddr 46 (Operand.tmp 24) 0, none, true⟩,
  ⟨some 26, Op.load 22 (Operand.tmp 25), none, true⟩,
  ⟨some 27, Op.move (Operand.tmp 4), none, true⟩,
  ⟨some 28, Op.slice 22 (Operand.tmp 26) (some (Operand.tmp 27)) .none .none, none, true⟩,
  ⟨some 29, Op.nilCheck (Operand.tmp 22), none, true⟩,
  ⟨some 30, Op.fieldAddr 46 (Operand.tmp 29) 0, none, true⟩,
  ⟨none, Op.store 22 (Operand.tmp 30) (Operand.tmp 28), none, true⟩] e σ Q := propext ⟨fun h => h, fun h => h⟩
def k23_r8 : List COp := [
  ⟨some 31, Op.move (Operand.tmp 3), none, true⟩,
  ⟨some 2, Op.assign (Operand.tmp 31), none, true⟩]
theorem k23_r8_e {P : Program} {pr : Prim} {N : Nat} {e : Nat → V} {σ : St} {Q : VX → (Nat → V) → St → Prop} : Eo P pr N k23_r8 e σ Q = Eo P pr N [
  ⟨some 31, Op.move (Operand.tmp 3), none, true⟩,
  ⟨some 2, Op.assign (Operand.tmp 31), none, true⟩] e σ Q := propext ⟨fun h => h, fun h => h⟩
def k23 : CC := (.seq (.region k23_r0) (.seq (.seq (.region k23_r1) (.cond (Operand.tmp 8) (.seq (.region k23_r2) .ret) .skip)) (.seq (.region k23_r3) (.seq (.seq (.region k23_r4) (.cond (Operand.tmp 18) (.seq (.region k23_r5) (.seq (.region k23_r6) .ret)) .skip)) (.seq (.region k23_r7) (.seq (.region k23_r8) .ret))))))
theorem k23_e {P : Program} {pr : Prim} {N : Nat} {e : Nat → V} {σ : St} {Q : VX → (Nat → V) → St → Prop} : Ev P pr N k23 e σ Q = Ev P pr N (.seq (.region k23_r0) (.seq (.seq (.region k23_r1) (.cond (Operand.tmp 8) (.seq (.region k23_r2) .ret) .skip)) (.seq (.region k23_r3) (.seq (.seq (.region k23_r4) (.cond (Operand.tmp 18) (.seq (.region k23_r5) (.seq (.region k23_r6) .ret)) .skip)) (.seq (.region k23_r7) (.seq (.region k23_r8) .ret)))))) e σ Q := propext ⟨fun h => h, fun h => h⟩
/-- (*quern/quernref01.Reader).Number -/
theorem k23_is : FnIs Try.prog noPrim 23 32 [ResultVar.tmp 2] k23 := FnIs.of_fn Try.func23 (by kernel_rfl)
def k24_r0 : List COp := [
  ⟨some 4, Op.assign (Operand.const (Value.slice .none 0 0)), none, true⟩]
theorem k24_r0_e {P : Program} {pr : Prim} {N : Nat} {e : Nat → V} {σ : St} {Q : VX → (Nat → V) → St → Prop} : Eo P pr N k24_r0 e σ Q = Eo P pr N [
  ⟨some 4, Op.assign (Operand.const (Value.slice .none 0 0)), none, true⟩] e σ Q := propext ⟨fun h => h, fun h => h⟩
def k24_r1 : List COp := [
  ⟨some 6, Op.move (Operand.tmp 0), none, true⟩,
  ⟨some 7, Op.nilCheck (Operand.tmp 6), none, true⟩,
  ⟨some 8, Op.fieldAddr 46 (Operand.tmp 7) 1, none, true⟩,
  ⟨some 9, Op.load 4 (Operand.tmp 8), none, true⟩,
  ⟨some 10, Op.move (Operand.tmp 9), none, true⟩,
  ⟨some 11, Op.move (Operand.tmp 1), some (10, false), true⟩,
  ⟨some 12, Op.binOp BinOp.lss 3 (Operand.tmp 11) (Operand.const (Value.int IntKind.i64 0)) 3, some (10, false), true⟩,
  ⟨some 13, Op.pick (Operand.tmp 10) (Operand.const (Value.bool true)) (Operand.tmp 12), none, true⟩,
  ⟨some 14, Op.move (Operand.tmp 13), none, true⟩,
  ⟨some 15, Op.move (Operand.tmp 1), some (14, false), true⟩,
  ⟨some 16, Op.move (Operand.tmp 0), some (14, false), true⟩,
  ⟨some 17, Op.nilCheck (Operand.tmp 16), some (14, false), true⟩,
  ⟨some 18, Op.fieldAddr 46 (Operand.tmp 17) 0, some (14, false), true⟩,
  ⟨some 19, Op.load 22 (Operand.tmp 18), some (14, false), true⟩,
  ⟨some 20, Op.call { callee := Callee.builtin Builtin.len, args := #[Operand.tmp 19], argTypes := #[22] }, some (14, false), true⟩,
  ⟨some 21, Op.binOp BinOp.gtr 3 (Operand.tmp 15) (Operand.tmp 20) 3, some (14, false), true⟩,
  ⟨some 22, Op.pick (Operand.tmp 14) (Operand.const (Value.bool true)) (Operand.tmp 21), none, true⟩]
theorem k24_r1_e {P : Program} {pr : Prim} {N : Nat} {e : Nat → V} {σ : St} {Q : VX → (Nat → V) → St → Prop} : Eo P pr N k24_r1 e σ Q = Eo P pr N [
  ⟨some 6, Op.move (Operand.tmp 0), none, true⟩,
  ⟨some 7, Op.nilCheck (Operand.tmp 6), none, true⟩,
  ⟨some 8, Op.fieldAddr 46 (Operand.tmp 7) 1, none, true⟩,
  ⟨some 9, Op.load 4 (Operand.tmp 8), none, true⟩,
  ⟨some 10, Op.move (Operand.tmp 9), none, true⟩,
  ⟨some 11, Op.move (Operand.tmp 1), some (10, false), true⟩,
  ⟨some 12, Op.binOp BinOp.lss 3 (Operand.tmp 11) (Operand.const (Value.int IntKind.i64 0)) 3, some (10, false), true⟩,
  ⟨some 13, Op.pick (Operand.tmp 10) (Operand.const (Value.bool true)) (Operand.tmp 12), none, true⟩,
  ⟨some 14, Op.move (Operand.tmp 13), none, true⟩,
  ⟨some 15, Op.move (Operand.tmp 1), some (14, false), true⟩,
  ⟨some 16, Op.move (Operand.tmp 0), some (14, false), true⟩,
  ⟨some 17, Op.nilCheck (Operand.tmp 16), some (14, false), true⟩,
  ⟨some 18, Op.fieldAddr 46 (Operand.tmp 17) 0, some (14, false), true⟩,
  ⟨some 19, Op.load 22 (Operand.tmp 18), some (14, false), true⟩,
  ⟨some 20, Op.call { callee := Callee.builtin Builtin.len, args := #[Operand.tmp 19], argTypes := #[22] }, some (14, false), true⟩,
  ⟨some 21, Op.binOp BinOp.gtr 3 (Operand.tmp 15) (Operand.tmp 20) 3, some (14, false), true⟩,
  ⟨some 22, Op.pick (Operand.tmp 14) (Operand.const (Value.bool true)) (Operand.tmp 21), none, true⟩] e σ Q := propext ⟨fun h => h, fun h => h⟩
def k24_r2 : List COp := [
  ⟨some 23, Op.move (Operand.tmp 0), none, true⟩,
  ⟨some 24, Op.nilCheck (Operand.tmp 23), none, true⟩,
  ⟨some 25, Op.fieldAddr 46 (Operand.tmp 24) 1, none, true⟩,
  ⟨none, Op.store 4 (Operand.tmp 25) (Operand.const (Value.bool true)), none, true⟩]
theorem k24_r2_e {P : Program} {pr : Prim} {N : Nat} {e : Nat → V} {σ : St} {Q : VX → (Nat → V) → St → Prop} : Eo P pr N k24_r2 e σ Q = Eo P pr N [
  ⟨some 23, Op.move (Operand.tmp 0), none, true⟩,
  ⟨some 24, Op.nilCheck (Operand.tmp 23), none, true⟩,
  ⟨some 25, Op.fieldAddr 46 (Operand.tmp 24) 1, none, true⟩,
  ⟨none, Op.store 4 (Operand.tmp 25) (Operand.const (Value.bool true)), none, true⟩] e σ Q := propext ⟨fun h => h, fun h => h⟩
def k24_r3 : List COp := [
  ⟨some 4, Op.assign (Operand.const (Value.slice .none 0 0)), none, true⟩]
theorem k24_r3_e {P : Program} {pr : Prim} {N : Nat} {e : Nat → V} {σ : St} {Q : VX → (Nat → V) → St → Prop} : Eo P pr N k24_r3 e σ Q = Eo P pr N [
  ⟨some 4, Op.assign (Operand.const (Value.slice .none 0 0)), none, true⟩] e σ Q := propext ⟨fun h => h, fun h => h⟩
def k24_r4 : List COp := [
  ⟨some 26, Op.buildSlice 22 0 #[], none, true⟩,
  ⟨some 27, Op.move (Operand.tmp 0), none, true⟩,
  ⟨some 28, Op.nilCheck (Operand.tmp 27), none, true⟩,
  ⟨some 29, Op.fieldAddr 46 (Operand.tmp 28) 0, none, true⟩,
  ⟨some 30, Op.load 22 (Operand.tmp 29), none, true⟩,
  ⟨some 31, Op.move (Operand.tmp 1), none, true⟩,
  ⟨some 32, Op.slice 22 (Operand.tmp 30) .none (some (Operand.tmp 31)) .none, none, true⟩,
  ⟨some 33, Op.call { callee := Callee.builtin Builtin.append, args := #[Operand.tmp 26, Operand.tmp 32], argTypes := #[22, 22] }, none, true⟩,
  ⟨some 5, Op.assign (Operand.tmp 33), none, true⟩]
theorem k24_r4_e {P : Program} {pr : Prim} {N : Nat} {e : Nat → V} {σ : St} {Q : VX → (Nat → V) → St → Prop} : Eo P pr N k24_r4 e σ Q = Eo P pr N [
  ⟨some 26, Op.buildSlice 22 0 #[], none, true⟩,
  ⟨some 27, Op.move (Operand.tmp 0), none, true⟩,
  ⟨some 28, Op.nilCheck (Operand.tmp 27), none, true⟩,
  ⟨some 29, Op.fieldAddr 46 (Operand.tmp 28) 0, none, true⟩,
  ⟨some 30, Op.load 22 (Operand.tmp 29), none, true⟩,
  ⟨some 31, Op.move (Operand.tmp 1), none, true⟩,
  ⟨some 32, Op.slice 22 (Operand.tmp 30) .none (some (Operand.tmp 31)) .none, none, true⟩,
  ⟨some 33, Op.call { callee := Callee.builtin Builtin.append, args := #[Operand.tmp 26, Operand.tmp 32], argTypes := #[22, 22] }, none, true⟩,
  ⟨some 5, Op.assign (Operand.tmp 33), none, true⟩] e σ Q := propext ⟨fun h => h, fun h => h⟩
def k24_r5 : List COp := [
  ⟨some 34, Op.move (Operand.tmp 0), none, true⟩,
  ⟨some 35, Op.move (Operand.tmp 0), none, true⟩,
  ⟨some 36, Op.nilCheck (Operand.tmp 35), none, true⟩,
  ⟨some 37, Op.fieldAddr 46 (Operand.tmp 36) 0, none, true⟩,
  ⟨some 38, Op.load 22 (Operand.tmp 37), none, true⟩,
  ⟨some 39, Op.move (Operand.tmp 1), none, true⟩,
  ⟨some 40, Op.slice 22 (Operand.tmp 38) (some (Operand.tmp 39)) .none .none, none, true⟩,
  ⟨some 41, Op.nilCheck (Operand.tmp 34), none, true⟩,
  ⟨some 42, Op.fieldAddr 46 (Operand.tmp 41) 0, none, true⟩,
  ⟨none, Op.store 22 (Operand.tmp 42) (Operand.tmp 40), none, true⟩]
theorem k24_r5_e {P : Program} {pr : Prim} {N : Nat} {e : Nat → V} {σ : St} {Q : VX → (Nat → V) → St → Prop} : Eo P pr N k24_r5 e σ Q = Eo P pr N [
  ⟨some 34, Op.move (Operand.tmp 0), none, true⟩,
  ⟨some 35, Op.move (Operand.tmp 0), none, true⟩,
  ⟨some 36, Op.nilCheck (Operand.tmp 35), none, true⟩,
  ⟨some 37, Op.fieldAddr 46 (Operand.tmp 36) 0, none, true⟩,
  ⟨some 38, Op.load 22 (Operand.tmp 37), none, true⟩,
  ⟨some 39, Op.move (Operand.tmp 1), none, true⟩,
  ⟨some 40, Op.slice 22 (Operand.tmp 38) (some (Operand.tmp 39)) .none .none, none, true⟩,
  ⟨some 41, Op.nilCheck (Operand.tmp 34), none, true⟩,
  ⟨some 42, Op.fieldAddr 46 (Operand.tmp 41) 0, none, true⟩,
  ⟨none, Op.store 22 (Operand.tmp 42) (Operand.tmp 40), none, true⟩] e σ Q := propext ⟨fun h => h, fun h => h⟩
def k24_r6 : List COp := [
  ⟨some 43, Op.move (Operand.tmp 5), none, true⟩,
  ⟨some 4, Op.assign (Operand.tmp 43), none, true⟩]
theorem k24_r6_e {P : Program} {pr : Prim} {N : Nat} {e : Nat → V} {σ : St} {Q : VX → (Nat → V) → St → Prop} : Eo P pr N k24_r6 e σ Q = Eo P pr N [
  ⟨some 43, Op.move (Operand.tmp 5), none, true⟩,
  ⟨some 4, Op.assign (Operand.tmp 43), none, true⟩] e σ Q := propext ⟨fun h => h, fun h => h⟩
def k24 : CC := (.seq (.region k24_r0) (.seq (.seq (.region k24_r1) (.cond (Operand.tmp 22) (.seq (.region k24_r2) (.seq (.region k24_r3) .ret)) .skip)) (.seq (.region k24_r4) (.seq (.region k24_r5) (.seq (.region k24_r6) .ret)))))
theorem k24_e {P : Program} {pr : Prim} {N : Nat} {e : Nat → V} {σ : St} {Q : VX → (Nat → V) → St → Prop} : Ev P pr N k24 e σ Q = Ev P pr N (.seq (.region k24_r0) (.seq (.seq (.region k24_r1) (.cond (Operand.tmp 22) (.seq (.region k24_r2) (.seq (.region k24_r3) .ret)) .skip)) (.seq (.region k24_r4) (.seq (.region k24_r5) (.seq (.region k24_r6) .ret))))) e σ Q := propext ⟨fun h => h, fun h => h⟩
/-- (*quern/quernref01.Reader).Bytes -/
theorem k24_is : FnIs Try.prog noPrim 24 44 [ResultVar.tmp 4] k24 := FnIs.of_fn Try.func24 (by kernel_rfl)
def k25_r0 : List COp := [
  ⟨some 2, Op.assign (Operand.const (Value.int IntKind.u8 0)), none, true⟩]
theorem k25_r0_e {P : Program} {pr : Prim} {N : Nat} {e : Nat → V} {σ : St} {Q : VX → (Nat → V) → St → Prop} : Eo P pr N k25_r0 e σ Q = Eo P pr N [
  ⟨some 2, Op.assign (Operand.const (Value.int IntKind.u8 0)), none, true⟩] e σ Q := propext ⟨fun h => h, fun h => h⟩
def k25_r1 : List COp := [
  ⟨some 4, Op.move (Operand.tmp 0), none, true⟩,
  ⟨some 5, Op.call { callee := Callee.value (Operand.func 20), args := #[Operand.tmp 4, Operand.const (Value.int IntKind.i64 1)], argTypes := #[40, 3] }, none, true⟩,
  ⟨some 3, Op.assign (Operand.tmp 5), none, true⟩]
theorem k25_r1_e {P : Program} {pr : Prim} {N : Nat} {e : Nat → V} {σ : St} {Q : VX → (Nat → V) → St → Prop} : Eo P pr N k25_r1 e σ Q = Eo P pr N [
  ⟨some 4, Op.move (Operand.tmp 0), none, true⟩,
  ⟨some 5, Op.call { callee := Callee.value (Operand.func 20), args := #[Operand.tmp 4, Operand.const (Value.int IntKind.i64 1)], argTypes := #[40, 3] }, none, true⟩,
  ⟨some 3, Op.assign (Operand.tmp 5), none, true⟩] e σ Q := propext ⟨fun h => h, fun h => h⟩
def k25_r2 : List COp := [
  ⟨some 6, Op.move (Operand.tmp 3), none, true⟩,
  ⟨some 7, Op.call { callee := Callee.builtin Builtin.len, args := #[Operand.tmp 6], argTypes := #[22] }, none, true⟩,
  ⟨some 8, Op.binOp BinOp.eql 3 (Operand.tmp 7) (Operand.const (Value.int IntKind.i64 1)) 3, none, true⟩]
theorem k25_r2_e {P : Program} {pr : Prim} {N : Nat} {e : Nat → V} {σ : St} {Q : VX → (Nat → V) → St → Prop} : Eo P pr N k25_r2 e σ Q = Eo P pr N [
  ⟨some 6, Op.move (Operand.tmp 3), none, true⟩,
  ⟨some 7, Op.call { callee := Callee.builtin Builtin.len, args := #[Operand.tmp 6], argTypes := #[22] }, none, true⟩,
  ⟨some 8, Op.binOp BinOp.eql 3 (Operand.tmp 7) (Operand.const (Value.int IntKind.i64 1)) 3, none, true⟩] e σ Q := propext ⟨fun h => h, fun h => h⟩
def k25_r3 : List COp := [
  ⟨some 9, Op.move (Operand.tmp 3), none, true⟩,
  ⟨some 10, Op.indexAddr 22 (Operand.tmp 9) (Operand.const (Value.int IntKind.i64 0)), none, true⟩,
  ⟨some 11, Op.load 5 (Operand.tmp 10), none, true⟩,
  ⟨some 2, Op.assign (Operand.tmp 11), none, true⟩]
theorem k25_r3_e {P : Program} {pr : Prim} {N : Nat} {e : Nat → V} {σ : St} {Q : VX → (Nat → V) → St → Prop} : Eo P pr N k25_r3 e σ Q = Eo P pr N [
  ⟨some 9, Op.move (Operand.tmp 3), none, true⟩,
  ⟨some 10, Op.indexAddr 22 (Operand.tmp 9) (Operand.const (Value.int IntKind.i64 0)), none, true⟩,
  ⟨some 11, Op.load 5 (Operand.tmp 10), none, true⟩,
  ⟨some 2, Op.assign (Operand.tmp 11), none, true⟩] e σ Q := propext ⟨fun h => h, fun h => h⟩
def k25_r4 : List COp := [
  ⟨some 2, Op.assign (Operand.const (Value.int IntKind.u8 0)), none, true⟩]
theorem k25_r4_e {P : Program} {pr : Prim} {N : Nat} {e : Nat → V} {σ : St} {Q : VX → (Nat → V) → St → Prop} : Eo P pr N k25_r4 e σ Q = Eo P pr N [
  ⟨some 2, Op.assign (Operand.const (Value.int IntKind.u8 0)), none, true⟩] e σ Q := propext ⟨fun h => h, fun h => h⟩
def k25 : CC := (.seq (.region k25_r0) (.seq (.seq (.region k25_r1) (.seq (.region k25_r2) (.cond (Operand.tmp 8) (.seq (.region k25_r3) .ret) .skip))) (.seq (.region k25_r4) .ret)))
theorem k25_e {P : Program} {pr : Prim} {N : Nat} {e : Nat → V} {σ : St} {Q : VX → (Nat → V) → St → Prop} : Ev P pr N k25 e σ Q = Ev P pr N (.seq (.region k25_r0) (.seq (.seq (.region k25_r1) (.seq (.region k25_r2) (.cond (Operand.tmp 8) (.seq (.region k25_r3) .ret) .skip))) (.seq (.region k25_r4) .ret))) e σ Q := propext ⟨fun h => h, fun h => h⟩
/-- (*quern/pack.Reader).Byte -/
theorem k25_is : FnIs Try.prog noPrim 25 12 [ResultVar.tmp 2] k25 := FnIs.of_fn Try.func25 (by kernel_rfl)
def k26_r0 : List COp := [
  ⟨some 2, Op.assign (Operand.const (Value.int IntKind.i64 0)), none, true⟩]
theorem k26_r0_e {P : Program} {pr : Prim} {N : Nat} {e : Nat → V} {σ : St} {Q : VX → (Nat → V) → St → Prop} : Eo P pr N k26_r0 e σ Q = Eo P pr N [
  ⟨some 2, Op.assign (Operand.const (Value.int IntKind.i64 0)), none, true⟩] e σ Q := propext ⟨fun h => h, fun h => h⟩
def k26_r1 : List COp := [
  ⟨some 3, Op.move (Operand.tmp 0), none, true⟩,
  ⟨some 4, Op.binOp BinOp.eql 40 (Operand.tmp 3) (Operand.const (Value.pointer .none)) 40, none, true⟩,
  ⟨some 5, Op.move (Operand.tmp 4), none, true⟩,
  ⟨some 6, Op.move (Operand.tmp 0), some (5, false), true⟩,
  ⟨some 7, Op.nilCheck (Operand.tmp 6), some (5, false), true⟩,
  ⟨some 8, Op.fieldAddr 54 (Operand.tmp 7) 1, some (5, false), true⟩,
  ⟨some 9, Op.load 4 (Operand.tmp 8), some (5, false), true⟩,
  ⟨some 10, Op.pick (Operand.tmp 5) (Operand.const (Value.bool true)) (Operand.tmp 9), none, true⟩]
theorem k26_r1_e {P : Program} {pr : Prim} {N : Nat} {e : Nat → V} {σ : St} {Q : VX → (Nat → V) → St → Prop} : Eo P pr N k26_r1 e σ Q = Eo P pr N [
  ⟨some 3, Op.move (Operand.tmp 0), none, true⟩,
  ⟨some 4, Op.binOp BinOp.eql 40 (Operand.tmp 3) (Operand.const (Value.pointer .none)) 40, none, true⟩,
  ⟨some 5, Op.move (Operand.tmp 4), none, true⟩,
  ⟨some 6, Op.move (Operand.tmp 0), some (5, false), true⟩,
  ⟨some 7, Op.nilCheck (Operand.tmp 6), some (5, false), true⟩,
  ⟨some 8, Op.fieldAddr 54 (Operand.tmp 7) 1, some (5, false), true⟩,
  ⟨some 9, Op.load 4 (Operand.tmp 8), some (5, false), true⟩,
  ⟨some 10, Op.pick (Operand.tmp 5) (Operand.const (Value.bool true)) (Operand.tmp 9), none, true⟩] e σ Q := propext ⟨fun h => h, fun h => h⟩
def k26_r2 : List COp := [
  ⟨some 2, Op.assign (Operand.const (Value.int IntKind.i64 0)), none, true⟩]
theorem k26_r2_e {P : Program} {pr : Prim} {N : Nat} {e : Nat → V} {σ : St} {Q : VX → (Nat → V) → St → Prop} : Eo P pr N k26_r2 e σ Q = Eo P pr N [
  ⟨some 2, Op.assign (Operand.const (Value.int IntKind.i64 0)), none, true⟩] e σ Q := propext ⟨fun h => h, fun h => h⟩
def k26_r3 : List COp := [
  ⟨some 11, Op.move (Operand.tmp 0), none, true⟩,
  ⟨some 12, Op.nilCheck (Operand.tmp 11), none, true⟩,
  ⟨some 13, Op.fieldAddr 54 (Operand.tmp 12) 0, none, true⟩,
  ⟨some 14, Op.load 22 (Operand.tmp 13), none, true⟩,
  ⟨some 15, Op.call { callee := Callee.builtin Builtin.len, args := #[Operand.tmp 14], argTypes := #[22] }, none, true⟩,
  ⟨some 2, Op.assign (Operand.tmp 15), none, true⟩]
theorem k26_r3_e {P : Program} {pr : Prim} {N : Nat} {e : Nat → V} {σ : St} {Q : VX → (Nat → V) → St → Prop} : Eo P pr N k26_r3 e σ Q = Eo P pr N [
  ⟨some 11, Op.move (Operand.tmp 0), none, true⟩,
  ⟨some 12, Op.nilCheck (Operand.tmp 11), none, true⟩,
  ⟨some 13, Op.fieldAddr 54 (Operand.tmp 12) 0, none, true⟩,
  ⟨some 14, Op.load 22 (Operand.tmp 13), none, true⟩,
  ⟨some 15, Op.call { callee := Callee.builtin Builtin.len, args := #[Operand.tmp 14], argTypes := #[22] }, none, true⟩,
  ⟨some 2, Op.assign (Operand.tmp 15), none, true⟩] e σ Q := propext ⟨fun h => h, fun h => h⟩
def k26 : CC := (.seq (.region k26_r0) (.seq (.seq (.region k26_r1) (.cond (Operand.tmp 10) (.seq (.region k26_r2) .ret) .skip)) (.seq (.region k26_r3) .ret)))
theorem k26_e {P : Program} {pr : Prim} {N : Nat} {e : Nat → V} {σ : St} {Q : VX → (Nat → V) → St → Prop} : Ev P pr N k26 e σ Q = Ev P pr N (.seq (.region k26_r0) (.seq (.seq (.region k26_r1) (.cond (Operand.tmp 10) (.seq (.region k26_r2) .ret) .skip)) (.seq (.region k26_r3) .ret))) e σ Q := propext ⟨fun h => h, fun h => h⟩
/-- (*quern/pack.Reader).Left -/
theorem k26_is : FnIs Try.prog noPrim 26 16 [ResultVar.tmp 2] k26 := FnIs.of_fn Try.func26 (by kernel_rfl)
def k27_r0 : List COp := [
  ⟨some 2, Op.assign (Operand.const (Value.int IntKind.i64 0)), none, true⟩]
theorem k27_r0_e {P : Program} {pr : Prim} {N : Nat} {e : Nat → V} {σ : St} {Q : VX → (Nat → V) → St → Prop} : Eo P pr N k27_r0 e σ Q = Eo P pr N [
  ⟨some 2, Op.assign (Operand.const (Value.int IntKind.i64 0)), none, true⟩] e σ Q := propext ⟨fun h => h, fun h => h⟩
def k27_r1 : List COp := [
  ⟨some 3, Op.move (Operand.tmp 0), none, true⟩,
  ⟨some 4, Op.nilCheck (Operand.tmp 3), none, true⟩,
  ⟨some 5, Op.fieldAddr 46 (Operand.tmp 4) 1, none, true⟩,
  ⟨some 6, Op.load 4 (Operand.tmp 5), none, true⟩]
theorem k27_r1_e {P : Program} {pr : Prim} {N : Nat} {e : Nat → V} {σ : St} {Q : VX → (Nat → V) → St → Prop} : Eo P pr N k27_r1 e σ Q = Eo P pr N [
  ⟨some 3, Op.move (Operand.tmp 0), none, true⟩,
  ⟨some 4, Op.nilCheck (Operand.tmp 3), none, true⟩,
  ⟨some 5, Op.fieldAddr 46 (Operand.tmp 4) 1, none, true⟩,
  ⟨some 6, Op.load 4 (Operand.tmp 5), none, true⟩] e σ Q := propext ⟨fun h => h, fun h => h⟩
def k27_r2 : List COp := [
  ⟨some 2, Op.assign (Operand.const (Value.int IntKind.i64 0)), none, true⟩]
theorem k27_r2_e {P : Program} {pr : Prim} {N : Nat} {e : Nat → V} {σ : St} {Q : VX → (Nat → V) → St → Prop} : Eo P pr N k27_r2 e σ Q = Eo P pr N [
  ⟨some 2, Op.assign (Operand.const (Value.int IntKind.i64 0)), none, true⟩] e σ Q := propext ⟨fun h => h, fun h => h⟩
def k27_r3 : List COp := [
  ⟨some 7, Op.move (Operand.tmp 0), none, true⟩,
  ⟨some 8, Op.nilCheck (Operand.tmp 7), none, true⟩,
  ⟨some 9, Op.fieldAddr 46 (Operand.tmp 8) 0, none, true⟩,
  ⟨some 10, Op.load 22 (Operand.tmp 9), none, true⟩,
  ⟨some 11, Op.call { callee := Callee.builtin Builtin.len, args := #[Operand.tmp 10], argTypes := #[22] }, none, true⟩,
  ⟨some 2, Op.assign (Operand.tmp 11), none, true⟩]
theorem k27_r3_e {P : Program} {pr : Prim} {N : Nat} {e : Nat → V} {σ : St} {Q : VX → (Nat → V) → St → Prop} : Eo P pr N k27_r3 e σ Q = Eo P pr N [
  ⟨some 7, Op.move (Operand.tmp 0), none, true⟩,
  ⟨some 8, Op.nilCheck (Operand.tmp 7), none, true⟩,
  ⟨some 9, Op.fieldAddr 46 (Operand.tmp 8) 0, none, true⟩,
  ⟨some 10, Op.load 22 (Operand.tmp 9), none, true⟩,
  ⟨some 11, Op.call { callee := Callee.builtin Builtin.len, args := #[Operand.tmp 10], argTypes := #[22] }, none, true⟩,
  ⟨some 2, Op.assign (Operand.tmp 11), none, true⟩] e σ Q := propext ⟨fun h => h, fun h => h⟩
def k27 : CC := (.seq (.region k27_r0) (.seq (.seq (.region k27_r1) (.cond (Operand.tmp 6) (.seq (.region k27_r2) .ret) .skip)) (.seq (.region k27_r3) .ret)))
theorem k27_e {P : Program} {pr : Prim} {N : Nat} {e : Nat → V} {σ : St} {Q : VX → (Nat → V) → St → Prop} : Ev P pr N k27 e σ Q = Ev P pr N (.seq (.region k27_r0) (.seq (.seq (.region k27_r1) (.cond (Operand.tmp 6) (.seq (.region k27_r2) .ret) .skip)) (.seq (.region k27_r3) .ret))) e σ Q := propext ⟨fun h => h, fun h => h⟩
/-- (*quern/quernref01.Reader).Left -/
theorem k27_is : FnIs Try.prog noPrim 27 12 [ResultVar.tmp 2] k27 := FnIs.of_fn Try.func27 (by kernel_rfl)
def k28_r0 : List COp := [
  ⟨some 2, Op.assign (Operand.const (Value.bool false)), none, true⟩]
theorem k28_r0_e {P : Program} {pr : Prim} {N : Nat} {e : Nat → V} {σ : St} {Q : VX → (Nat → V) → St → Prop} : Eo P pr N k28_r0 e σ Q = Eo P pr N [
  ⟨some 2, Op.assign (Operand.const (Value.bool false)), none, true⟩] e σ Q := propext ⟨fun h => h, fun h => h⟩
def k28_r1 : List COp := [
  ⟨some 3, Op.move (Operand.tmp 0), none, true⟩,
  ⟨some 4, Op.binOp BinOp.neq 40 (Operand.tmp 3) (Operand.const (Value.pointer .none)) 40, none, true⟩,
  ⟨some 5, Op.move (Operand.tmp 4), none, true⟩,
  ⟨some 6, Op.move (Operand.tmp 0), some (5, true), true⟩,
  ⟨some 7, Op.nilCheck (Operand.tmp 6), some (5, true), true⟩,
  ⟨some 8, Op.fieldAddr 54 (Operand.tmp 7) 1, some (5, true), true⟩,
  ⟨some 9, Op.load 4 (Operand.tmp 8), some (5, true), true⟩,
  ⟨some 10, Op.pick (Operand.tmp 5) (Operand.tmp 9) (Operand.const (Value.bool false)), none, true⟩,
  ⟨some 2, Op.assign (Operand.tmp 10), none, true⟩]
theorem k28_r1_e {P : Program} {pr : Prim} {N : Nat} {e : Nat → V} {σ : St} {Q : VX → (Nat → V) → St → Prop} : Eo P pr N k28_r1 e σ Q = Eo P pr N [
  ⟨some 3, Op.move (Operand.tmp 0), none, true⟩,
  ⟨some 4, Op.binOp BinOp.neq 40 (Operand.tmp 3) (Operand.const (Value.pointer .none)) 40, none, true⟩,
  ⟨some 5, Op.move (Operand.tmp 4), none, true⟩,
  ⟨some 6, Op.move (Operand.tmp 0), some (5, true), true⟩,
  ⟨some 7, Op.nilCheck (Operand.tmp 6), some (5, true), true⟩,
  ⟨some 8, Op.fieldAddr 54 (Operand.tmp 7) 1, some (5, true), true⟩,
  ⟨some 9, Op.load 4 (Operand.tmp 8), some (5, true), true⟩,
  ⟨some 10, Op.pick (Operand.tmp 5) (Operand.tmp 9) (Operand.const (Value.bool false)), none, true⟩,
  ⟨some 2, Op.assign (Operand.tmp 10), none, true⟩] e σ Q := propext ⟨fun h => h, fun h => h⟩
def k28 : CC := (.seq (.region k28_r0) (.seq (.region k28_r1) .ret))
theorem k28_e {P : Program} {pr : Prim} {N : Nat} {e : Nat → V} {σ : St} {Q : VX → (Nat → V) → St → Prop} : Ev P pr N k28 e σ Q = Ev P pr N (.seq (.region k28_r0) (.seq (.region k28_r1) .ret)) e σ Q := propext ⟨fun h => h, fun h => h⟩
/-- (*quern/pack.Reader).Bad -/
theorem k28_is : FnIs Try.prog noPrim 28 11 [ResultVar.tmp 2] k28 := FnIs.of_fn Try.func28 (by kernel_rfl)
def k29_r0 : List COp := [
  ⟨some 3, Op.assign (Operand.const (Value.int IntKind.i64 0)), none, true⟩]
theorem k29_r0_e {P : Program} {pr : Prim} {N : Nat} {e : Nat → V} {σ : St} {Q : VX → (Nat → V) → St → Prop} : Eo P pr N k29_r0 e σ Q = Eo P pr N [
  ⟨some 3, Op.assign (Operand.const (Value.int IntKind.i64 0)), none, true⟩] e σ Q := propext ⟨fun h => h, fun h => h⟩
def k29_r1 : List COp := [
  ⟨some 7, Op.load 22 (Operand.tmp 1), none, true⟩,
  ⟨some 8, Op.move (Operand.tmp 3), none, true⟩,
  ⟨some 9, Op.slice 22 (Operand.tmp 7) (some (Operand.tmp 8)) .none .none, none, true⟩,
  ⟨some 10, Op.call { callee := Callee.value (Operand.func 12), args := #[Operand.tmp 9], argTypes := #[22] }, none, true⟩,
  ⟨some 6, Op.move (Operand.tmp 10), none, true⟩,
  ⟨some 11, Op.extract (Operand.tmp 6) 0, none, true⟩,
  ⟨some 12, Op.extract (Operand.tmp 6) 1, none, true⟩,
  ⟨some 4, Op.assign (Operand.tmp 11), none, true⟩,
  ⟨some 5, Op.assign (Operand.tmp 12), none, true⟩]
theorem k29_r1_e {P : Program} {pr : Prim} {N : Nat} {e : Nat → V} {σ : St} {Q : VX → (Nat → V) → St → Prop} : Eo P pr N k29_r1 e σ Q = Eo P pr N [
  ⟨some 7, Op.load 22 (Operand.tmp 1), none, true⟩,
  ⟨some 8, Op.move (Operand.tmp 3), none, true⟩,
  ⟨some 9, Op.slice 22 (Operand.tmp 7) (some (Operand.tmp 8)) .none .none, none, true⟩,
  ⟨some 10, Op.call { callee := Callee.value (Operand.func 12), args := #[Operand.tmp 9], argTypes := #[22] }, none, true⟩,
  ⟨some 6, Op.move (Operand.tmp 10), none, true⟩,
  ⟨some 11, Op.extract (Operand.tmp 6) 0, none, true⟩,
  ⟨some 12, Op.extract (Operand.tmp 6) 1, none, true⟩,
  ⟨some 4, Op.assign (Operand.tmp 11), none, true⟩,
  ⟨some 5, Op.assign (Operand.tmp 12), none, true⟩] e σ Q := propext ⟨fun h => h, fun h => h⟩
def k29_r2 : List COp := [
  ⟨some 13, Op.move (Operand.tmp 5), none, true⟩,
  ⟨some 14, Op.binOp BinOp.eql 3 (Operand.tmp 13) (Operand.const (Value.int IntKind.i64 0)) 3, none, true⟩,
  ⟨some 15, Op.move (Operand.tmp 14), none, true⟩,
  ⟨some 16, Op.move (Operand.tmp 0), some (15, false), true⟩,
  ⟨some 17, Op.move (Operand.tmp 3), some (15, false), true⟩,
  ⟨some 18, Op.move (Operand.tmp 4), some (15, false), true⟩,
  ⟨some 19, Op.call { callee := Callee.value (Operand.tmp 16), args := #[Operand.tmp 17, Operand.tmp 18], argTypes := #[3, 3] }, some (15, false), true⟩,
  ⟨some 20, Op.unOp UnOp.not 4 (Operand.tmp 19), some (15, false), true⟩,
  ⟨some 21, Op.pick (Operand.tmp 15) (Operand.const (Value.bool true)) (Operand.tmp 20), none, true⟩]
theorem k29_r2_e {P : Program} {pr : Prim} {N : Nat} {e : Nat → V} {σ : St} {Q : VX → (Nat → V) → St → Prop} : Eo P pr N k29_r2 e σ Q = Eo P pr N [
  ⟨some 13, Op.move (Operand.tmp 5), none, true⟩,
  ⟨some 14, Op.binOp BinOp.eql 3 (Operand.tmp 13) (Operand.const (Value.int IntKind.i64 0)) 3, none, true⟩,
  ⟨some 15, Op.move (Operand.tmp 14), none, true⟩,
  ⟨some 16, Op.move (Operand.tmp 0), some (15, false), true⟩,
  ⟨some 17, Op.move (Operand.tmp 3), some (15, false), true⟩,
  ⟨some 18, Op.move (Operand.tmp 4), some (15, false), true⟩,
  ⟨some 19, Op.call { callee := Callee.value (Operand.tmp 16), args := #[Operand.tmp 17, Operand.tmp 18], argTypes := #[3, 3] }, some (15, false), true⟩,
  ⟨some 20, Op.unOp UnOp.not 4 (Operand.tmp 19), some (15, false), true⟩,
  ⟨some 21, Op.pick (Operand.tmp 15) (Operand.const (Value.bool true)) (Operand.tmp 20), none, true⟩] e σ Q := propext ⟨fun h => h, fun h => h⟩
def k29_r3 : List COp := [
  ⟨some 22, Op.move (Operand.tmp 3), none, true⟩,
  ⟨some 23, Op.move (Operand.tmp 5), none, true⟩,
  ⟨some 24, Op.binOp BinOp.add 3 (Operand.tmp 22) (Operand.tmp 23) 3, none, true⟩,
  ⟨some 3, Op.assign (Operand.tmp 24), none, true⟩]
theorem k29_r3_e {P : Program} {pr : Prim} {N : Nat} {e : Nat → V} {σ : St} {Q : VX → (Nat → V) → St → Prop} : Eo P pr N k29_r3 e σ Q = Eo P pr N [
  ⟨some 22, Op.move (Operand.tmp 3), none, true⟩,
  ⟨some 23, Op.move (Operand.tmp 5), none, true⟩,
  ⟨some 24, Op.binOp BinOp.add 3 (Operand.tmp 22) (Operand.tmp 23) 3, none, true⟩,
  ⟨some 3, Op.assign (Operand.tmp 24), none, true⟩] e σ Q := propext ⟨fun h => h, fun h => h⟩
def k29_l0 : CC := (.block 1 (.seq (.region k29_r1) (.seq (.seq (.region k29_r2) (.cond (Operand.tmp 21) .ret .skip)) (.region k29_r3))))
theorem k29_l0_e {P : Program} {pr : Prim} {N : Nat} {e : Nat → V} {σ : St} {Q : VX → (Nat → V) → St → Prop} : Ev P pr N k29_l0 e σ Q = Ev P pr N (.block 1 (.seq (.region k29_r1) (.seq (.seq (.region k29_r2) (.cond (Operand.tmp 21) .ret .skip)) (.region k29_r3)))) e σ Q := propext ⟨fun h => h, fun h => h⟩
def k29 : CC := (.seq (.region k29_r0) (.block 0 (.loop k29_l0)))
theorem k29_e {P : Program} {pr : Prim} {N : Nat} {e : Nat → V} {σ : St} {Q : VX → (Nat → V) → St → Prop} : Ev P pr N k29 e σ Q = Ev P pr N (.seq (.region k29_r0) (.block 0 (.loop k29_l0))) e σ Q := propext ⟨fun h => h, fun h => h⟩
/-- quern/pack.Numbers$1 -/
theorem k29_is : FnIs Try.prog noPrim 29 25 [] k29 := FnIs.of_fn Try.func29 (by kernel_rfl)
end Go.Proofs.Ytmcadfejkcpblaa.Q
