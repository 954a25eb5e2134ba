/- The code of some functions without its ornaments. Written by gen.py. -/
import Derived.Test.YtmcadfejkcpblaaQp
import Derived.Test.YtmcadfejkcpblaaChecked
set_option maxRecDepth 100000
namespace Go.Proofs.Ytmcadfejkcpblaa.Q
open Go Go.RowKit Go.Proofs
def k3_r0 : List COp := [
  ⟨some 2, Op.assign (Operand.const (Value.bool false)), none, true⟩]
theorem k3_r0_e {P : Program} {pr : Prim} {N : Nat} : Eo P pr N k3_r0 = Eo P pr N [
  ⟨some 2, Op.assign (Operand.const (Value.bool false)), none, true⟩] := rfl
def k3_r1 : List COp := [
  ⟨some 7, Op.call { callee := Callee.value (Operand.func 11), args := #[], argTypes := #[] }, none, true⟩,
  ⟨some 8, Op.unOp UnOp.not 4 (Operand.tmp 7), none, true⟩]
theorem k3_r1_e {P : Program} {pr : Prim} {N : Nat} : Eo P pr N k3_r1 = Eo P pr N [
  ⟨some 7, Op.call { callee := Callee.value (Operand.func 11), args := #[], argTypes := #[] }, none, true⟩,
  ⟨some 8, Op.unOp UnOp.not 4 (Operand.tmp 7), none, true⟩] := rfl
def k3_r2 : List COp := [
  ⟨some 2, Op.assign (Operand.const (Value.bool false)), none, true⟩]
theorem k3_r2_e {P : Program} {pr : Prim} {N : Nat} : Eo P pr N k3_r2 = Eo P pr N [
  ⟨some 2, Op.assign (Operand.const (Value.bool false)), none, true⟩] := rfl
def k3_r3 : List COp := [
  ⟨some 10, Op.move (Operand.tmp 0), none, true⟩,
  ⟨some 11, Op.call { callee := Callee.value (Operand.func 12), args := #[Operand.tmp 10], argTypes := #[22] }, none, true⟩,
  ⟨some 9, Op.move (Operand.tmp 11), none, true⟩,
  ⟨some 12, Op.extract (Operand.tmp 9) 0, none, true⟩,
  ⟨some 13, Op.extract (Operand.tmp 9) 1, none, true⟩,
  ⟨some 3, Op.assign (Operand.tmp 12), none, true⟩,
  ⟨some 4, Op.assign (Operand.tmp 13), none, true⟩]
theorem k3_r3_e {P : Program} {pr : Prim} {N : Nat} : Eo P pr N k3_r3 = Eo P pr N [
  ⟨some 10, Op.move (Operand.tmp 0), none, true⟩,
  ⟨some 11, Op.call { callee := Callee.value (Operand.func 12), args := #[Operand.tmp 10], argTypes := #[22] }, none, true⟩,
  ⟨some 9, Op.move (Operand.tmp 11), none, true⟩,
  ⟨some 12, Op.extract (Operand.tmp 9) 0, none, true⟩,
  ⟨some 13, Op.extract (Operand.tmp 9) 1, none, true⟩,
  ⟨some 3, Op.assign (Operand.tmp 12), none, true⟩,
  ⟨some 4, Op.assign (Operand.tmp 13), none, true⟩] := rfl
def k3_r4 : List COp := [
  ⟨some 15, Op.move (Operand.tmp 0), none, true⟩,
  ⟨some 16, Op.call { callee := Callee.value (Operand.func 13), args := #[Operand.tmp 15], argTypes := #[22] }, none, true⟩,
  ⟨some 14, Op.move (Operand.tmp 16), none, true⟩,
  ⟨some 17, Op.extract (Operand.tmp 14) 0, none, true⟩,
  ⟨some 18, Op.extract (Operand.tmp 14) 1, none, true⟩,
  ⟨some 5, Op.assign (Operand.tmp 17), none, true⟩,
  ⟨some 6, Op.assign (Operand.tmp 18), none, true⟩]
theorem k3_r4_e {P : Program} {pr : Prim} {N : Nat} : Eo P pr N k3_r4 = Eo P pr N [
  ⟨some 15, Op.move (Operand.tmp 0), none, true⟩,
  ⟨some 16, Op.call { callee := Callee.value (Operand.func 13), args := #[Operand.tmp 15], argTypes := #[22] }, none, true⟩,
  ⟨some 14, Op.move (Operand.tmp 16), none, true⟩,
  ⟨some 17, Op.extract (Operand.tmp 14) 0, none, true⟩,
  ⟨some 18, Op.extract (Operand.tmp 14) 1, none, true⟩,
  ⟨some 5, Op.assign (Operand.tmp 17), none, true⟩,
  ⟨some 6, Op.assign (Operand.tmp 18), none, true⟩] := rfl
def k3_r5 : List COp := [
  ⟨some 19, Op.move (Operand.tmp 3), none, true⟩,
  ⟨some 20, Op.move (Operand.tmp 5), none, true⟩,
  ⟨some 21, Op.binOp BinOp.eql 3 (Operand.tmp 19) (Operand.tmp 20) 3, none, true⟩,
  ⟨some 22, Op.move (Operand.tmp 21), none, true⟩,
  ⟨some 23, Op.move (Operand.tmp 4), some (22, true), true⟩,
  ⟨some 24, Op.move (Operand.tmp 6), some (22, true), true⟩,
  ⟨some 25, Op.binOp BinOp.eql 3 (Operand.tmp 23) (Operand.tmp 24) 3, some (22, true), true⟩,
  ⟨some 26, Op.pick (Operand.tmp 22) (Operand.tmp 25) (Operand.const (Value.bool false)), none, true⟩,
  ⟨some 2, Op.assign (Operand.tmp 26), none, true⟩]
theorem k3_r5_e {P : Program} {pr : Prim} {N : Nat} : Eo P pr N k3_r5 = Eo P pr N [
  ⟨some 19, Op.move (Operand.tmp 3), none, true⟩,
  ⟨some 20, Op.move (Operand.tmp 5), none, true⟩,
  ⟨some 21, Op.binOp BinOp.eql 3 (Operand.tmp 19) (Operand.tmp 20) 3, none, true⟩,
  ⟨some 22, Op.move (Operand.tmp 21), none, true⟩,
  ⟨some 23, Op.move (Operand.tmp 4), some (22, true), true⟩,
  ⟨some 24, Op.move (Operand.tmp 6), some (22, true), true⟩,
  ⟨some 25, Op.binOp BinOp.eql 3 (Operand.tmp 23) (Operand.tmp 24) 3, some (22, true), true⟩,
  ⟨some 26, Op.pick (Operand.tmp 22) (Operand.tmp 25) (Operand.const (Value.bool false)), none, true⟩,
  ⟨some 2, Op.assign (Operand.tmp 26), none, true⟩] := rfl
def k3 : CC := (.seq (.region k3_r0) (.seq (.seq (.region k3_r1) (.cond (Operand.tmp 8) (.seq (.region k3_r2) .ret) .skip)) (.seq (.region k3_r3) (.seq (.region k3_r4) (.seq (.region k3_r5) .ret)))))
theorem k3_e {P : Program} {pr : Prim} {N : Nat} : Ev P pr N k3 = Ev P pr N (.seq (.region k3_r0) (.seq (.seq (.region k3_r1) (.cond (Operand.tmp 8) (.seq (.region k3_r2) .ret) .skip)) (.seq (.region k3_r3) (.seq (.region k3_r4) (.seq (.region k3_r5) .ret))))) := rfl
/-- quern/quernlaw01.PackTakes -/
theorem k3_is : FnIs Try.prog noPrim 3 27 [ResultVar.tmp 2] k3 := FnIs.of_fn Try.func3 (by kernel_rfl)
def k4_r0 : List COp := [
  ⟨some 4, Op.assign (Operand.const (Value.bool false)), none, true⟩]
theorem k4_r0_e {P : Program} {pr : Prim} {N : Nat} : Eo P pr N k4_r0 = Eo P pr N [
  ⟨some 4, Op.assign (Operand.const (Value.bool false)), none, true⟩] := rfl
def k4_r1 : List COp := [
  ⟨some 8, Op.call { callee := Callee.value (Operand.func 11), args := #[], argTypes := #[] }, none, true⟩,
  ⟨some 9, Op.unOp UnOp.not 4 (Operand.tmp 8), none, true⟩]
theorem k4_r1_e {P : Program} {pr : Prim} {N : Nat} : Eo P pr N k4_r1 = Eo P pr N [
  ⟨some 8, Op.call { callee := Callee.value (Operand.func 11), args := #[], argTypes := #[] }, none, true⟩,
  ⟨some 9, Op.unOp UnOp.not 4 (Operand.tmp 8), none, true⟩] := rfl
def k4_r2 : List COp := [
  ⟨some 4, Op.assign (Operand.const (Value.bool false)), none, true⟩]
theorem k4_r2_e {P : Program} {pr : Prim} {N : Nat} : Eo P pr N k4_r2 = Eo P pr N [
  ⟨some 4, Op.assign (Operand.const (Value.bool false)), none, true⟩] := rfl
def k4_r3 : List COp := [
  ⟨some 10, Op.move (Operand.tmp 0), none, true⟩,
  ⟨some 11, Op.buildSlice 30 1 #[(0, Operand.tmp 10)], none, true⟩,
  ⟨some 12, Op.call { callee := Callee.value (Operand.func 14), args := #[Operand.const (Value.slice .none 0 0), Operand.tmp 11], argTypes := #[22, 30] }, none, true⟩,
  ⟨some 13, Op.move (Operand.tmp 1), none, true⟩,
  ⟨some 14, Op.buildSlice 30 1 #[(0, Operand.tmp 13)], none, true⟩,
  ⟨some 15, Op.call { callee := Callee.value (Operand.func 14), args := #[Operand.const (Value.slice .none 0 0), Operand.tmp 14], argTypes := #[22, 30] }, none, true⟩,
  ⟨some 5, Op.assign (Operand.tmp 12), none, true⟩,
  ⟨some 6, Op.assign (Operand.tmp 15), none, true⟩]
theorem k4_r3_e {P : Program} {pr : Prim} {N : Nat} : Eo P pr N k4_r3 = Eo P pr N [
  ⟨some 10, Op.move (Operand.tmp 0), none, true⟩,
  ⟨some 11, Op.buildSlice 30 1 #[(0, Operand.tmp 10)], none, true⟩,
  ⟨some 12, Op.call { callee := Callee.value (Operand.func 14), args := #[Operand.const (Value.slice .none 0 0), Operand.tmp 11], argTypes := #[22, 30] }, none, true⟩,
  ⟨some 13, Op.move (Operand.tmp 1), none, true⟩,
  ⟨some 14, Op.buildSlice 30 1 #[(0, Operand.tmp 13)], none, true⟩,
  ⟨some 15, Op.call { callee := Callee.value (Operand.func 14), args := #[Operand.const (Value.slice .none 0 0), Operand.tmp 14], argTypes := #[22, 30] }, none, true⟩,
  ⟨some 5, Op.assign (Operand.tmp 12), none, true⟩,
  ⟨some 6, Op.assign (Operand.tmp 15), none, true⟩] := rfl
def k4_r4 : List COp := [
  ⟨some 16, Op.move (Operand.tmp 5), none, true⟩,
  ⟨some 17, Op.call { callee := Callee.builtin Builtin.len, args := #[Operand.tmp 16], argTypes := #[22] }, none, true⟩,
  ⟨some 18, Op.binOp BinOp.eql 3 (Operand.tmp 17) (Operand.const (Value.int IntKind.i64 0)) 3, none, true⟩,
  ⟨some 19, Op.move (Operand.tmp 18), none, true⟩,
  ⟨some 20, Op.move (Operand.tmp 6), some (19, false), true⟩,
  ⟨some 21, Op.call { callee := Callee.builtin Builtin.len, args := #[Operand.tmp 20], argTypes := #[22] }, some (19, false), true⟩,
  ⟨some 22, Op.binOp BinOp.eql 3 (Operand.tmp 21) (Operand.const (Value.int IntKind.i64 0)) 3, some (19, false), true⟩,
  ⟨some 23, Op.pick (Operand.tmp 19) (Operand.const (Value.bool true)) (Operand.tmp 22), none, true⟩,
  ⟨some 24, Op.move (Operand.tmp 23), none, true⟩,
  ⟨some 25, Op.move (Operand.tmp 5), some (24, false), true⟩,
  ⟨some 26, Op.call { callee := Callee.builtin Builtin.len, args := #[Operand.tmp 25], argTypes := #[22] }, some (24, false), true⟩,
  ⟨some 27, Op.binOp BinOp.gtr 3 (Operand.tmp 26) (Operand.const (Value.int IntKind.i64 9)) 3, some (24, false), true⟩,
  ⟨some 28, Op.pick (Operand.tmp 24) (Operand.const (Value.bool true)) (Operand.tmp 27), none, true⟩,
  ⟨some 29, Op.move (Operand.tmp 28), none, true⟩,
  ⟨some 30, Op.move (Operand.tmp 6), some (29, false), true⟩,
  ⟨some 31, Op.call { callee := Callee.builtin Builtin.len, args := #[Operand.tmp 30], argTypes := #[22] }, some (29, false), true⟩,
  ⟨some 32, Op.binOp BinOp.gtr 3 (Operand.tmp 31) (Operand.const (Value.int IntKind.i64 9)) 3, some (29, false), true⟩,
  ⟨some 33, Op.pick (Operand.tmp 29) (Operand.const (Value.bool true)) (Operand.tmp 32), none, true⟩]
theorem k4_r4_e {P : Program} {pr : Prim} {N : Nat} : Eo P pr N k4_r4 = Eo P pr N [
  ⟨some 16, Op.move (Operand.tmp 5), none, true⟩,
  ⟨some 17, Op.call { callee := Callee.builtin Builtin.len, args := #[Operand.tmp 16], argTypes := #[22] }, none, true⟩,
  ⟨some 18, Op.binOp BinOp.eql 3 (Operand.tmp 17) (Operand.const (Value.int IntKind.i64 0)) 3, none, true⟩,
  ⟨some 19, Op.move (Operand.tmp 18), none, true⟩,
  ⟨some 20, Op.move (Operand.tmp 6), some (19, false), true⟩,
  ⟨some 21, Op.call { callee := Callee.builtin Builtin.len, args := #[Operand.tmp 20], argTypes := #[22] }, some (19, false), true⟩,
  ⟨some 22, Op.binOp BinOp.eql 3 (Operand.tmp 21) (Operand.const (Value.int IntKind.i64 0)) 3, some (19, false), true⟩,
  ⟨some 23, Op.pick (Operand.tmp 19) (Operand.const (Value.bool true)) (Operand.tmp 22), none, true⟩,
  ⟨some 24, Op.move (Operand.tmp 23), none, true⟩,
  ⟨some 25, Op.move (Operand.tmp 5), some (24, false), true⟩,
  ⟨some 26, Op.call { callee := Callee.builtin Builtin.len, args := #[Operand.tmp 25], argTypes := #[22] }, some (24, false), true⟩,
  ⟨some 27, Op.binOp BinOp.gtr 3 (Operand.tmp 26) (Operand.const (Value.int IntKind.i64 9)) 3, some (24, false), true⟩,
  ⟨some 28, Op.pick (Operand.tmp 24) (Operand.const (Value.bool true)) (Operand.tmp 27), none, true⟩,
  ⟨some 29, Op.move (Operand.tmp 28), none, true⟩,
  ⟨some 30, Op.move (Operand.tmp 6), some (29, false), true⟩,
  ⟨some 31, Op.call { callee := Callee.builtin Builtin.len, args := #[Operand.tmp 30], argTypes := #[22] }, some (29, false), true⟩,
  ⟨some 32, Op.binOp BinOp.gtr 3 (Operand.tmp 31) (Operand.const (Value.int IntKind.i64 9)) 3, some (29, false), true⟩,
  ⟨some 33, Op.pick (Operand.tmp 29) (Operand.const (Value.bool true)) (Operand.tmp 32), none, true⟩] := rfl
def k4_r5 : List COp := [
  ⟨some 4, Op.assign (Operand.const (Value.bool false)), none, true⟩]
theorem k4_r5_e {P : Program} {pr : Prim} {N : Nat} : Eo P pr N k4_r5 = Eo P pr N [
  ⟨some 4, Op.assign (Operand.const (Value.bool false)), none, true⟩] := rfl
def k4_r6 : List COp := [
  ⟨some 34, Op.move (Operand.tmp 0), none, true⟩,
  ⟨some 35, Op.binOp BinOp.lss 3 (Operand.tmp 34) (Operand.const (Value.int IntKind.i64 0)) 3, none, true⟩,
  ⟨some 36, Op.move (Operand.tmp 35), none, true⟩,
  ⟨some 37, Op.move (Operand.tmp 1), some (36, false), true⟩,
  ⟨some 38, Op.binOp BinOp.lss 3 (Operand.tmp 37) (Operand.const (Value.int IntKind.i64 0)) 3, some (36, false), true⟩,
  ⟨some 39, Op.pick (Operand.tmp 36) (Operand.const (Value.bool true)) (Operand.tmp 38), none, true⟩]
theorem k4_r6_e {P : Program} {pr : Prim} {N : Nat} : Eo P pr N k4_r6 = Eo P pr N [
  ⟨some 34, Op.move (Operand.tmp 0), none, true⟩,
  ⟨some 35, Op.binOp BinOp.lss 3 (Operand.tmp 34) (Operand.const (Value.int IntKind.i64 0)) 3, none, true⟩,
  ⟨some 36, Op.move (Operand.tmp 35), none, true⟩,
  ⟨some 37, Op.move (Operand.tmp 1), some (36, false), true⟩,
  ⟨some 38, Op.binOp BinOp.lss 3 (Operand.tmp 37) (Operand.const (Value.int IntKind.i64 0)) 3, some (36, false), true⟩,
  ⟨some 39, Op.pick (Operand.tmp 36) (Operand.const (Value.bool true)) (Operand.tmp 38), none, true⟩] := rfl
def k4_r7 : List COp := [
  ⟨some 4, Op.assign (Operand.const (Value.bool true)), none, true⟩]
theorem k4_r7_e {P : Program} {pr : Prim} {N : Nat} : Eo P pr N k4_r7 = Eo P pr N [
  ⟨some 4, Op.assign (Operand.const (Value.bool true)), none, true⟩] := rfl
def k4_r8 : List COp := [
  ⟨some 40, Op.move (Operand.tmp 0), none, true⟩,
  ⟨some 41, Op.move (Operand.tmp 1), none, true⟩,
  ⟨some 42, Op.binOp BinOp.lss 3 (Operand.tmp 40) (Operand.tmp 41) 3, none, true⟩,
  ⟨some 43, Op.move (Operand.tmp 42), none, true⟩,
  ⟨some 44, Op.move (Operand.tmp 5), some (43, true), true⟩,
  ⟨some 45, Op.call { callee := Callee.builtin Builtin.len, args := #[Operand.tmp 44], argTypes := #[22] }, some (43, true), true⟩,
  ⟨some 46, Op.move (Operand.tmp 6), some (43, true), true⟩,
  ⟨some 47, Op.call { callee := Callee.builtin Builtin.len, args := #[Operand.tmp 46], argTypes := #[22] }, some (43, true), true⟩,
  ⟨some 48, Op.binOp BinOp.gtr 3 (Operand.tmp 45) (Operand.tmp 47) 3, some (43, true), true⟩,
  ⟨some 49, Op.pick (Operand.tmp 43) (Operand.tmp 48) (Operand.const (Value.bool false)), none, true⟩,
  ⟨some 50, Op.move (Operand.tmp 49), none, true⟩,
  ⟨some 51, Op.move (Operand.tmp 1), some (50, false), true⟩,
  ⟨some 52, Op.move (Operand.tmp 0), some (50, false), true⟩,
  ⟨some 53, Op.binOp BinOp.lss 3 (Operand.tmp 51) (Operand.tmp 52) 3, some (50, false), true⟩,
  ⟨some 54, Op.move (Operand.tmp 53), some (50, false), true⟩,
  ⟨some 55, Op.move (Operand.tmp 6), some (54, true), true⟩,
  ⟨some 56, Op.call { callee := Callee.builtin Builtin.len, args := #[Operand.tmp 55], argTypes := #[22] }, some (54, true), true⟩,
  ⟨some 57, Op.move (Operand.tmp 5), some (54, true), true⟩,
  ⟨some 58, Op.call { callee := Callee.builtin Builtin.len, args := #[Operand.tmp 57], argTypes := #[22] }, some (54, true), true⟩,
  ⟨some 59, Op.binOp BinOp.gtr 3 (Operand.tmp 56) (Operand.tmp 58) 3, some (54, true), true⟩,
  ⟨some 60, Op.pick (Operand.tmp 54) (Operand.tmp 59) (Operand.const (Value.bool false)), some (50, false), true⟩,
  ⟨some 61, Op.pick (Operand.tmp 50) (Operand.const (Value.bool true)) (Operand.tmp 60), none, true⟩]
theorem k4_r8_e {P : Program} {pr : Prim} {N : Nat} : Eo P pr N k4_r8 = Eo P pr N [
  ⟨some 40, Op.move (Operand.tmp 0), none, true⟩,
  ⟨some 41, Op.move (Operand.tmp 1), none, true⟩,
  ⟨some 42, Op.binOp BinOp.lss 3 (Operand.tmp 40) (Operand.tmp 41) 3, none, true⟩,
  ⟨some 43, Op.move (Operand.tmp 42), none, true⟩,
  ⟨some 44, Op.move (Operand.tmp 5), some (43, true), true⟩,
  ⟨some 45, Op.call { callee := Callee.builtin Builtin.len, args := #[Operand.tmp 44], argTypes := #[22] }, some (43, true), true⟩,
  ⟨some 46, Op.move (Operand.tmp 6), some (43, true), true⟩,
  ⟨some 47, Op.call { callee := Callee.builtin Builtin.len, args := #[Operand.tmp 46], argTypes := #[22] }, some (43, true), true⟩,
  ⟨some 48, Op.binOp BinOp.gtr 3 (Operand.tmp 45) (Operand.tmp 47) 3, some (43, true), true⟩,
  ⟨some 49, Op.pick (Operand.tmp 43) (Operand.tmp 48) (Operand.const (Value.bool false)), none, true⟩,
  ⟨some 50, Op.move (Operand.tmp 49), none, true⟩,
  ⟨some 51, Op.move (Operand.tmp 1), some (50, false), true⟩,
  ⟨some 52, Op.move (Operand.tmp 0), some (50, false), true⟩,
  ⟨some 53, Op.binOp BinOp.lss 3 (Operand.tmp 51) (Operand.tmp 52) 3, some (50, false), true⟩,
  ⟨some 54, Op.move (Operand.tmp 53), some (50, false), true⟩,
  ⟨some 55, Op.move (Operand.tmp 6), some (54, true), true⟩,
  ⟨some 56, Op.call { callee := Callee.builtin Builtin.len, args := #[Operand.tmp 55], argTypes := #[22] }, some (54, true), true⟩,
  ⟨some 57, Op.move (Operand.tmp 5), some (54, true), true⟩,
  ⟨some 58, Op.call { callee := Callee.builtin Builtin.len, args := #[Operand.tmp 57], argTypes := #[22] }, some (54, true), true⟩,
  ⟨some 59, Op.binOp BinOp.gtr 3 (Operand.tmp 56) (Operand.tmp 58) 3, some (54, true), true⟩,
  ⟨some 60, Op.pick (Operand.tmp 54) (Operand.tmp 59) (Operand.const (Value.bool false)), some (50, false), true⟩,
  ⟨some 61, Op.pick (Operand.tmp 50) (Operand.const (Value.bool true)) (Operand.tmp 60), none, true⟩] := rfl
def k4_r9 : List COp := [
  ⟨some 4, Op.assign (Operand.const (Value.bool false)), none, true⟩]
theorem k4_r9_e {P : Program} {pr : Prim} {N : Nat} : Eo P pr N k4_r9 = Eo P pr N [
  ⟨some 4, Op.assign (Operand.const (Value.bool false)), none, true⟩] := rfl
def k4_r10 : List COp := [
  ⟨some 62, Op.move (Operand.tmp 5), none, true⟩,
  ⟨some 63, Op.call { callee := Callee.builtin Builtin.len, args := #[Operand.tmp 62], argTypes := #[22] }, none, true⟩,
  ⟨some 64, Op.move (Operand.tmp 6), none, true⟩,
  ⟨some 65, Op.call { callee := Callee.builtin Builtin.len, args := #[Operand.tmp 64], argTypes := #[22] }, none, true⟩,
  ⟨some 66, Op.call { callee := Callee.builtin Builtin.min, args := #[Operand.tmp 63, Operand.tmp 65], argTypes := #[3, 3] }, none, true⟩,
  ⟨some 7, Op.assign (Operand.tmp 66), none, true⟩]
theorem k4_r10_e {P : Program} {pr : Prim} {N : Nat} : Eo P pr N k4_r10 = Eo P pr N [
  ⟨some 62, Op.move (Operand.tmp 5), none, true⟩,
  ⟨some 63, Op.call { callee := Callee.builtin Builtin.len, args := #[Operand.tmp 62], argTypes := #[22] }, none, true⟩,
  ⟨some 64, Op.move (Operand.tmp 6), none, true⟩,
  ⟨some 65, Op.call { callee := Callee.builtin Builtin.len, args := #[Operand.tmp 64], argTypes := #[22] }, none, true⟩,
  ⟨some 66, Op.call { callee := Callee.builtin Builtin.min, args := #[Operand.tmp 63, Operand.tmp 65], argTypes := #[3, 3] }, none, true⟩,
  ⟨some 7, Op.assign (Operand.tmp 66), none, true⟩] := rfl
def k4_r11 : List COp := [
  ⟨some 67, Op.move (Operand.tmp 5), none, false⟩,
  ⟨some 68, Op.move (Operand.tmp 7), none, false⟩,
  ⟨some 69, Op.slice 22 (Operand.tmp 67) .none (some (Operand.tmp 68)) .none, none, false⟩,
  ⟨some 70, Op.move (Operand.tmp 6), none, false⟩,
  ⟨some 71, Op.move (Operand.tmp 7), none, false⟩,
  ⟨some 72, Op.slice 22 (Operand.tmp 70) .none (some (Operand.tmp 71)) .none, none, false⟩,
  ⟨some 73, Op.call { callee := Callee.value (Operand.func 15), args := #[Operand.tmp 69, Operand.tmp 72], argTypes := #[22, 22] }, none, false⟩,
  ⟨some 74, Op.move (Operand.tmp 0), none, false⟩,
  ⟨some 75, Op.move (Operand.tmp 1), none, true⟩,
  ⟨some 76, Op.binOp BinOp.eql 3 (Operand.tmp 74) (Operand.tmp 75) 3, none, true⟩,
  ⟨some 77, Op.binOp BinOp.eql 4 (Operand.tmp 73) (Operand.tmp 76) 4, none, true⟩,
  ⟨some 4, Op.assign (Operand.tmp 77), none, true⟩]
theorem k4_r11_e {P : Program} {pr : Prim} {N : Nat} : Eo P pr N k4_r11 = Eo P pr N [
  ⟨some 67, Op.move (Operand.tmp 5), none, false⟩,
  ⟨some 68, Op.move (Operand.tmp 7), none, false⟩,
  ⟨some 69, Op.slice 22 (Operand.tmp 67) .none (some (Operand.tmp 68)) .none, none, false⟩,
  ⟨some 70, Op.move (Operand.tmp 6), none, false⟩,
  ⟨some 71, Op.move (Operand.tmp 7), none, false⟩,
  ⟨some 72, Op.slice 22 (Operand.tmp 70) .none (some (Operand.tmp 71)) .none, none, false⟩,
  ⟨some 73, Op.call { callee := Callee.value (Operand.func 15), args := #[Operand.tmp 69, Operand.tmp 72], argTypes := #[22, 22] }, none, false⟩,
  ⟨some 74, Op.move (Operand.tmp 0), none, false⟩,
  ⟨some 75, Op.move (Operand.tmp 1), none, true⟩,
  ⟨some 76, Op.binOp BinOp.eql 3 (Operand.tmp 74) (Operand.tmp 75) 3, none, true⟩,
  ⟨some 77, Op.binOp BinOp.eql 4 (Operand.tmp 73) (Operand.tmp 76) 4, none, true⟩,
  ⟨some 4, Op.assign (Operand.tmp 77), none, true⟩] := rfl
def k4 : CC := (.seq (.region k4_r0) (.seq (.seq (.region k4_r1) (.cond (Operand.tmp 9) (.seq (.region k4_r2) .ret) .skip)) (.seq (.region k4_r3) (.seq (.seq (.region k4_r4) (.cond (Operand.tmp 33) (.seq (.region k4_r5) .ret) .skip)) (.seq (.seq (.region k4_r6) (.cond (Operand.tmp 39) (.seq (.region k4_r7) .ret) .skip)) (.seq (.seq (.region k4_r8) (.cond (Operand.tmp 61) (.seq (.region k4_r9) .ret) .skip)) (.seq (.region k4_r10) (.seq (.region k4_r11) .ret))))))))
theorem k4_e {P : Program} {pr : Prim} {N : Nat} : Ev P pr N k4 = Ev P pr N (.seq (.region k4_r0) (.seq (.seq (.region k4_r1) (.cond (Operand.tmp 9) (.seq (.region k4_r2) .ret) .skip)) (.seq (.region k4_r3) (.seq (.seq (.region k4_r4) (.cond (Operand.tmp 33) (.seq (.region k4_r5) .ret) .skip)) (.seq (.seq (.region k4_r6) (.cond (Operand.tmp 39) (.seq (.region k4_r7) .ret) .skip)) (.seq (.seq (.region k4_r8) (.cond (Operand.tmp 61) (.seq (.region k4_r9) .ret) .skip)) (.seq (.region k4_r10) (.seq (.region k4_r11) .ret)))))))) := rfl
/-- quern/quernlaw01.PackRises -/
theorem k4_is : FnIs Try.prog noPrim 4 78 [ResultVar.tmp 4] k4 := FnIs.of_fn Try.func4 (by kernel_rfl)
def k5_r0 : List COp := [
  ⟨some 4, Op.assign (Operand.const (Value.bool false)), none, true⟩]
theorem k5_r0_e {P : Program} {pr : Prim} {N : Nat} : Eo P pr N k5_r0 = Eo P pr N [
  ⟨some 4, Op.assign (Operand.const (Value.bool false)), none, true⟩] := rfl
def k5_r1 : List COp := [
  ⟨some 8, Op.call { callee := Callee.value (Operand.func 11), args := #[], argTypes := #[] }, none, true⟩,
  ⟨some 9, Op.unOp UnOp.not 4 (Operand.tmp 8), none, true⟩]
theorem k5_r1_e {P : Program} {pr : Prim} {N : Nat} : Eo P pr N k5_r1 = Eo P pr N [
  ⟨some 8, Op.call { callee := Callee.value (Operand.func 11), args := #[], argTypes := #[] }, none, true⟩,
  ⟨some 9, Op.unOp UnOp.not 4 (Operand.tmp 8), none, true⟩] := rfl
def k5_r2 : List COp := [
  ⟨some 4, Op.assign (Operand.const (Value.bool false)), none, true⟩]
theorem k5_r2_e {P : Program} {pr : Prim} {N : Nat} : Eo P pr N k5_r2 = Eo P pr N [
  ⟨some 4, Op.assign (Operand.const (Value.bool false)), none, true⟩] := rfl
def k5_r3 : List COp := [
  ⟨some 10, Op.buildSlice 22 0 #[], none, true⟩,
  ⟨some 11, Op.move (Operand.tmp 0), none, true⟩,
  ⟨some 12, Op.call { callee := Callee.builtin Builtin.append, args := #[Operand.tmp 10, Operand.tmp 11], argTypes := #[22, 22] }, none, true⟩,
  ⟨some 5, Op.assign (Operand.tmp 12), none, true⟩]
theorem k5_r3_e {P : Program} {pr : Prim} {N : Nat} : Eo P pr N k5_r3 = Eo P pr N [
  ⟨some 10, Op.buildSlice 22 0 #[], none, true⟩,
  ⟨some 11, Op.move (Operand.tmp 0), none, true⟩,
  ⟨some 12, Op.call { callee := Callee.builtin Builtin.append, args := #[Operand.tmp 10, Operand.tmp 11], argTypes := #[22, 22] }, none, true⟩,
  ⟨some 5, Op.assign (Operand.tmp 12), none, true⟩] := rfl
def k5_r4 : List COp := [
  ⟨some 13, Op.move (Operand.tmp 1), none, true⟩,
  ⟨some 14, Op.call { callee := Callee.builtin Builtin.len, args := #[Operand.tmp 13], argTypes := #[30] }, none, true⟩,
  ⟨some 15, Op.move (Operand.const (Value.int IntKind.i64 0)), none, true⟩]
theorem k5_r4_e {P : Program} {pr : Prim} {N : Nat} : Eo P pr N k5_r4 = Eo P pr N [
  ⟨some 13, Op.move (Operand.tmp 1), none, true⟩,
  ⟨some 14, Op.call { callee := Callee.builtin Builtin.len, args := #[Operand.tmp 13], argTypes := #[30] }, none, true⟩,
  ⟨some 15, Op.move (Operand.const (Value.int IntKind.i64 0)), none, true⟩] := rfl
def k5_r5 : List COp := [
  ⟨some 16, Op.binOp BinOp.lss 3 (Operand.tmp 15) (Operand.tmp 14) 3, none, true⟩]
theorem k5_r5_e {P : Program} {pr : Prim} {N : Nat} : Eo P pr N k5_r5 = Eo P pr N [
  ⟨some 16, Op.binOp BinOp.lss 3 (Operand.tmp 15) (Operand.tmp 14) 3, none, true⟩] := rfl
def k5_r6 : List COp := [
  ⟨some 17, Op.indexAddr 30 (Operand.tmp 13) (Operand.tmp 15), none, true⟩,
  ⟨some 18, Op.load 3 (Operand.tmp 17), none, true⟩,
  ⟨some 7, Op.assign (Operand.tmp 18), none, true⟩]
theorem k5_r6_e {P : Program} {pr : Prim} {N : Nat} : Eo P pr N k5_r6 = Eo P pr N [
  ⟨some 17, Op.indexAddr 30 (Operand.tmp 13) (Operand.tmp 15), none, true⟩,
  ⟨some 18, Op.load 3 (Operand.tmp 17), none, true⟩,
  ⟨some 7, Op.assign (Operand.tmp 18), none, true⟩] := rfl
def k5_r7 : List COp := [
  ⟨some 19, Op.move (Operand.tmp 5), none, true⟩,
  ⟨some 20, Op.move (Operand.tmp 7), none, true⟩,
  ⟨some 21, Op.call { callee := Callee.value (Operand.func 16), args := #[Operand.tmp 19, Operand.tmp 20], argTypes := #[22, 3] }, none, true⟩,
  ⟨some 5, Op.assign (Operand.tmp 21), none, true⟩]
theorem k5_r7_e {P : Program} {pr : Prim} {N : Nat} : Eo P pr N k5_r7 = Eo P pr N [
  ⟨some 19, Op.move (Operand.tmp 5), none, true⟩,
  ⟨some 20, Op.move (Operand.tmp 7), none, true⟩,
  ⟨some 21, Op.call { callee := Callee.value (Operand.func 16), args := #[Operand.tmp 19, Operand.tmp 20], argTypes := #[22, 3] }, none, true⟩,
  ⟨some 5, Op.assign (Operand.tmp 21), none, true⟩] := rfl
def k5_r8 : List COp := [
  ⟨some 22, Op.move (Operand.tmp 7), none, true⟩,
  ⟨some 23, Op.call { callee := Callee.value (Operand.func 17), args := #[Operand.tmp 22], argTypes := #[3] }, none, true⟩,
  ⟨some 24, Op.move (Operand.tmp 7), none, true⟩,
  ⟨some 25, Op.call { callee := Callee.value (Operand.func 16), args := #[Operand.const (Value.slice .none 0 0), Operand.tmp 24], argTypes := #[22, 3] }, none, true⟩,
  ⟨some 26, Op.call { callee := Callee.builtin Builtin.len, args := #[Operand.tmp 25], argTypes := #[22] }, none, true⟩,
  ⟨some 27, Op.binOp BinOp.neq 3 (Operand.tmp 23) (Operand.tmp 26) 3, none, true⟩]
theorem k5_r8_e {P : Program} {pr : Prim} {N : Nat} : Eo P pr N k5_r8 = Eo P pr N [
  ⟨some 22, Op.move (Operand.tmp 7), none, true⟩,
  ⟨some 23, Op.call { callee := Callee.value (Operand.func 17), args := #[Operand.tmp 22], argTypes := #[3] }, none, true⟩,
  ⟨some 24, Op.move (Operand.tmp 7), none, true⟩,
  ⟨some 25, Op.call { callee := Callee.value (Operand.func 16), args := #[Operand.const (Value.slice .none 0 0), Operand.tmp 24], argTypes := #[22, 3] }, none, true⟩,
  ⟨some 26, Op.call { callee := Callee.builtin Builtin.len, args := #[Operand.tmp 25], argTypes := #[22] }, none, true⟩,
  ⟨some 27, Op.binOp BinOp.neq 3 (Operand.tmp 23) (Operand.tmp 26) 3, none, true⟩] := rfl
def k5_r9 : List COp := [
  ⟨some 4, Op.assign (Operand.const (Value.bool false)), none, true⟩]
theorem k5_r9_e {P : Program} {pr : Prim} {N : Nat} : Eo P pr N k5_r9 = Eo P pr N [
  ⟨some 4, Op.assign (Operand.const (Value.bool false)), none, true⟩] := rfl
def k5_r10 : List COp := [
  ⟨some 28, Op.binOp BinOp.add 3 (Operand.tmp 15) (Operand.const (Value.int IntKind.i64 1)) 3, none, true⟩,
  ⟨some 15, Op.move (Operand.tmp 28), none, true⟩]
theorem k5_r10_e {P : Program} {pr : Prim} {N : Nat} : Eo P pr N k5_r10 = Eo P pr N [
  ⟨some 28, Op.binOp BinOp.add 3 (Operand.tmp 15) (Operand.const (Value.int IntKind.i64 1)) 3, none, true⟩,
  ⟨some 15, Op.move (Operand.tmp 28), none, true⟩] := rfl
def k5_l0 : CC := (.seq (.region k5_r5) (.seq (.cond (Operand.tmp 16) .skip (.exit 0)) (.seq (.block 1 (.seq (.region k5_r6) (.seq (.region k5_r7) (.seq (.region k5_r8) (.cond (Operand.tmp 27) (.seq (.region k5_r9) .ret) .skip))))) (.region k5_r10))))
theorem k5_l0_e {P : Program} {pr : Prim} {N : Nat} : Ev P pr N k5_l0 = Ev P pr N (.seq (.region k5_r5) (.seq (.cond (Operand.tmp 16) .skip (.exit 0)) (.seq (.block 1 (.seq (.region k5_r6) (.seq (.region k5_r7) (.seq (.region k5_r8) (.cond (Operand.tmp 27) (.seq (.region k5_r9) .ret) .skip))))) (.region k5_r10)))) := rfl
def k5_r11 : List COp := [
  ⟨some 29, Op.move (Operand.tmp 0), none, true⟩,
  ⟨some 30, Op.move (Operand.tmp 1), none, true⟩,
  ⟨some 31, Op.call { callee := Callee.value (Operand.func 14), args := #[Operand.tmp 29, Operand.tmp 30], argTypes := #[22, 30] }, none, true⟩,
  ⟨some 32, Op.move (Operand.tmp 5), none, true⟩,
  ⟨some 33, Op.call { callee := Callee.value (Operand.func 15), args := #[Operand.tmp 31, Operand.tmp 32], argTypes := #[22, 22] }, none, true⟩,
  ⟨some 4, Op.assign (Operand.tmp 33), none, true⟩]
theorem k5_r11_e {P : Program} {pr : Prim} {N : Nat} : Eo P pr N k5_r11 = Eo P pr N [
  ⟨some 29, Op.move (Operand.tmp 0), none, true⟩,
  ⟨some 30, Op.move (Operand.tmp 1), none, true⟩,
  ⟨some 31, Op.call { callee := Callee.value (Operand.func 14), args := #[Operand.tmp 29, Operand.tmp 30], argTypes := #[22, 30] }, none, true⟩,
  ⟨some 32, Op.move (Operand.tmp 5), none, true⟩,
  ⟨some 33, Op.call { callee := Callee.value (Operand.func 15), args := #[Operand.tmp 31, Operand.tmp 32], argTypes := #[22, 22] }, none, true⟩,
  ⟨some 4, Op.assign (Operand.tmp 33), none, true⟩] := rfl
def k5 : CC := (.seq (.region k5_r0) (.seq (.seq (.region k5_r1) (.cond (Operand.tmp 9) (.seq (.region k5_r2) .ret) .skip)) (.seq (.region k5_r3) (.seq (.seq (.region k5_r4) (.block 0 (.loop k5_l0))) (.seq (.region k5_r11) .ret)))))
theorem k5_e {P : Program} {pr : Prim} {N : Nat} : Ev P pr N k5 = Ev P pr N (.seq (.region k5_r0) (.seq (.seq (.region k5_r1) (.cond (Operand.tmp 9) (.seq (.region k5_r2) .ret) .skip)) (.seq (.region k5_r3) (.seq (.seq (.region k5_r4) (.block 0 (.loop k5_l0))) (.seq (.region k5_r11) .ret))))) := rfl
/-- quern/quernlaw01.PackPuts -/
theorem k5_is : FnIs Try.prog noPrim 5 34 [ResultVar.tmp 4] k5 := FnIs.of_fn Try.func5 (by kernel_rfl)
def k6_r0 : List COp := [
  ⟨some 4, Op.assign (Operand.const (Value.bool false)), none, true⟩]
theorem k6_r0_e {P : Program} {pr : Prim} {N : Nat} : Eo P pr N k6_r0 = Eo P pr N [
  ⟨some 4, Op.assign (Operand.const (Value.bool false)), none, true⟩] := rfl
def k6_r1 : List COp := [
  ⟨some 10, Op.call { callee := Callee.value (Operand.func 11), args := #[], argTypes := #[] }, none, true⟩,
  ⟨some 11, Op.unOp UnOp.not 4 (Operand.tmp 10), none, true⟩]
theorem k6_r1_e {P : Program} {pr : Prim} {N : Nat} : Eo P pr N k6_r1 = Eo P pr N [
  ⟨some 10, Op.call { callee := Callee.value (Operand.func 11), args := #[], argTypes := #[] }, none, true⟩,
  ⟨some 11, Op.unOp UnOp.not 4 (Operand.tmp 10), none, true⟩] := rfl
def k6_r2 : List COp := [
  ⟨some 4, Op.assign (Operand.const (Value.bool false)), none, true⟩]
theorem k6_r2_e {P : Program} {pr : Prim} {N : Nat} : Eo P pr N k6_r2 = Eo P pr N [
  ⟨some 4, Op.assign (Operand.const (Value.bool false)), none, true⟩] := rfl
def k6_r3 : List COp := [
  ⟨some 12, Op.move (Operand.tmp 0), none, true⟩,
  ⟨some 13, Op.binOp BinOp.geq 3 (Operand.tmp 12) (Operand.const (Value.int IntKind.i64 0)) 3, none, true⟩]
theorem k6_r3_e {P : Program} {pr : Prim} {N : Nat} : Eo P pr N k6_r3 = Eo P pr N [
  ⟨some 12, Op.move (Operand.tmp 0), none, true⟩,
  ⟨some 13, Op.binOp BinOp.geq 3 (Operand.tmp 12) (Operand.const (Value.int IntKind.i64 0)) 3, none, true⟩] := rfl
def k6_r4 : List COp := [
  ⟨some 14, Op.move (Operand.tmp 0), none, true⟩,
  ⟨some 15, Op.buildSlice 30 1 #[(0, Operand.tmp 14)], none, true⟩,
  ⟨some 16, Op.call { callee := Callee.value (Operand.func 14), args := #[Operand.const (Value.slice .none 0 0), Operand.tmp 15], argTypes := #[22, 30] }, none, true⟩,
  ⟨some 5, Op.assign (Operand.tmp 16), none, true⟩]
theorem k6_r4_e {P : Program} {pr : Prim} {N : Nat} : Eo P pr N k6_r4 = Eo P pr N [
  ⟨some 14, Op.move (Operand.tmp 0), none, true⟩,
  ⟨some 15, Op.buildSlice 30 1 #[(0, Operand.tmp 14)], none, true⟩,
  ⟨some 16, Op.call { callee := Callee.value (Operand.func 14), args := #[Operand.const (Value.slice .none 0 0), Operand.tmp 15], argTypes := #[22, 30] }, none, true⟩,
  ⟨some 5, Op.assign (Operand.tmp 16), none, true⟩] := rfl
def k6_r5 : List COp := [
  ⟨some 18, Op.move (Operand.tmp 5), none, true⟩,
  ⟨some 19, Op.move (Operand.tmp 5), none, true⟩,
  ⟨some 20, Op.call { callee := Callee.builtin Builtin.len, args := #[Operand.tmp 19], argTypes := #[22] }, none, true⟩,
  ⟨some 21, Op.move (Operand.tmp 5), none, true⟩,
  ⟨some 22, Op.call { callee := Callee.builtin Builtin.len, args := #[Operand.tmp 21], argTypes := #[22] }, none, true⟩,
  ⟨some 23, Op.slice 22 (Operand.tmp 18) .none (some (Operand.tmp 20)) (some (Operand.tmp 22)), none, true⟩,
  ⟨some 24, Op.move (Operand.tmp 1), none, true⟩,
  ⟨some 25, Op.call { callee := Callee.builtin Builtin.append, args := #[Operand.tmp 23, Operand.tmp 24], argTypes := #[22, 22] }, none, true⟩,
  ⟨some 26, Op.call { callee := Callee.value (Operand.func 12), args := #[Operand.tmp 25], argTypes := #[22] }, none, true⟩,
  ⟨some 17, Op.move (Operand.tmp 26), none, true⟩,
  ⟨some 27, Op.extract (Operand.tmp 17) 0, none, true⟩,
  ⟨some 28, Op.extract (Operand.tmp 17) 1, none, true⟩,
  ⟨some 6, Op.assign (Operand.tmp 27), none, true⟩,
  ⟨some 7, Op.assign (Operand.tmp 28), none, true⟩]
theorem k6_r5_e {P : Program} {pr : Prim} {N : Nat} : Eo P pr N k6_r5 = Eo P pr N [
  ⟨some 18, Op.move (Operand.tmp 5), none, true⟩,
  ⟨some 19, Op.move (Operand.tmp 5), none, true⟩,
  ⟨some 20, Op.call { callee := Callee.builtin Builtin.len, args := #[Operand.tmp 19], argTypes := #[22] }, none, true⟩,
  ⟨some 21, Op.move (Operand.tmp 5), none, true⟩,
  ⟨some 22, Op.call { callee := Callee.builtin Builtin.len, args := #[Operand.tmp 21], argTypes := #[22] }, none, true⟩,
  ⟨some 23, Op.slice 22 (Operand.tmp 18) .none (some (Operand.tmp 20)) (some (Operand.tmp 22)), none, true⟩,
  ⟨some 24, Op.move (Operand.tmp 1), none, true⟩,
  ⟨some 25, Op.call { callee := Callee.builtin Builtin.append, args := #[Operand.tmp 23, Operand.tmp 24], argTypes := #[22, 22] }, none, true⟩,
  ⟨some 26, Op.call { callee := Callee.value (Operand.func 12), args := #[Operand.tmp 25], argTypes := #[22] }, none, true⟩,
  ⟨some 17, Op.move (Operand.tmp 26), none, true⟩,
  ⟨some 27, Op.extract (Operand.tmp 17) 0, none, true⟩,
  ⟨some 28, Op.extract (Operand.tmp 17) 1, none, true⟩,
  ⟨some 6, Op.assign (Operand.tmp 27), none, true⟩,
  ⟨some 7, Op.assign (Operand.tmp 28), none, true⟩] := rfl
def k6_r6 : List COp := [
  ⟨some 29, Op.move (Operand.tmp 6), none, true⟩,
  ⟨some 30, Op.move (Operand.tmp 0), none, true⟩,
  ⟨some 31, Op.binOp BinOp.neq 3 (Operand.tmp 29) (Operand.tmp 30) 3, none, true⟩,
  ⟨some 32, Op.move (Operand.tmp 31), none, true⟩,
  ⟨some 33, Op.move (Operand.tmp 7), some (32, false), true⟩,
  ⟨some 34, Op.move (Operand.tmp 5), some (32, false), true⟩,
  ⟨some 35, Op.call { callee := Callee.builtin Builtin.len, args := #[Operand.tmp 34], argTypes := #[22] }, some (32, false), true⟩,
  ⟨some 36, Op.binOp BinOp.neq 3 (Operand.tmp 33) (Operand.tmp 35) 3, some (32, false), true⟩,
  ⟨some 37, Op.pick (Operand.tmp 32) (Operand.const (Value.bool true)) (Operand.tmp 36), none, true⟩,
  ⟨some 38, Op.move (Operand.tmp 37), none, true⟩,
  ⟨some 39, Op.move (Operand.tmp 7), some (38, false), true⟩,
  ⟨some 40, Op.move (Operand.tmp 0), some (38, false), true⟩,
  ⟨some 41, Op.call { callee := Callee.value (Operand.func 17), args := #[Operand.tmp 40], argTypes := #[3] }, some (38, false), true⟩,
  ⟨some 42, Op.binOp BinOp.neq 3 (Operand.tmp 39) (Operand.tmp 41) 3, some (38, false), true⟩,
  ⟨some 43, Op.pick (Operand.tmp 38) (Operand.const (Value.bool true)) (Operand.tmp 42), none, true⟩,
  ⟨some 44, Op.move (Operand.tmp 43), none, true⟩,
  ⟨some 45, Op.move (Operand.tmp 7), some (44, false), true⟩,
  ⟨some 46, Op.binOp BinOp.lss 3 (Operand.tmp 45) (Operand.const (Value.int IntKind.i64 1)) 3, some (44, false), true⟩,
  ⟨some 47, Op.pick (Operand.tmp 44) (Operand.const (Value.bool true)) (Operand.tmp 46), none, true⟩,
  ⟨some 48, Op.move (Operand.tmp 47), none, true⟩,
  ⟨some 49, Op.move (Operand.tmp 7), some (48, false), true⟩,
  ⟨some 50, Op.binOp BinOp.gtr 3 (Operand.tmp 49) (Operand.const (Value.int IntKind.i64 9)) 3, some (48, false), true⟩,
  ⟨some 51, Op.pick (Operand.tmp 48) (Operand.const (Value.bool true)) (Operand.tmp 50), none, true⟩]
theorem k6_r6_e {P : Program} {pr : Prim} {N : Nat} : Eo P pr N k6_r6 = Eo P pr N [
  ⟨some 29, Op.move (Operand.tmp 6), none, true⟩,
  ⟨some 30, Op.move (Operand.tmp 0), none, true⟩,
  ⟨some 31, Op.binOp BinOp.neq 3 (Operand.tmp 29) (Operand.tmp 30) 3, none, true⟩,
  ⟨some 32, Op.move (Operand.tmp 31), none, true⟩,
  ⟨some 33, Op.move (Operand.tmp 7), some (32, false), true⟩,
  ⟨some 34, Op.move (Operand.tmp 5), some (32, false), true⟩,
  ⟨some 35, Op.call { callee := Callee.builtin Builtin.len, args := #[Operand.tmp 34], argTypes := #[22] }, some (32, false), true⟩,
  ⟨some 36, Op.binOp BinOp.neq 3 (Operand.tmp 33) (Operand.tmp 35) 3, some (32, false), true⟩,
  ⟨some 37, Op.pick (Operand.tmp 32) (Operand.const (Value.bool true)) (Operand.tmp 36), none, true⟩,
  ⟨some 38, Op.move (Operand.tmp 37), none, true⟩,
  ⟨some 39, Op.move (Operand.tmp 7), some (38, false), true⟩,
  ⟨some 40, Op.move (Operand.tmp 0), some (38, false), true⟩,
  ⟨some 41, Op.call { callee := Callee.value (Operand.func 17), args := #[Operand.tmp 40], argTypes := #[3] }, some (38, false), true⟩,
  ⟨some 42, Op.binOp BinOp.neq 3 (Operand.tmp 39) (Operand.tmp 41) 3, some (38, false), true⟩,
  ⟨some 43, Op.pick (Operand.tmp 38) (Operand.const (Value.bool true)) (Operand.tmp 42), none, true⟩,
  ⟨some 44, Op.move (Operand.tmp 43), none, true⟩,
  ⟨some 45, Op.move (Operand.tmp 7), some (44, false), true⟩,
  ⟨some 46, Op.binOp BinOp.lss 3 (Operand.tmp 45) (Operand.const (Value.int IntKind.i64 1)) 3, some (44, false), true⟩,
  ⟨some 47, Op.pick (Operand.tmp 44) (Operand.const (Value.bool true)) (Operand.tmp 46), none, true⟩,
  ⟨some 48, Op.move (Operand.tmp 47), none, true⟩,
  ⟨some 49, Op.move (Operand.tmp 7), some (48, false), true⟩,
  ⟨some 50, Op.binOp BinOp.gtr 3 (Operand.tmp 49) (Operand.const (Value.int IntKind.i64 9)) 3, some (48, false), true⟩,
  ⟨some 51, Op.pick (Operand.tmp 48) (Operand.const (Value.bool true)) (Operand.tmp 50), none, true⟩] := rfl
def k6_r7 : List COp := [
  ⟨some 4, Op.assign (Operand.const (Value.bool false)), none, true⟩]
theorem k6_r7_e {P : Program} {pr : Prim} {N : Nat} : Eo P pr N k6_r7 = Eo P pr N [
  ⟨some 4, Op.assign (Operand.const (Value.bool false)), none, true⟩] := rfl
def k6_r8 : List COp := [
  ⟨some 53, Op.move (Operand.tmp 1), none, true⟩,
  ⟨some 54, Op.call { callee := Callee.value (Operand.func 12), args := #[Operand.tmp 53], argTypes := #[22] }, none, true⟩,
  ⟨some 52, Op.move (Operand.tmp 54), none, true⟩,
  ⟨some 55, Op.extract (Operand.tmp 52) 0, none, true⟩,
  ⟨some 56, Op.extract (Operand.tmp 52) 1, none, true⟩,
  ⟨some 8, Op.assign (Operand.tmp 55), none, true⟩,
  ⟨some 9, Op.assign (Operand.tmp 56), none, true⟩]
theorem k6_r8_e {P : Program} {pr : Prim} {N : Nat} : Eo P pr N k6_r8 = Eo P pr N [
  ⟨some 53, Op.move (Operand.tmp 1), none, true⟩,
  ⟨some 54, Op.call { callee := Callee.value (Operand.func 12), args := #[Operand.tmp 53], argTypes := #[22] }, none, true⟩,
  ⟨some 52, Op.move (Operand.tmp 54), none, true⟩,
  ⟨some 55, Op.extract (Operand.tmp 52) 0, none, true⟩,
  ⟨some 56, Op.extract (Operand.tmp 52) 1, none, true⟩,
  ⟨some 8, Op.assign (Operand.tmp 55), none, true⟩,
  ⟨some 9, Op.assign (Operand.tmp 56), none, true⟩] := rfl
def k6_r9 : List COp := [
  ⟨some 57, Op.move (Operand.tmp 9), none, true⟩,
  ⟨some 58, Op.binOp BinOp.eql 3 (Operand.tmp 57) (Operand.const (Value.int IntKind.i64 0)) 3, none, true⟩]
theorem k6_r9_e {P : Program} {pr : Prim} {N : Nat} : Eo P pr N k6_r9 = Eo P pr N [
  ⟨some 57, Op.move (Operand.tmp 9), none, true⟩,
  ⟨some 58, Op.binOp BinOp.eql 3 (Operand.tmp 57) (Operand.const (Value.int IntKind.i64 0)) 3, none, true⟩] := rfl
def k6_r10 : List COp := [
  ⟨some 59, Op.move (Operand.tmp 8), none, true⟩,
  ⟨some 60, Op.binOp BinOp.eql 3 (Operand.tmp 59) (Operand.const (Value.int IntKind.i64 0)) 3, none, true⟩,
  ⟨some 4, Op.assign (Operand.tmp 60), none, true⟩]
theorem k6_r10_e {P : Program} {pr : Prim} {N : Nat} : Eo P pr N k6_r10 = Eo P pr N [
  ⟨some 59, Op.move (Operand.tmp 8), none, true⟩,
  ⟨some 60, Op.binOp BinOp.eql 3 (Operand.tmp 59) (Operand.const (Value.int IntKind.i64 0)) 3, none, true⟩,
  ⟨some 4, Op.assign (Operand.tmp 60), none, true⟩] := rfl
def k6_r11 : List COp := [
  ⟨some 61, Op.move (Operand.tmp 8), none, true⟩,
  ⟨some 62, Op.binOp BinOp.geq 3 (Operand.tmp 61) (Operand.const (Value.int IntKind.i64 0)) 3, none, true⟩,
  ⟨some 63, Op.move (Operand.tmp 62), none, true⟩,
  ⟨some 64, Op.move (Operand.tmp 9), some (63, true), true⟩,
  ⟨some 65, Op.binOp BinOp.gtr 3 (Operand.tmp 64) (Operand.const (Value.int IntKind.i64 0)) 3, some (63, true), true⟩,
  ⟨some 66, Op.pick (Operand.tmp 63) (Operand.tmp 65) (Operand.const (Value.bool false)), none, true⟩,
  ⟨some 67, Op.move (Operand.tmp 66), none, true⟩,
  ⟨some 68, Op.move (Operand.tmp 9), some (67, true), false⟩,
  ⟨some 69, Op.move (Operand.tmp 1), some (67, true), true⟩,
  ⟨some 70, Op.call { callee := Callee.builtin Builtin.len, args := #[Operand.tmp 69], argTypes := #[22] }, some (67, true), true⟩,
  ⟨some 71, Op.binOp BinOp.leq 3 (Operand.tmp 68) (Operand.tmp 70) 3, some (67, true), true⟩,
  ⟨some 72, Op.pick (Operand.tmp 67) (Operand.tmp 71) (Operand.const (Value.bool false)), none, true⟩,
  ⟨some 73, Op.move (Operand.tmp 72), none, true⟩,
  ⟨some 74, Op.move (Operand.tmp 8), some (73, true), false⟩,
  ⟨some 75, Op.buildSlice 30 1 #[(0, Operand.tmp 74)], some (73, true), false⟩,
  ⟨some 76, Op.call { callee := Callee.value (Operand.func 14), args := #[Operand.const (Value.slice .none 0 0), Operand.tmp 75], argTypes := #[22, 30] }, some (73, true), false⟩,
  ⟨some 77, Op.move (Operand.tmp 1), some (73, true), false⟩,
  ⟨some 78, Op.move (Operand.tmp 9), some (73, true), true⟩,
  ⟨some 79, Op.slice 22 (Operand.tmp 77) .none (some (Operand.tmp 78)) .none, some (73, true), true⟩,
  ⟨some 80, Op.call { callee := Callee.value (Operand.func 15), args := #[Operand.tmp 76, Operand.tmp 79], argTypes := #[22, 22] }, some (73, true), true⟩,
  ⟨some 81, Op.pick (Operand.tmp 73) (Operand.tmp 80) (Operand.const (Value.bool false)), none, true⟩,
  ⟨some 4, Op.assign (Operand.tmp 81), none, true⟩]
theorem k6_r11_e {P : Program} {pr : Prim} {N : Nat} : Eo P pr N k6_r11 = Eo P pr N [
  ⟨some 61, Op.move (Operand.tmp 8), none, true⟩,
  ⟨some 62, Op.binOp BinOp.geq 3 (Operand.tmp 61) (Operand.const (Value.int IntKind.i64 0)) 3, none, true⟩,
  ⟨some 63, Op.move (Operand.tmp 62), none, true⟩,
  ⟨some 64, Op.move (Operand.tmp 9), some (63, true), true⟩,
  ⟨some 65, Op.binOp BinOp.gtr 3 (Operand.tmp 64) (Operand.const (Value.int IntKind.i64 0)) 3, some (63, true), true⟩,
  ⟨some 66, Op.pick (Operand.tmp 63) (Operand.tmp 65) (Operand.const (Value.bool false)), none, true⟩,
  ⟨some 67, Op.move (Operand.tmp 66), none, true⟩,
  ⟨some 68, Op.move (Operand.tmp 9), some (67, true), false⟩,
  ⟨some 69, Op.move (Operand.tmp 1), some (67, true), true⟩,
  ⟨some 70, Op.call { callee := Callee.builtin Builtin.len, args := #[Operand.tmp 69], argTypes := #[22] }, some (67, true), true⟩,
  ⟨some 71, Op.binOp BinOp.leq 3 (Operand.tmp 68) (Operand.tmp 70) 3, some (67, true), true⟩,
  ⟨some 72, Op.pick (Operand.tmp 67) (Operand.tmp 71) (Operand.const (Value.bool false)), none, true⟩,
  ⟨some 73, Op.move (Operand.tmp 72), none, true⟩,
  ⟨some 74, Op.move (Operand.tmp 8), some (73, true), false⟩,
  ⟨some 75, Op.buildSlice 30 1 #[(0, Operand.tmp 74)], some (73, true), false⟩,
  ⟨some 76, Op.call { callee := Callee.value (Operand.func 14), args := #[Operand.const (Value.slice .none 0 0), Operand.tmp 75], argTypes := #[22, 30] }, some (73, true), false⟩,
  ⟨some 77, Op.move (Operand.tmp 1), some (73, true), false⟩,
  ⟨some 78, Op.move (Operand.tmp 9), some (73, true), true⟩,
  ⟨some 79, Op.slice 22 (Operand.tmp 77) .none (some (Operand.tmp 78)) .none, some (73, true), true⟩,
  ⟨some 80, Op.call { callee := Callee.value (Operand.func 15), args := #[Operand.tmp 76, Operand.tmp 79], argTypes := #[22, 22] }, some (73, true), true⟩,
  ⟨some 81, Op.pick (Operand.tmp 73) (Operand.tmp 80) (Operand.const (Value.bool false)), none, true⟩,
  ⟨some 4, Op.assign (Operand.tmp 81), none, true⟩] := rfl
def k6 : CC := (.seq (.region k6_r0) (.seq (.seq (.region k6_r1) (.cond (Operand.tmp 11) (.seq (.region k6_r2) .ret) .skip)) (.seq (.seq (.region k6_r3) (.cond (Operand.tmp 13) (.seq (.region k6_r4) (.seq (.region k6_r5) (.seq (.region k6_r6) (.cond (Operand.tmp 51) (.seq (.region k6_r7) .ret) .skip)))) .skip)) (.seq (.region k6_r8) (.seq (.seq (.region k6_r9) (.cond (Operand.tmp 58) (.seq (.region k6_r10) .ret) .skip)) (.seq (.region k6_r11) .ret))))))
theorem k6_e {P : Program} {pr : Prim} {N : Nat} : Ev P pr N k6 = Ev P pr N (.seq (.region k6_r0) (.seq (.seq (.region k6_r1) (.cond (Operand.tmp 11) (.seq (.region k6_r2) .ret) .skip)) (.seq (.seq (.region k6_r3) (.cond (Operand.tmp 13) (.seq (.region k6_r4) (.seq (.region k6_r5) (.seq (.region k6_r6) (.cond (Operand.tmp 51) (.seq (.region k6_r7) .ret) .skip)))) .skip)) (.seq (.region k6_r8) (.seq (.seq (.region k6_r9) (.cond (Operand.tmp 58) (.seq (.region k6_r10) .ret) .skip)) (.seq (.region k6_r11) .ret)))))) := rfl
/-- quern/quernlaw01.PackBack -/
theorem k6_is : FnIs Try.prog noPrim 6 82 [ResultVar.tmp 4] k6 := FnIs.of_fn Try.func6 (by kernel_rfl)
def k11_r0 : List COp := [
  ⟨some 0, Op.assign (Operand.const (Value.bool false)), none, true⟩]
theorem k11_r0_e {P : Program} {pr : Prim} {N : Nat} : Eo P pr N k11_r0 = Eo P pr N [
  ⟨some 0, Op.assign (Operand.const (Value.bool false)), none, true⟩] := rfl
def k11_r1 : List COp := [
  ⟨some 4, Op.buildSlice 22 3 #[(0, Operand.const (Value.int IntKind.u8 172)), (1, Operand.const (Value.int IntKind.u8 2)), (2, Operand.const (Value.int IntKind.u8 7))], none, true⟩,
  ⟨some 5, Op.call { callee := Callee.value (Operand.func 12), args := #[Operand.tmp 4], argTypes := #[22] }, none, true⟩,
  ⟨some 3, Op.move (Operand.tmp 5), none, true⟩,
  ⟨some 6, Op.extract (Operand.tmp 3) 0, none, true⟩,
  ⟨some 7, Op.extract (Operand.tmp 3) 1, none, true⟩,
  ⟨some 1, Op.assign (Operand.tmp 6), none, true⟩,
  ⟨some 2, Op.assign (Operand.tmp 7), none, true⟩]
theorem k11_r1_e {P : Program} {pr : Prim} {N : Nat} : Eo P pr N k11_r1 = Eo P pr N [
  ⟨some 4, Op.buildSlice 22 3 #[(0, Operand.const (Value.int IntKind.u8 172)), (1, Operand.const (Value.int IntKind.u8 2)), (2, Operand.const (Value.int IntKind.u8 7))], none, true⟩,
  ⟨some 5, Op.call { callee := Callee.value (Operand.func 12), args := #[Operand.tmp 4], argTypes := #[22] }, none, true⟩,
  ⟨some 3, Op.move (Operand.tmp 5), none, true⟩,
  ⟨some 6, Op.extract (Operand.tmp 3) 0, none, true⟩,
  ⟨some 7, Op.extract (Operand.tmp 3) 1, none, true⟩,
  ⟨some 1, Op.assign (Operand.tmp 6), none, true⟩,
  ⟨some 2, Op.assign (Operand.tmp 7), none, true⟩] := rfl
def k11_r2 : List COp := [
  ⟨some 8, Op.move (Operand.tmp 1), none, true⟩,
  ⟨some 9, Op.binOp BinOp.eql 3 (Operand.tmp 8) (Operand.const (Value.int IntKind.i64 300)) 3, none, true⟩,
  ⟨some 10, Op.move (Operand.tmp 9), none, true⟩,
  ⟨some 11, Op.move (Operand.tmp 2), some (10, true), true⟩,
  ⟨some 12, Op.binOp BinOp.eql 3 (Operand.tmp 11) (Operand.const (Value.int IntKind.i64 2)) 3, some (10, true), true⟩,
  ⟨some 13, Op.pick (Operand.tmp 10) (Operand.tmp 12) (Operand.const (Value.bool false)), none, true⟩,
  ⟨some 14, Op.move (Operand.tmp 13), none, true⟩,
  ⟨some 15, Op.buildSlice 30 4 #[(0, Operand.const (Value.int IntKind.i64 0)), (1, Operand.const (Value.int IntKind.i64 127)), (2, Operand.const (Value.int IntKind.i64 128)), (3, Operand.const (Value.int IntKind.i64 300))], some (14, true), true⟩,
  ⟨some 16, Op.call { callee := Callee.value (Operand.func 14), args := #[Operand.const (Value.slice .none 0 0), Operand.tmp 15], argTypes := #[22, 30] }, some (14, true), true⟩,
  ⟨some 17, Op.buildSlice 22 6 #[(0, Operand.const (Value.int IntKind.u8 0)), (1, Operand.const (Value.int IntKind.u8 127)), (2, Operand.const (Value.int IntKind.u8 128)), (3, Operand.const (Value.int IntKind.u8 1)), (4, Operand.const (Value.int IntKind.u8 172)), (5, Operand.const (Value.int IntKind.u8 2))], some (14, true), true⟩,
  ⟨some 18, Op.call { callee := Callee.value (Operand.func 15), args := #[Operand.tmp 16, Operand.tmp 17], argTypes := #[22, 22] }, some (14, true), true⟩,
  ⟨some 19, Op.pick (Operand.tmp 14) (Operand.tmp 18) (Operand.const (Value.bool false)), none, true⟩,
  ⟨some 0, Op.assign (Operand.tmp 19), none, true⟩]
theorem k11_r2_e {P : Program} {pr : Prim} {N : Nat} : Eo P pr N k11_r2 = Eo P pr N [
  ⟨some 8, Op.move (Operand.tmp 1), none, true⟩,
  ⟨some 9, Op.binOp BinOp.eql 3 (Operand.tmp 8) (Operand.const (Value.int IntKind.i64 300)) 3, none, true⟩,
  ⟨some 10, Op.move (Operand.tmp 9), none, true⟩,
  ⟨some 11, Op.move (Operand.tmp 2), some (10, true), true⟩,
  ⟨some 12, Op.binOp BinOp.eql 3 (Operand.tmp 11) (Operand.const (Value.int IntKind.i64 2)) 3, some (10, true), true⟩,
  ⟨some 13, Op.pick (Operand.tmp 10) (Operand.tmp 12) (Operand.const (Value.bool false)), none, true⟩,
  ⟨some 14, Op.move (Operand.tmp 13), none, true⟩,
  ⟨some 15, Op.buildSlice 30 4 #[(0, Operand.const (Value.int IntKind.i64 0)), (1, Operand.const (Value.int IntKind.i64 127)), (2, Operand.const (Value.int IntKind.i64 128)), (3, Operand.const (Value.int IntKind.i64 300))], some (14, true), true⟩,
  ⟨some 16, Op.call { callee := Callee.value (Operand.func 14), args := #[Operand.const (Value.slice .none 0 0), Operand.tmp 15], argTypes := #[22, 30] }, some (14, true), true⟩,
  ⟨some 17, Op.buildSlice 22 6 #[(0, Operand.const (Value.int IntKind.u8 0)), (1, Operand.const (Value.int IntKind.u8 127)), (2, Operand.const (Value.int IntKind.u8 128)), (3, Operand.const (Value.int IntKind.u8 1)), (4, Operand.const (Value.int IntKind.u8 172)), (5, Operand.const (Value.int IntKind.u8 2))], some (14, true), true⟩,
  ⟨some 18, Op.call { callee := Callee.value (Operand.func 15), args := #[Operand.tmp 16, Operand.tmp 17], argTypes := #[22, 22] }, some (14, true), true⟩,
  ⟨some 19, Op.pick (Operand.tmp 14) (Operand.tmp 18) (Operand.const (Value.bool false)), none, true⟩,
  ⟨some 0, Op.assign (Operand.tmp 19), none, true⟩] := rfl
def k11 : CC := (.seq (.region k11_r0) (.seq (.region k11_r1) (.seq (.region k11_r2) .ret)))
theorem k11_e {P : Program} {pr : Prim} {N : Nat} : Ev P pr N k11 = Ev P pr N (.seq (.region k11_r0) (.seq (.region k11_r1) (.seq (.region k11_r2) .ret))) := rfl
/-- quern/quernlaw01.wakes -/
theorem k11_is : FnIs Try.prog noPrim 11 20 [ResultVar.tmp 0] k11 := FnIs.of_fn Try.func11 (by kernel_rfl)
def k12_r0 : List COp := [
  ⟨some 2, Op.assign (Operand.const (Value.int IntKind.i64 0)), none, true⟩,
  ⟨some 3, Op.assign (Operand.const (Value.int IntKind.i64 0)), none, true⟩]
theorem k12_r0_e {P : Program} {pr : Prim} {N : Nat} : Eo P pr N k12_r0 = Eo P pr N [
  ⟨some 2, Op.assign (Operand.const (Value.int IntKind.i64 0)), none, true⟩,
  ⟨some 3, Op.assign (Operand.const (Value.int IntKind.i64 0)), none, true⟩] := rfl
def k12_r1 : List COp := [
  ⟨some 4, Op.assign (Operand.const (Value.int IntKind.i64 0)), none, true⟩]
theorem k12_r1_e {P : Program} {pr : Prim} {N : Nat} : Eo P pr N k12_r1 = Eo P pr N [
  ⟨some 4, Op.assign (Operand.const (Value.int IntKind.i64 0)), none, true⟩] := rfl
def k12_r2 : List COp := [
  ⟨some 5, Op.assign (Operand.const (Value.int IntKind.i64 0)), none, true⟩]
theorem k12_r2_e {P : Program} {pr : Prim} {N : Nat} : Eo P pr N k12_r2 = Eo P pr N [
  ⟨some 5, Op.assign (Operand.const (Value.int IntKind.i64 0)), none, true⟩] := rfl
def k12_r3 : List COp := [
  ⟨some 6, Op.move (Operand.tmp 5), none, true⟩,
  ⟨some 7, Op.move (Operand.tmp 0), none, true⟩,
  ⟨some 8, Op.call { callee := Callee.builtin Builtin.len, args := #[Operand.tmp 7], argTypes := #[22] }, none, true⟩,
  ⟨some 9, Op.binOp BinOp.lss 3 (Operand.tmp 6) (Operand.tmp 8) 3, none, true⟩,
  ⟨some 10, Op.move (Operand.tmp 9), none, true⟩,
  ⟨some 11, Op.move (Operand.tmp 5), some (10, true), true⟩,
  ⟨some 12, Op.binOp BinOp.lss 3 (Operand.tmp 11) (Operand.const (Value.int IntKind.i64 9)) 3, some (10, true), true⟩,
  ⟨some 13, Op.pick (Operand.tmp 10) (Operand.tmp 12) (Operand.const (Value.bool false)), none, true⟩]
theorem k12_r3_e {P : Program} {pr : Prim} {N : Nat} : Eo P pr N k12_r3 = Eo P pr N [
  ⟨some 6, Op.move (Operand.tmp 5), none, true⟩,
  ⟨some 7, Op.move (Operand.tmp 0), none, true⟩,
  ⟨some 8, Op.call { callee := Callee.builtin Builtin.len, args := #[Operand.tmp 7], argTypes := #[22] }, none, true⟩,
  ⟨some 9, Op.binOp BinOp.lss 3 (Operand.tmp 6) (Operand.tmp 8) 3, none, true⟩,
  ⟨some 10, Op.move (Operand.tmp 9), none, true⟩,
  ⟨some 11, Op.move (Operand.tmp 5), some (10, true), true⟩,
  ⟨some 12, Op.binOp BinOp.lss 3 (Operand.tmp 11) (Operand.const (Value.int IntKind.i64 9)) 3, some (10, true), true⟩,
  ⟨some 13, Op.pick (Operand.tmp 10) (Operand.tmp 12) (Operand.const (Value.bool false)), none, true⟩] := rfl
def k12_r5 : List COp := [
  ⟨some 16, Op.move (Operand.tmp 4), none, true⟩,
  ⟨some 17, Op.move (Operand.tmp 0), none, true⟩,
  ⟨some 18, Op.move (Operand.tmp 5), none, true⟩,
  ⟨some 19, Op.indexAddr 22 (Operand.tmp 17) (Operand.tmp 18), none, true⟩,
  ⟨some 20, Op.load 5 (Operand.tmp 19), none, true⟩,
  ⟨some 21, Op.binOp BinOp.and 5 (Operand.tmp 20) (Operand.const (Value.int IntKind.u8 127)) 5, none, true⟩,
  ⟨some 22, Op.convert 5 3 (Operand.tmp 21), none, true⟩,
  ⟨some 23, Op.move (Operand.tmp 5), none, true⟩,
  ⟨some 24, Op.binOp BinOp.mul 3 (Operand.const (Value.int IntKind.i64 7)) (Operand.tmp 23) 3, none, true⟩,
  ⟨some 25, Op.binOp BinOp.shl 3 (Operand.tmp 22) (Operand.tmp 24) 3, none, true⟩,
  ⟨some 26, Op.binOp BinOp.or 3 (Operand.tmp 16) (Operand.tmp 25) 3, none, true⟩,
  ⟨some 4, Op.assign (Operand.tmp 26), none, true⟩]
theorem k12_r5_e {P : Program} {pr : Prim} {N : Nat} : Eo P pr N k12_r5 = Eo P pr N [
  ⟨some 16, Op.move (Operand.tmp 4), none, true⟩,
  ⟨some 17, Op.move (Operand.tmp 0), none, true⟩,
  ⟨some 18, Op.move (Operand.tmp 5), none, true⟩,
  ⟨some 19, Op.indexAddr 22 (Operand.tmp 17) (Operand.tmp 18), none, true⟩,
  ⟨some 20, Op.load 5 (Operand.tmp 19), none, true⟩,
  ⟨some 21, Op.binOp BinOp.and 5 (Operand.tmp 20) (Operand.const (Value.int IntKind.u8 127)) 5, none, true⟩,
  ⟨some 22, Op.convert 5 3 (Operand.tmp 21), none, true⟩,
  ⟨some 23, Op.move (Operand.tmp 5), none, true⟩,
  ⟨some 24, Op.binOp BinOp.mul 3 (Operand.const (Value.int IntKind.i64 7)) (Operand.tmp 23) 3, none, true⟩,
  ⟨some 25, Op.binOp BinOp.shl 3 (Operand.tmp 22) (Operand.tmp 24) 3, none, true⟩,
  ⟨some 26, Op.binOp BinOp.or 3 (Operand.tmp 16) (Operand.tmp 25) 3, none, true⟩,
  ⟨some 4, Op.assign (Operand.tmp 26), none, true⟩] := rfl
def k12_r6 : List COp := [
  ⟨some 27, Op.move (Operand.tmp 0), none, true⟩,
  ⟨some 28, Op.move (Operand.tmp 5), none, true⟩,
  ⟨some 29, Op.indexAddr 22 (Operand.tmp 27) (Operand.tmp 28), none, true⟩,
  ⟨some 30, Op.load 5 (Operand.tmp 29), none, true⟩,
  ⟨some 31, Op.binOp BinOp.gtr 5 (Operand.tmp 30) (Operand.const (Value.int IntKind.u8 127)) 5, none, true⟩]
theorem k12_r6_e {P : Program} {pr : Prim} {N : Nat} : Eo P pr N k12_r6 = Eo P pr N [
  ⟨some 27, Op.move (Operand.tmp 0), none, true⟩,
  ⟨some 28, Op.move (Operand.tmp 5), none, true⟩,
  ⟨some 29, Op.indexAddr 22 (Operand.tmp 27) (Operand.tmp 28), none, true⟩,
  ⟨some 30, Op.load 5 (Operand.tmp 29), none, true⟩,
  ⟨some 31, Op.binOp BinOp.gtr 5 (Operand.tmp 30) (Operand.const (Value.int IntKind.u8 127)) 5, none, true⟩] := rfl
def k12_r7 : List COp := [
  ⟨some 32, Op.move (Operand.tmp 0), none, true⟩,
  ⟨some 33, Op.move (Operand.tmp 5), none, true⟩,
  ⟨some 34, Op.indexAddr 22 (Operand.tmp 32) (Operand.tmp 33), none, true⟩,
  ⟨some 35, Op.load 5 (Operand.tmp 34), none, true⟩,
  ⟨some 36, Op.binOp BinOp.eql 5 (Operand.tmp 35) (Operand.const (Value.int IntKind.u8 0)) 5, none, true⟩,
  ⟨some 37, Op.move (Operand.tmp 36), none, true⟩,
  ⟨some 38, Op.move (Operand.tmp 5), some (37, true), true⟩,
  ⟨some 39, Op.binOp BinOp.gtr 3 (Operand.tmp 38) (Operand.const (Value.int IntKind.i64 0)) 3, some (37, true), true⟩,
  ⟨some 40, Op.pick (Operand.tmp 37) (Operand.tmp 39) (Operand.const (Value.bool false)), none, true⟩]
theorem k12_r7_e {P : Program} {pr : Prim} {N : Nat} : Eo P pr N k12_r7 = Eo P pr N [
  ⟨some 32, Op.move (Operand.tmp 0), none, true⟩,
  ⟨some 33, Op.move (Operand.tmp 5), none, true⟩,
  ⟨some 34, Op.indexAddr 22 (Operand.tmp 32) (Operand.tmp 33), none, true⟩,
  ⟨some 35, Op.load 5 (Operand.tmp 34), none, true⟩,
  ⟨some 36, Op.binOp BinOp.eql 5 (Operand.tmp 35) (Operand.const (Value.int IntKind.u8 0)) 5, none, true⟩,
  ⟨some 37, Op.move (Operand.tmp 36), none, true⟩,
  ⟨some 38, Op.move (Operand.tmp 5), some (37, true), true⟩,
  ⟨some 39, Op.binOp BinOp.gtr 3 (Operand.tmp 38) (Operand.const (Value.int IntKind.i64 0)) 3, some (37, true), true⟩,
  ⟨some 40, Op.pick (Operand.tmp 37) (Operand.tmp 39) (Operand.const (Value.bool false)), none, true⟩] := rfl
def k12_r8 : List COp := [
  ⟨some 41, Op.move (Operand.tmp 4), none, true⟩,
  ⟨some 42, Op.move (Operand.tmp 5), none, true⟩,
  ⟨some 43, Op.binOp BinOp.add 3 (Operand.tmp 42) (Operand.const (Value.int IntKind.i64 1)) 3, none, true⟩,
  ⟨some 2, Op.assign (Operand.tmp 41), none, true⟩,
  ⟨some 3, Op.assign (Operand.tmp 43), none, true⟩]
theorem k12_r8_e {P : Program} {pr : Prim} {N : Nat} : Eo P pr N k12_r8 = Eo P pr N [
  ⟨some 41, Op.move (Operand.tmp 4), none, true⟩,
  ⟨some 42, Op.move (Operand.tmp 5), none, true⟩,
  ⟨some 43, Op.binOp BinOp.add 3 (Operand.tmp 42) (Operand.const (Value.int IntKind.i64 1)) 3, none, true⟩,
  ⟨some 2, Op.assign (Operand.tmp 41), none, true⟩,
  ⟨some 3, Op.assign (Operand.tmp 43), none, true⟩] := rfl
def k12_r4 : List COp := [
  ⟨some 14, Op.move (Operand.tmp 5), none, true⟩,
  ⟨some 15, Op.binOp BinOp.add 3 (Operand.tmp 14) (Operand.const (Value.int IntKind.i64 1)) 3, none, true⟩,
  ⟨some 5, Op.assign (Operand.tmp 15), none, true⟩]
theorem k12_r4_e {P : Program} {pr : Prim} {N : Nat} : Eo P pr N k12_r4 = Eo P pr N [
  ⟨some 14, Op.move (Operand.tmp 5), none, true⟩,
  ⟨some 15, Op.binOp BinOp.add 3 (Operand.tmp 14) (Operand.const (Value.int IntKind.i64 1)) 3, none, true⟩,
  ⟨some 5, Op.assign (Operand.tmp 15), none, true⟩] := rfl
def k12_l0 : CC := (.seq (.seq (.region k12_r3) (.cond (Operand.tmp 13) .skip (.exit 0))) (.seq (.block 1 (.seq (.region k12_r5) (.seq (.seq (.region k12_r6) (.cond (Operand.tmp 31) (.exit 1) .skip)) (.seq (.seq (.region k12_r7) (.cond (Operand.tmp 40) (.exit 0) .skip)) (.seq (.region k12_r8) .ret))))) (.region k12_r4)))
theorem k12_l0_e {P : Program} {pr : Prim} {N : Nat} : Ev P pr N k12_l0 = Ev P pr N (.seq (.seq (.region k12_r3) (.cond (Operand.tmp 13) .skip (.exit 0))) (.seq (.block 1 (.seq (.region k12_r5) (.seq (.seq (.region k12_r6) (.cond (Operand.tmp 31) (.exit 1) .skip)) (.seq (.seq (.region k12_r7) (.cond (Operand.tmp 40) (.exit 0) .skip)) (.seq (.region k12_r8) .ret))))) (.region k12_r4))) := rfl
def k12_r9 : List COp := [
  ⟨some 2, Op.assign (Operand.const (Value.int IntKind.i64 0)), none, true⟩,
  ⟨some 3, Op.assign (Operand.const (Value.int IntKind.i64 0)), none, true⟩]
theorem k12_r9_e {P : Program} {pr : Prim} {N : Nat} : Eo P pr N k12_r9 = Eo P pr N [
  ⟨some 2, Op.assign (Operand.const (Value.int IntKind.i64 0)), none, true⟩,
  ⟨some 3, Op.assign (Operand.const (Value.int IntKind.i64 0)), none, true⟩] := rfl
def k12 : CC := (.seq (.region k12_r0) (.seq (.region k12_r1) (.seq (.seq (.region k12_r2) (.block 0 (.loop k12_l0))) (.seq (.region k12_r9) .ret))))
theorem k12_e {P : Program} {pr : Prim} {N : Nat} : Ev P pr N k12 = Ev P pr N (.seq (.region k12_r0) (.seq (.region k12_r1) (.seq (.seq (.region k12_r2) (.block 0 (.loop k12_l0))) (.seq (.region k12_r9) .ret)))) := rfl
/-- quern/pack.Take -/
theorem k12_is : FnIs Try.prog noPrim 12 44 [ResultVar.tmp 2, ResultVar.tmp 3] k12 := FnIs.of_fn Try.func12 (by kernel_rfl)
def k13_r0 : List COp := [
  ⟨some 2, Op.assign (Operand.const (Value.int IntKind.i64 0)), none, true⟩,
  ⟨some 3, Op.assign (Operand.const (Value.int IntKind.i64 0)), none, true⟩]
theorem k13_r0_e {P : Program} {pr : Prim} {N : Nat} : Eo P pr N k13_r0 = Eo P pr N [
  ⟨some 2, Op.assign (Operand.const (Value.int IntKind.i64 0)), none, true⟩,
  ⟨some 3, Op.assign (Operand.const (Value.int IntKind.i64 0)), none, true⟩] := rfl
def k13_r1 : List COp := [
  ⟨some 4, Op.assign (Operand.const (Value.int IntKind.i64 0)), none, true⟩]
theorem k13_r1_e {P : Program} {pr : Prim} {N : Nat} : Eo P pr N k13_r1 = Eo P pr N [
  ⟨some 4, Op.assign (Operand.const (Value.int IntKind.i64 0)), none, true⟩] := rfl
def k13_r2 : List COp := [
  ⟨some 7, Op.move (Operand.tmp 4), none, true⟩,
  ⟨some 8, Op.move (Operand.tmp 0), none, true⟩,
  ⟨some 9, Op.call { callee := Callee.builtin Builtin.len, args := #[Operand.tmp 8], argTypes := #[22] }, none, true⟩,
  ⟨some 10, Op.binOp BinOp.lss 3 (Operand.tmp 7) (Operand.tmp 9) 3, none, true⟩,
  ⟨some 11, Op.move (Operand.tmp 10), none, true⟩,
  ⟨some 12, Op.move (Operand.tmp 0), some (11, true), true⟩,
  ⟨some 13, Op.move (Operand.tmp 4), some (11, true), true⟩,
  ⟨some 14, Op.indexAddr 22 (Operand.tmp 12) (Operand.tmp 13), some (11, true), true⟩,
  ⟨some 15, Op.load 5 (Operand.tmp 14), some (11, true), true⟩,
  ⟨some 16, Op.binOp BinOp.geq 5 (Operand.tmp 15) (Operand.const (Value.int IntKind.u8 128)) 5, some (11, true), true⟩,
  ⟨some 17, Op.pick (Operand.tmp 11) (Operand.tmp 16) (Operand.const (Value.bool false)), none, true⟩]
theorem k13_r2_e {P : Program} {pr : Prim} {N : Nat} : Eo P pr N k13_r2 = Eo P pr N [
  ⟨some 7, Op.move (Operand.tmp 4), none, true⟩,
  ⟨some 8, Op.move (Operand.tmp 0), none, true⟩,
  ⟨some 9, Op.call { callee := Callee.builtin Builtin.len, args := #[Operand.tmp 8], argTypes := #[22] }, none, true⟩,
  ⟨some 10, Op.binOp BinOp.lss 3 (Operand.tmp 7) (Operand.tmp 9) 3, none, true⟩,
  ⟨some 11, Op.move (Operand.tmp 10), none, true⟩,
  ⟨some 12, Op.move (Operand.tmp 0), some (11, true), true⟩,
  ⟨some 13, Op.move (Operand.tmp 4), some (11, true), true⟩,
  ⟨some 14, Op.indexAddr 22 (Operand.tmp 12) (Operand.tmp 13), some (11, true), true⟩,
  ⟨some 15, Op.load 5 (Operand.tmp 14), some (11, true), true⟩,
  ⟨some 16, Op.binOp BinOp.geq 5 (Operand.tmp 15) (Operand.const (Value.int IntKind.u8 128)) 5, some (11, true), true⟩,
  ⟨some 17, Op.pick (Operand.tmp 11) (Operand.tmp 16) (Operand.const (Value.bool false)), none, true⟩] := rfl
def k13_r3 : List COp := [
  ⟨some 18, Op.move (Operand.tmp 4), none, true⟩,
  ⟨some 19, Op.binOp BinOp.add 3 (Operand.tmp 18) (Operand.const (Value.int IntKind.i64 1)) 3, none, true⟩,
  ⟨some 4, Op.assign (Operand.tmp 19), none, true⟩]
theorem k13_r3_e {P : Program} {pr : Prim} {N : Nat} : Eo P pr N k13_r3 = Eo P pr N [
  ⟨some 18, Op.move (Operand.tmp 4), none, true⟩,
  ⟨some 19, Op.binOp BinOp.add 3 (Operand.tmp 18) (Operand.const (Value.int IntKind.i64 1)) 3, none, true⟩,
  ⟨some 4, Op.assign (Operand.tmp 19), none, true⟩] := rfl
def k13_l0 : CC := (.seq (.seq (.region k13_r2) (.cond (Operand.tmp 17) .skip (.exit 0))) (.block 1 (.region k13_r3)))
theorem k13_l0_e {P : Program} {pr : Prim} {N : Nat} : Ev P pr N k13_l0 = Ev P pr N (.seq (.seq (.region k13_r2) (.cond (Operand.tmp 17) .skip (.exit 0))) (.block 1 (.region k13_r3))) := rfl
def k13_r4 : List COp := [
  ⟨some 20, Op.move (Operand.tmp 4), none, true⟩,
  ⟨some 21, Op.move (Operand.tmp 0), none, true⟩,
  ⟨some 22, Op.call { callee := Callee.builtin Builtin.len, args := #[Operand.tmp 21], argTypes := #[22] }, none, true⟩,
  ⟨some 23, Op.binOp BinOp.geq 3 (Operand.tmp 20) (Operand.tmp 22) 3, none, true⟩,
  ⟨some 24, Op.move (Operand.tmp 23), none, true⟩,
  ⟨some 25, Op.move (Operand.tmp 4), some (24, false), true⟩,
  ⟨some 26, Op.binOp BinOp.geq 3 (Operand.tmp 25) (Operand.const (Value.int IntKind.i64 9)) 3, some (24, false), true⟩,
  ⟨some 27, Op.pick (Operand.tmp 24) (Operand.const (Value.bool true)) (Operand.tmp 26), none, true⟩,
  ⟨some 28, Op.move (Operand.tmp 27), none, true⟩,
  ⟨some 29, Op.move (Operand.tmp 4), some (28, false), true⟩,
  ⟨some 30, Op.binOp BinOp.gtr 3 (Operand.tmp 29) (Operand.const (Value.int IntKind.i64 0)) 3, some (28, false), true⟩,
  ⟨some 31, Op.move (Operand.tmp 30), some (28, false), true⟩,
  ⟨some 32, Op.move (Operand.tmp 0), some (31, true), true⟩,
  ⟨some 33, Op.move (Operand.tmp 4), some (31, true), true⟩,
  ⟨some 34, Op.indexAddr 22 (Operand.tmp 32) (Operand.tmp 33), some (31, true), true⟩,
  ⟨some 35, Op.load 5 (Operand.tmp 34), some (31, true), true⟩,
  ⟨some 36, Op.binOp BinOp.eql 5 (Operand.tmp 35) (Operand.const (Value.int IntKind.u8 0)) 5, some (31, true), true⟩,
  ⟨some 37, Op.pick (Operand.tmp 31) (Operand.tmp 36) (Operand.const (Value.bool false)), some (28, false), true⟩,
  ⟨some 38, Op.pick (Operand.tmp 28) (Operand.const (Value.bool true)) (Operand.tmp 37), none, true⟩]
theorem k13_r4_e {P : Program} {pr : Prim} {N : Nat} : Eo P pr N k13_r4 = Eo P pr N [
  ⟨some 20, Op.move (Operand.tmp 4), none, true⟩,
  ⟨some 21, Op.move (Operand.tmp 0), none, true⟩,
  ⟨some 22, Op.call { callee := Callee.builtin Builtin.len, args := #[Operand.tmp 21], argTypes := #[22] }, none, true⟩,
  ⟨some 23, Op.binOp BinOp.geq 3 (Operand.tmp 20) (Operand.tmp 22) 3, none, true⟩,
  ⟨some 24, Op.move (Operand.tmp 23), none, true⟩,
  ⟨some 25, Op.move (Operand.tmp 4), some (24, false), true⟩,
  ⟨some 26, Op.binOp BinOp.geq 3 (Operand.tmp 25) (Operand.const (Value.int IntKind.i64 9)) 3, some (24, false), true⟩,
  ⟨some 27, Op.pick (Operand.tmp 24) (Operand.const (Value.bool true)) (Operand.tmp 26), none, true⟩,
  ⟨some 28, Op.move (Operand.tmp 27), none, true⟩,
  ⟨some 29, Op.move (Operand.tmp 4), some (28, false), true⟩,
  ⟨some 30, Op.binOp BinOp.gtr 3 (Operand.tmp 29) (Operand.const (Value.int IntKind.i64 0)) 3, some (28, false), true⟩,
  ⟨some 31, Op.move (Operand.tmp 30), some (28, false), true⟩,
  ⟨some 32, Op.move (Operand.tmp 0), some (31, true), true⟩,
  ⟨some 33, Op.move (Operand.tmp 4), some (31, true), true⟩,
  ⟨some 34, Op.indexAddr 22 (Operand.tmp 32) (Operand.tmp 33), some (31, true), true⟩,
  ⟨some 35, Op.load 5 (Operand.tmp 34), some (31, true), true⟩,
  ⟨some 36, Op.binOp BinOp.eql 5 (Operand.tmp 35) (Operand.const (Value.int IntKind.u8 0)) 5, some (31, true), true⟩,
  ⟨some 37, Op.pick (Operand.tmp 31) (Operand.tmp 36) (Operand.const (Value.bool false)), some (28, false), true⟩,
  ⟨some 38, Op.pick (Operand.tmp 28) (Operand.const (Value.bool true)) (Operand.tmp 37), none, true⟩] := rfl
def k13_r5 : List COp := [
  ⟨some 2, Op.assign (Operand.const (Value.int IntKind.i64 0)), none, true⟩,
  ⟨some 3, Op.assign (Operand.const (Value.int IntKind.i64 0)), none, true⟩]
theorem k13_r5_e {P : Program} {pr : Prim} {N : Nat} : Eo P pr N k13_r5 = Eo P pr N [
  ⟨some 2, Op.assign (Operand.const (Value.int IntKind.i64 0)), none, true⟩,
  ⟨some 3, Op.assign (Operand.const (Value.int IntKind.i64 0)), none, true⟩] := rfl
def k13_r6 : List COp := [
  ⟨some 5, Op.assign (Operand.const (Value.int IntKind.i64 0)), none, true⟩]
theorem k13_r6_e {P : Program} {pr : Prim} {N : Nat} : Eo P pr N k13_r6 = Eo P pr N [
  ⟨some 5, Op.assign (Operand.const (Value.int IntKind.i64 0)), none, true⟩] := rfl
def k13_r7 : List COp := [
  ⟨some 39, Op.move (Operand.tmp 4), none, true⟩,
  ⟨some 6, Op.assign (Operand.tmp 39), none, true⟩]
theorem k13_r7_e {P : Program} {pr : Prim} {N : Nat} : Eo P pr N k13_r7 = Eo P pr N [
  ⟨some 39, Op.move (Operand.tmp 4), none, true⟩,
  ⟨some 6, Op.assign (Operand.tmp 39), none, true⟩] := rfl
def k13_r8 : List COp := [
  ⟨some 40, Op.move (Operand.tmp 6), none, true⟩,
  ⟨some 41, Op.binOp BinOp.geq 3 (Operand.tmp 40) (Operand.const (Value.int IntKind.i64 0)) 3, none, true⟩]
theorem k13_r8_e {P : Program} {pr : Prim} {N : Nat} : Eo P pr N k13_r8 = Eo P pr N [
  ⟨some 40, Op.move (Operand.tmp 6), none, true⟩,
  ⟨some 41, Op.binOp BinOp.geq 3 (Operand.tmp 40) (Operand.const (Value.int IntKind.i64 0)) 3, none, true⟩] := rfl
def k13_r10 : List COp := [
  ⟨some 44, Op.move (Operand.tmp 5), none, true⟩,
  ⟨some 45, Op.binOp BinOp.mul 3 (Operand.tmp 44) (Operand.const (Value.int IntKind.i64 128)) 3, none, true⟩,
  ⟨some 46, Op.move (Operand.tmp 0), none, true⟩,
  ⟨some 47, Op.move (Operand.tmp 6), none, true⟩,
  ⟨some 48, Op.indexAddr 22 (Operand.tmp 46) (Operand.tmp 47), none, true⟩,
  ⟨some 49, Op.load 5 (Operand.tmp 48), none, true⟩,
  ⟨some 50, Op.convert 5 3 (Operand.tmp 49), none, true⟩,
  ⟨some 51, Op.binOp BinOp.rem 3 (Operand.tmp 50) (Operand.const (Value.int IntKind.i64 128)) 3, none, true⟩,
  ⟨some 52, Op.binOp BinOp.add 3 (Operand.tmp 45) (Operand.tmp 51) 3, none, true⟩,
  ⟨some 5, Op.assign (Operand.tmp 52), none, true⟩]
theorem k13_r10_e {P : Program} {pr : Prim} {N : Nat} : Eo P pr N k13_r10 = Eo P pr N [
  ⟨some 44, Op.move (Operand.tmp 5), none, true⟩,
  ⟨some 45, Op.binOp BinOp.mul 3 (Operand.tmp 44) (Operand.const (Value.int IntKind.i64 128)) 3, none, true⟩,
  ⟨some 46, Op.move (Operand.tmp 0), none, true⟩,
  ⟨some 47, Op.move (Operand.tmp 6), none, true⟩,
  ⟨some 48, Op.indexAddr 22 (Operand.tmp 46) (Operand.tmp 47), none, true⟩,
  ⟨some 49, Op.load 5 (Operand.tmp 48), none, true⟩,
  ⟨some 50, Op.convert 5 3 (Operand.tmp 49), none, true⟩,
  ⟨some 51, Op.binOp BinOp.rem 3 (Operand.tmp 50) (Operand.const (Value.int IntKind.i64 128)) 3, none, true⟩,
  ⟨some 52, Op.binOp BinOp.add 3 (Operand.tmp 45) (Operand.tmp 51) 3, none, true⟩,
  ⟨some 5, Op.assign (Operand.tmp 52), none, true⟩] := rfl
def k13_r9 : List COp := [
  ⟨some 42, Op.move (Operand.tmp 6), none, true⟩,
  ⟨some 43, Op.binOp BinOp.sub 3 (Operand.tmp 42) (Operand.const (Value.int IntKind.i64 1)) 3, none, true⟩,
  ⟨some 6, Op.assign (Operand.tmp 43), none, true⟩]
theorem k13_r9_e {P : Program} {pr : Prim} {N : Nat} : Eo P pr N k13_r9 = Eo P pr N [
  ⟨some 42, Op.move (Operand.tmp 6), none, true⟩,
  ⟨some 43, Op.binOp BinOp.sub 3 (Operand.tmp 42) (Operand.const (Value.int IntKind.i64 1)) 3, none, true⟩,
  ⟨some 6, Op.assign (Operand.tmp 43), none, true⟩] := rfl
def k13_l1 : CC := (.seq (.seq (.region k13_r8) (.cond (Operand.tmp 41) .skip (.exit 2))) (.seq (.block 3 (.region k13_r10)) (.region k13_r9)))
theorem k13_l1_e {P : Program} {pr : Prim} {N : Nat} : Ev P pr N k13_l1 = Ev P pr N (.seq (.seq (.region k13_r8) (.cond (Operand.tmp 41) .skip (.exit 2))) (.seq (.block 3 (.region k13_r10)) (.region k13_r9))) := rfl
def k13_r11 : List COp := [
  ⟨some 53, Op.move (Operand.tmp 5), none, true⟩,
  ⟨some 54, Op.move (Operand.tmp 4), none, true⟩,
  ⟨some 55, Op.binOp BinOp.add 3 (Operand.tmp 54) (Operand.const (Value.int IntKind.i64 1)) 3, none, true⟩,
  ⟨some 2, Op.assign (Operand.tmp 53), none, true⟩,
  ⟨some 3, Op.assign (Operand.tmp 55), none, true⟩]
theorem k13_r11_e {P : Program} {pr : Prim} {N : Nat} : Eo P pr N k13_r11 = Eo P pr N [
  ⟨some 53, Op.move (Operand.tmp 5), none, true⟩,
  ⟨some 54, Op.move (Operand.tmp 4), none, true⟩,
  ⟨some 55, Op.binOp BinOp.add 3 (Operand.tmp 54) (Operand.const (Value.int IntKind.i64 1)) 3, none, true⟩,
  ⟨some 2, Op.assign (Operand.tmp 53), none, true⟩,
  ⟨some 3, Op.assign (Operand.tmp 55), none, true⟩] := rfl
def k13 : CC := (.seq (.region k13_r0) (.seq (.region k13_r1) (.seq (.block 0 (.loop k13_l0)) (.seq (.seq (.region k13_r4) (.cond (Operand.tmp 38) (.seq (.region k13_r5) .ret) .skip)) (.seq (.region k13_r6) (.seq (.seq (.region k13_r7) (.block 2 (.loop k13_l1))) (.seq (.region k13_r11) .ret)))))))
theorem k13_e {P : Program} {pr : Prim} {N : Nat} : Ev P pr N k13 = Ev P pr N (.seq (.region k13_r0) (.seq (.region k13_r1) (.seq (.block 0 (.loop k13_l0)) (.seq (.seq (.region k13_r4) (.cond (Operand.tmp 38) (.seq (.region k13_r5) .ret) .skip)) (.seq (.region k13_r6) (.seq (.seq (.region k13_r7) (.block 2 (.loop k13_l1))) (.seq (.region k13_r11) .ret))))))) := rfl
/-- quern/quernref01.Take -/
theorem k13_is : FnIs Try.prog noPrim 13 56 [ResultVar.tmp 2, ResultVar.tmp 3] k13 := FnIs.of_fn Try.func13 (by kernel_rfl)
def k14_r0 : List COp := [
  ⟨some 4, Op.assign (Operand.const (Value.slice .none 0 0)), none, true⟩]
theorem k14_r0_e {P : Program} {pr : Prim} {N : Nat} : Eo P pr N k14_r0 = Eo P pr N [
  ⟨some 4, Op.assign (Operand.const (Value.slice .none 0 0)), none, true⟩] := rfl
def k14_r1 : List COp := [
  ⟨some 8, Op.move (Operand.tmp 0), none, true⟩,
  ⟨some 9, Op.call { callee := Callee.builtin Builtin.len, args := #[Operand.tmp 8], argTypes := #[22] }, none, true⟩,
  ⟨some 10, Op.move (Operand.tmp 1), none, true⟩,
  ⟨some 11, Op.call { callee := Callee.builtin Builtin.len, args := #[Operand.tmp 10], argTypes := #[30] }, none, true⟩,
  ⟨some 12, Op.binOp BinOp.mul 3 (Operand.const (Value.int IntKind.i64 2)) (Operand.tmp 11) 3, none, true⟩,
  ⟨some 13, Op.binOp BinOp.add 3 (Operand.tmp 9) (Operand.tmp 12) 3, none, true⟩,
  ⟨some 14, Op.makeSlice 22 (Operand.const (Value.int IntKind.i64 0)) (Operand.tmp 13), none, true⟩,
  ⟨some 15, Op.move (Operand.tmp 0), none, true⟩,
  ⟨some 16, Op.call { callee := Callee.builtin Builtin.append, args := #[Operand.tmp 14, Operand.tmp 15], argTypes := #[22, 22] }, none, true⟩,
  ⟨some 5, Op.assign (Operand.tmp 16), none, true⟩]
theorem k14_r1_e {P : Program} {pr : Prim} {N : Nat} : Eo P pr N k14_r1 = Eo P pr N [
  ⟨some 8, Op.move (Operand.tmp 0), none, true⟩,
  ⟨some 9, Op.call { callee := Callee.builtin Builtin.len, args := #[Operand.tmp 8], argTypes := #[22] }, none, true⟩,
  ⟨some 10, Op.move (Operand.tmp 1), none, true⟩,
  ⟨some 11, Op.call { callee := Callee.builtin Builtin.len, args := #[Operand.tmp 10], argTypes := #[30] }, none, true⟩,
  ⟨some 12, Op.binOp BinOp.mul 3 (Operand.const (Value.int IntKind.i64 2)) (Operand.tmp 11) 3, none, true⟩,
  ⟨some 13, Op.binOp BinOp.add 3 (Operand.tmp 9) (Operand.tmp 12) 3, none, true⟩,
  ⟨some 14, Op.makeSlice 22 (Operand.const (Value.int IntKind.i64 0)) (Operand.tmp 13), none, true⟩,
  ⟨some 15, Op.move (Operand.tmp 0), none, true⟩,
  ⟨some 16, Op.call { callee := Callee.builtin Builtin.append, args := #[Operand.tmp 14, Operand.tmp 15], argTypes := #[22, 22] }, none, true⟩,
  ⟨some 5, Op.assign (Operand.tmp 16), none, true⟩] := rfl
def k14_r2 : List COp := [
  ⟨some 17, Op.move (Operand.tmp 1), none, true⟩,
  ⟨some 18, Op.call { callee := Callee.builtin Builtin.len, args := #[Operand.tmp 17], argTypes := #[30] }, none, true⟩,
  ⟨some 19, Op.move (Operand.const (Value.int IntKind.i64 0)), none, true⟩]
theorem k14_r2_e {P : Program} {pr : Prim} {N : Nat} : Eo P pr N k14_r2 = Eo P pr N [
  ⟨some 17, Op.move (Operand.tmp 1), none, true⟩,
  ⟨some 18, Op.call { callee := Callee.builtin Builtin.len, args := #[Operand.tmp 17], argTypes := #[30] }, none, true⟩,
  ⟨some 19, Op.move (Operand.const (Value.int IntKind.i64 0)), none, true⟩] := rfl
def k14_r3 : List COp := [
  ⟨some 20, Op.binOp BinOp.lss 3 (Operand.tmp 19) (Operand.tmp 18) 3, none, true⟩]
theorem k14_r3_e {P : Program} {pr : Prim} {N : Nat} : Eo P pr N k14_r3 = Eo P pr N [
  ⟨some 20, Op.binOp BinOp.lss 3 (Operand.tmp 19) (Operand.tmp 18) 3, none, true⟩] := rfl
def k14_r4 : List COp := [
  ⟨some 21, Op.indexAddr 30 (Operand.tmp 17) (Operand.tmp 19), none, true⟩,
  ⟨some 22, Op.load 3 (Operand.tmp 21), none, true⟩,
  ⟨some 7, Op.assign (Operand.tmp 22), none, true⟩]
theorem k14_r4_e {P : Program} {pr : Prim} {N : Nat} : Eo P pr N k14_r4 = Eo P pr N [
  ⟨some 21, Op.indexAddr 30 (Operand.tmp 17) (Operand.tmp 19), none, true⟩,
  ⟨some 22, Op.load 3 (Operand.tmp 21), none, true⟩,
  ⟨some 7, Op.assign (Operand.tmp 22), none, true⟩] := rfl
def k14_r5 : List COp := [
  ⟨some 23, Op.move (Operand.tmp 7), none, true⟩,
  ⟨some 24, Op.call { callee := Callee.builtin Builtin.max, args := #[Operand.tmp 23, Operand.const (Value.int IntKind.i64 0)], argTypes := #[3, 3] }, none, true⟩,
  ⟨some 7, Op.assign (Operand.tmp 24), none, true⟩]
theorem k14_r5_e {P : Program} {pr : Prim} {N : Nat} : Eo P pr N k14_r5 = Eo P pr N [
  ⟨some 23, Op.move (Operand.tmp 7), none, true⟩,
  ⟨some 24, Op.call { callee := Callee.builtin Builtin.max, args := #[Operand.tmp 23, Operand.const (Value.int IntKind.i64 0)], argTypes := #[3, 3] }, none, true⟩,
  ⟨some 7, Op.assign (Operand.tmp 24), none, true⟩] := rfl
def k14_r6 : List COp := [
  ⟨some 25, Op.move (Operand.tmp 7), none, true⟩,
  ⟨some 26, Op.binOp BinOp.gtr 3 (Operand.tmp 25) (Operand.const (Value.int IntKind.i64 127)) 3, none, true⟩]
theorem k14_r6_e {P : Program} {pr : Prim} {N : Nat} : Eo P pr N k14_r6 = Eo P pr N [
  ⟨some 25, Op.move (Operand.tmp 7), none, true⟩,
  ⟨some 26, Op.binOp BinOp.gtr 3 (Operand.tmp 25) (Operand.const (Value.int IntKind.i64 127)) 3, none, true⟩] := rfl
def k14_r8 : List COp := [
  ⟨some 29, Op.move (Operand.tmp 5), none, true⟩,
  ⟨some 30, Op.move (Operand.tmp 7), none, true⟩,
  ⟨some 31, Op.binOp BinOp.and 3 (Operand.tmp 30) (Operand.const (Value.int IntKind.i64 127)) 3, none, true⟩,
  ⟨some 32, Op.binOp BinOp.or 3 (Operand.tmp 31) (Operand.const (Value.int IntKind.i64 128)) 3, none, true⟩,
  ⟨some 33, Op.convert 3 5 (Operand.tmp 32), none, true⟩,
  ⟨some 34, Op.buildSlice 22 1 #[(0, Operand.tmp 33)], none, true⟩,
  ⟨some 35, Op.call { callee := Callee.builtin Builtin.append, args := #[Operand.tmp 29, Operand.tmp 34], argTypes := #[22, 22] }, none, true⟩,
  ⟨some 5, Op.assign (Operand.tmp 35), none, true⟩]
theorem k14_r8_e {P : Program} {pr : Prim} {N : Nat} : Eo P pr N k14_r8 = Eo P pr N [
  ⟨some 29, Op.move (Operand.tmp 5), none, true⟩,
  ⟨some 30, Op.move (Operand.tmp 7), none, true⟩,
  ⟨some 31, Op.binOp BinOp.and 3 (Operand.tmp 30) (Operand.const (Value.int IntKind.i64 127)) 3, none, true⟩,
  ⟨some 32, Op.binOp BinOp.or 3 (Operand.tmp 31) (Operand.const (Value.int IntKind.i64 128)) 3, none, true⟩,
  ⟨some 33, Op.convert 3 5 (Operand.tmp 32), none, true⟩,
  ⟨some 34, Op.buildSlice 22 1 #[(0, Operand.tmp 33)], none, true⟩,
  ⟨some 35, Op.call { callee := Callee.builtin Builtin.append, args := #[Operand.tmp 29, Operand.tmp 34], argTypes := #[22, 22] }, none, true⟩,
  ⟨some 5, Op.assign (Operand.tmp 35), none, true⟩] := rfl
def k14_r7 : List COp := [
  ⟨some 27, Op.move (Operand.tmp 7), none, true⟩,
  ⟨some 28, Op.binOp BinOp.shr 3 (Operand.tmp 27) (Operand.const (Value.int IntKind.u64 7)) 52, none, true⟩,
  ⟨some 7, Op.assign (Operand.tmp 28), none, true⟩]
theorem k14_r7_e {P : Program} {pr : Prim} {N : Nat} : Eo P pr N k14_r7 = Eo P pr N [
  ⟨some 27, Op.move (Operand.tmp 7), none, true⟩,
  ⟨some 28, Op.binOp BinOp.shr 3 (Operand.tmp 27) (Operand.const (Value.int IntKind.u64 7)) 52, none, true⟩,
  ⟨some 7, Op.assign (Operand.tmp 28), none, true⟩] := rfl
def k14_l1 : CC := (.seq (.seq (.region k14_r6) (.cond (Operand.tmp 26) .skip (.exit 2))) (.seq (.block 3 (.region k14_r8)) (.region k14_r7)))
theorem k14_l1_e {P : Program} {pr : Prim} {N : Nat} : Ev P pr N k14_l1 = Ev P pr N (.seq (.seq (.region k14_r6) (.cond (Operand.tmp 26) .skip (.exit 2))) (.seq (.block 3 (.region k14_r8)) (.region k14_r7))) := rfl
def k14_r9 : List COp := [
  ⟨some 36, Op.move (Operand.tmp 5), none, true⟩,
  ⟨some 37, Op.move (Operand.tmp 7), none, true⟩,
  ⟨some 38, Op.convert 3 5 (Operand.tmp 37), none, true⟩,
  ⟨some 39, Op.buildSlice 22 1 #[(0, Operand.tmp 38)], none, true⟩,
  ⟨some 40, Op.call { callee := Callee.builtin Builtin.append, args := #[Operand.tmp 36, Operand.tmp 39], argTypes := #[22, 22] }, none, true⟩,
  ⟨some 5, Op.assign (Operand.tmp 40), none, true⟩]
theorem k14_r9_e {P : Program} {pr : Prim} {N : Nat} : Eo P pr N k14_r9 = Eo P pr N [
  ⟨some 36, Op.move (Operand.tmp 5), none, true⟩,
  ⟨some 37, Op.move (Operand.tmp 7), none, true⟩,
  ⟨some 38, Op.convert 3 5 (Operand.tmp 37), none, true⟩,
  ⟨some 39, Op.buildSlice 22 1 #[(0, Operand.tmp 38)], none, true⟩,
  ⟨some 40, Op.call { callee := Callee.builtin Builtin.append, args := #[Operand.tmp 36, Operand.tmp 39], argTypes := #[22, 22] }, none, true⟩,
  ⟨some 5, Op.assign (Operand.tmp 40), none, true⟩] := rfl
def k14_r10 : List COp := [
  ⟨some 41, Op.binOp BinOp.add 3 (Operand.tmp 19) (Operand.const (Value.int IntKind.i64 1)) 3, none, true⟩,
  ⟨some 19, Op.move (Operand.tmp 41), none, true⟩]
theorem k14_r10_e {P : Program} {pr : Prim} {N : Nat} : Eo P pr N k14_r10 = Eo P pr N [
  ⟨some 41, Op.binOp BinOp.add 3 (Operand.tmp 19) (Operand.const (Value.int IntKind.i64 1)) 3, none, true⟩,
  ⟨some 19, Op.move (Operand.tmp 41), none, true⟩] := rfl
def k14_l0 : CC := (.seq (.region k14_r3) (.seq (.cond (Operand.tmp 20) .skip (.exit 0)) (.seq (.block 1 (.seq (.region k14_r4) (.seq (.region k14_r5) (.seq (.block 2 (.loop k14_l1)) (.region k14_r9))))) (.region k14_r10))))
theorem k14_l0_e {P : Program} {pr : Prim} {N : Nat} : Ev P pr N k14_l0 = Ev P pr N (.seq (.region k14_r3) (.seq (.cond (Operand.tmp 20) .skip (.exit 0)) (.seq (.block 1 (.seq (.region k14_r4) (.seq (.region k14_r5) (.seq (.block 2 (.loop k14_l1)) (.region k14_r9))))) (.region k14_r10)))) := rfl
def k14_r11 : List COp := [
  ⟨some 42, Op.move (Operand.tmp 5), none, true⟩,
  ⟨some 4, Op.assign (Operand.tmp 42), none, true⟩]
theorem k14_r11_e {P : Program} {pr : Prim} {N : Nat} : Eo P pr N k14_r11 = Eo P pr N [
  ⟨some 42, Op.move (Operand.tmp 5), none, true⟩,
  ⟨some 4, Op.assign (Operand.tmp 42), none, true⟩] := rfl
def k14 : CC := (.seq (.region k14_r0) (.seq (.region k14_r1) (.seq (.seq (.region k14_r2) (.block 0 (.loop k14_l0))) (.seq (.region k14_r11) .ret))))
theorem k14_e {P : Program} {pr : Prim} {N : Nat} : Ev P pr N k14 = Ev P pr N (.seq (.region k14_r0) (.seq (.region k14_r1) (.seq (.seq (.region k14_r2) (.block 0 (.loop k14_l0))) (.seq (.region k14_r11) .ret)))) := rfl
/-- quern/pack.Put -/
theorem k14_is : FnIs Try.prog noPrim 14 43 [ResultVar.tmp 4] k14 := FnIs.of_fn Try.func14 (by kernel_rfl)
def k15_r0 : List COp := [
  ⟨some 4, Op.assign (Operand.const (Value.bool false)), none, true⟩]
theorem k15_r0_e {P : Program} {pr : Prim} {N : Nat} : Eo P pr N k15_r0 = Eo P pr N [
  ⟨some 4, Op.assign (Operand.const (Value.bool false)), none, true⟩] := rfl
def k15_r1 : List COp := [
  ⟨some 6, Op.move (Operand.tmp 0), none, true⟩,
  ⟨some 7, Op.call { callee := Callee.builtin Builtin.len, args := #[Operand.tmp 6], argTypes := #[22] }, none, true⟩,
  ⟨some 8, Op.move (Operand.tmp 1), none, true⟩,
  ⟨some 9, Op.call { callee := Callee.builtin Builtin.len, args := #[Operand.tmp 8], argTypes := #[22] }, none, true⟩,
  ⟨some 10, Op.binOp BinOp.neq 3 (Operand.tmp 7) (Operand.tmp 9) 3, none, true⟩]
theorem k15_r1_e {P : Program} {pr : Prim} {N : Nat} : Eo P pr N k15_r1 = Eo P pr N [
  ⟨some 6, Op.move (Operand.tmp 0), none, true⟩,
  ⟨some 7, Op.call { callee := Callee.builtin Builtin.len, args := #[Operand.tmp 6], argTypes := #[22] }, none, true⟩,
  ⟨some 8, Op.move (Operand.tmp 1), none, true⟩,
  ⟨some 9, Op.call { callee := Callee.builtin Builtin.len, args := #[Operand.tmp 8], argTypes := #[22] }, none, true⟩,
  ⟨some 10, Op.binOp BinOp.neq 3 (Operand.tmp 7) (Operand.tmp 9) 3, none, true⟩] := rfl
def k15_r2 : List COp := [
  ⟨some 4, Op.assign (Operand.const (Value.bool false)), none, true⟩]
theorem k15_r2_e {P : Program} {pr : Prim} {N : Nat} : Eo P pr N k15_r2 = Eo P pr N [
  ⟨some 4, Op.assign (Operand.const (Value.bool false)), none, true⟩] := rfl
def k15_r3 : List COp := [
  ⟨some 11, Op.move (Operand.tmp 0), none, true⟩,
  ⟨some 12, Op.call { callee := Callee.builtin Builtin.len, args := #[Operand.tmp 11], argTypes := #[22] }, none, true⟩,
  ⟨some 13, Op.move (Operand.const (Value.int IntKind.i64 0)), none, true⟩]
theorem k15_r3_e {P : Program} {pr : Prim} {N : Nat} : Eo P pr N k15_r3 = Eo P pr N [
  ⟨some 11, Op.move (Operand.tmp 0), none, true⟩,
  ⟨some 12, Op.call { callee := Callee.builtin Builtin.len, args := #[Operand.tmp 11], argTypes := #[22] }, none, true⟩,
  ⟨some 13, Op.move (Operand.const (Value.int IntKind.i64 0)), none, true⟩] := rfl
def k15_r4 : List COp := [
  ⟨some 14, Op.binOp BinOp.lss 3 (Operand.tmp 13) (Operand.tmp 12) 3, none, true⟩]
theorem k15_r4_e {P : Program} {pr : Prim} {N : Nat} : Eo P pr N k15_r4 = Eo P pr N [
  ⟨some 14, Op.binOp BinOp.lss 3 (Operand.tmp 13) (Operand.tmp 12) 3, none, true⟩] := rfl
def k15_r5 : List COp := [
  ⟨some 15, Op.move (Operand.tmp 13), none, true⟩,
  ⟨some 5, Op.assign (Operand.tmp 15), none, true⟩]
theorem k15_r5_e {P : Program} {pr : Prim} {N : Nat} : Eo P pr N k15_r5 = Eo P pr N [
  ⟨some 15, Op.move (Operand.tmp 13), none, true⟩,
  ⟨some 5, Op.assign (Operand.tmp 15), none, true⟩] := rfl
def k15_r6 : List COp := [
  ⟨some 16, Op.move (Operand.tmp 0), none, false⟩,
  ⟨some 17, Op.move (Operand.tmp 5), none, false⟩,
  ⟨some 18, Op.indexAddr 22 (Operand.tmp 16) (Operand.tmp 17), none, false⟩,
  ⟨some 19, Op.load 5 (Operand.tmp 18), none, false⟩,
  ⟨some 20, Op.move (Operand.tmp 1), none, false⟩,
  ⟨some 21, Op.move (Operand.tmp 5), none, true⟩,
  ⟨some 22, Op.indexAddr 22 (Operand.tmp 20) (Operand.tmp 21), none, true⟩,
  ⟨some 23, Op.load 5 (Operand.tmp 22), none, true⟩,
  ⟨some 24, Op.binOp BinOp.neq 5 (Operand.tmp 19) (Operand.tmp 23) 5, none, true⟩]
theorem k15_r6_e {P : Program} {pr : Prim} {N : Nat} : Eo P pr N k15_r6 = Eo P pr N [
  ⟨some 16, Op.move (Operand.tmp 0), none, false⟩,
  ⟨some 17, Op.move (Operand.tmp 5), none, false⟩,
  ⟨some 18, Op.indexAddr 22 (Operand.tmp 16) (Operand.tmp 17), none, false⟩,
  ⟨some 19, Op.load 5 (Operand.tmp 18), none, false⟩,
  ⟨some 20, Op.move (Operand.tmp 1), none, false⟩,
  ⟨some 21, Op.move (Operand.tmp 5), none, true⟩,
  ⟨some 22, Op.indexAddr 22 (Operand.tmp 20) (Operand.tmp 21), none, true⟩,
  ⟨some 23, Op.load 5 (Operand.tmp 22), none, true⟩,
  ⟨some 24, Op.binOp BinOp.neq 5 (Operand.tmp 19) (Operand.tmp 23) 5, none, true⟩] := rfl
def k15_r7 : List COp := [
  ⟨some 4, Op.assign (Operand.const (Value.bool false)), none, true⟩]
theorem k15_r7_e {P : Program} {pr : Prim} {N : Nat} : Eo P pr N k15_r7 = Eo P pr N [
  ⟨some 4, Op.assign (Operand.const (Value.bool false)), none, true⟩] := rfl
def k15_r8 : List COp := [
  ⟨some 25, Op.binOp BinOp.add 3 (Operand.tmp 13) (Operand.const (Value.int IntKind.i64 1)) 3, none, true⟩,
  ⟨some 13, Op.move (Operand.tmp 25), none, true⟩]
theorem k15_r8_e {P : Program} {pr : Prim} {N : Nat} : Eo P pr N k15_r8 = Eo P pr N [
  ⟨some 25, Op.binOp BinOp.add 3 (Operand.tmp 13) (Operand.const (Value.int IntKind.i64 1)) 3, none, true⟩,
  ⟨some 13, Op.move (Operand.tmp 25), none, true⟩] := rfl
def k15_l0 : CC := (.seq (.region k15_r4) (.seq (.cond (Operand.tmp 14) .skip (.exit 0)) (.seq (.block 1 (.seq (.region k15_r5) (.seq (.region k15_r6) (.cond (Operand.tmp 24) (.seq (.region k15_r7) .ret) .skip)))) (.region k15_r8))))
theorem k15_l0_e {P : Program} {pr : Prim} {N : Nat} : Ev P pr N k15_l0 = Ev P pr N (.seq (.region k15_r4) (.seq (.cond (Operand.tmp 14) .skip (.exit 0)) (.seq (.block 1 (.seq (.region k15_r5) (.seq (.region k15_r6) (.cond (Operand.tmp 24) (.seq (.region k15_r7) .ret) .skip)))) (.region k15_r8)))) := rfl
def k15_r9 : List COp := [
  ⟨some 4, Op.assign (Operand.const (Value.bool true)), none, true⟩]
theorem k15_r9_e {P : Program} {pr : Prim} {N : Nat} : Eo P pr N k15_r9 = Eo P pr N [
  ⟨some 4, Op.assign (Operand.const (Value.bool true)), none, true⟩] := rfl
def k15 : CC := (.seq (.region k15_r0) (.seq (.seq (.region k15_r1) (.cond (Operand.tmp 10) (.seq (.region k15_r2) .ret) .skip)) (.seq (.seq (.region k15_r3) (.block 0 (.loop k15_l0))) (.seq (.region k15_r9) .ret))))
theorem k15_e {P : Program} {pr : Prim} {N : Nat} : Ev P pr N k15 = Ev P pr N (.seq (.region k15_r0) (.seq (.seq (.region k15_r1) (.cond (Operand.tmp 10) (.seq (.region k15_r2) .ret) .skip)) (.seq (.seq (.region k15_r3) (.block 0 (.loop k15_l0))) (.seq (.region k15_r9) .ret)))) := rfl
/-- quern/quernlaw01.same -/
theorem k15_is : FnIs Try.prog noPrim 15 26 [ResultVar.tmp 4] k15 := FnIs.of_fn Try.func15 (by kernel_rfl)
def k16_r0 : List COp := [
  ⟨some 4, Op.assign (Operand.const (Value.slice .none 0 0)), none, true⟩]
theorem k16_r0_e {P : Program} {pr : Prim} {N : Nat} : Eo P pr N k16_r0 = Eo P pr N [
  ⟨some 4, Op.assign (Operand.const (Value.slice .none 0 0)), none, true⟩] := rfl
def k16_r1 : List COp := [
  ⟨some 6, Op.buildSlice 22 0 #[], none, true⟩,
  ⟨some 7, Op.move (Operand.tmp 0), none, true⟩,
  ⟨some 8, Op.call { callee := Callee.builtin Builtin.append, args := #[Operand.tmp 6, Operand.tmp 7], argTypes := #[22, 22] }, none, true⟩,
  ⟨some 5, Op.assign (Operand.tmp 8), none, true⟩]
theorem k16_r1_e {P : Program} {pr : Prim} {N : Nat} : Eo P pr N k16_r1 = Eo P pr N [
  ⟨some 6, Op.buildSlice 22 0 #[], none, true⟩,
  ⟨some 7, Op.move (Operand.tmp 0), none, true⟩,
  ⟨some 8, Op.call { callee := Callee.builtin Builtin.append, args := #[Operand.tmp 6, Operand.tmp 7], argTypes := #[22, 22] }, none, true⟩,
  ⟨some 5, Op.assign (Operand.tmp 8), none, true⟩] := rfl
def k16_r2 : List COp := [
  ⟨some 9, Op.move (Operand.tmp 1), none, true⟩,
  ⟨some 10, Op.binOp BinOp.lss 3 (Operand.tmp 9) (Operand.const (Value.int IntKind.i64 0)) 3, none, true⟩]
theorem k16_r2_e {P : Program} {pr : Prim} {N : Nat} : Eo P pr N k16_r2 = Eo P pr N [
  ⟨some 9, Op.move (Operand.tmp 1), none, true⟩,
  ⟨some 10, Op.binOp BinOp.lss 3 (Operand.tmp 9) (Operand.const (Value.int IntKind.i64 0)) 3, none, true⟩] := rfl
def k16_r3 : List COp := [
  ⟨some 1, Op.assign (Operand.const (Value.int IntKind.i64 0)), none, true⟩]
theorem k16_r3_e {P : Program} {pr : Prim} {N : Nat} : Eo P pr N k16_r3 = Eo P pr N [
  ⟨some 1, Op.assign (Operand.const (Value.int IntKind.i64 0)), none, true⟩] := rfl
def k16_r4 : List COp := [
  ⟨some 11, Op.move (Operand.tmp 1), none, true⟩,
  ⟨some 12, Op.binOp BinOp.geq 3 (Operand.tmp 11) (Operand.const (Value.int IntKind.i64 128)) 3, none, true⟩]
theorem k16_r4_e {P : Program} {pr : Prim} {N : Nat} : Eo P pr N k16_r4 = Eo P pr N [
  ⟨some 11, Op.move (Operand.tmp 1), none, true⟩,
  ⟨some 12, Op.binOp BinOp.geq 3 (Operand.tmp 11) (Operand.const (Value.int IntKind.i64 128)) 3, none, true⟩] := rfl
def k16_r5 : List COp := [
  ⟨some 13, Op.move (Operand.tmp 5), none, true⟩,
  ⟨some 14, Op.move (Operand.tmp 1), none, true⟩,
  ⟨some 15, Op.binOp BinOp.rem 3 (Operand.tmp 14) (Operand.const (Value.int IntKind.i64 128)) 3, none, true⟩,
  ⟨some 16, Op.binOp BinOp.add 3 (Operand.tmp 15) (Operand.const (Value.int IntKind.i64 128)) 3, none, true⟩,
  ⟨some 17, Op.convert 3 5 (Operand.tmp 16), none, true⟩,
  ⟨some 18, Op.buildSlice 22 1 #[(0, Operand.tmp 17)], none, true⟩,
  ⟨some 19, Op.call { callee := Callee.builtin Builtin.append, args := #[Operand.tmp 13, Operand.tmp 18], argTypes := #[22, 22] }, none, true⟩,
  ⟨some 5, Op.assign (Operand.tmp 19), none, true⟩]
theorem k16_r5_e {P : Program} {pr : Prim} {N : Nat} : Eo P pr N k16_r5 = Eo P pr N [
  ⟨some 13, Op.move (Operand.tmp 5), none, true⟩,
  ⟨some 14, Op.move (Operand.tmp 1), none, true⟩,
  ⟨some 15, Op.binOp BinOp.rem 3 (Operand.tmp 14) (Operand.const (Value.int IntKind.i64 128)) 3, none, true⟩,
  ⟨some 16, Op.binOp BinOp.add 3 (Operand.tmp 15) (Operand.const (Value.int IntKind.i64 128)) 3, none, true⟩,
  ⟨some 17, Op.convert 3 5 (Operand.tmp 16), none, true⟩,
  ⟨some 18, Op.buildSlice 22 1 #[(0, Operand.tmp 17)], none, true⟩,
  ⟨some 19, Op.call { callee := Callee.builtin Builtin.append, args := #[Operand.tmp 13, Operand.tmp 18], argTypes := #[22, 22] }, none, true⟩,
  ⟨some 5, Op.assign (Operand.tmp 19), none, true⟩] := rfl
def k16_r6 : List COp := [
  ⟨some 20, Op.move (Operand.tmp 1), none, true⟩,
  ⟨some 21, Op.binOp BinOp.quo 3 (Operand.tmp 20) (Operand.const (Value.int IntKind.i64 128)) 3, none, true⟩,
  ⟨some 1, Op.assign (Operand.tmp 21), none, true⟩]
theorem k16_r6_e {P : Program} {pr : Prim} {N : Nat} : Eo P pr N k16_r6 = Eo P pr N [
  ⟨some 20, Op.move (Operand.tmp 1), none, true⟩,
  ⟨some 21, Op.binOp BinOp.quo 3 (Operand.tmp 20) (Operand.const (Value.int IntKind.i64 128)) 3, none, true⟩,
  ⟨some 1, Op.assign (Operand.tmp 21), none, true⟩] := rfl
def k16_l0 : CC := (.seq (.seq (.region k16_r4) (.cond (Operand.tmp 12) .skip (.exit 0))) (.block 1 (.seq (.region k16_r5) (.region k16_r6))))
theorem k16_l0_e {P : Program} {pr : Prim} {N : Nat} : Ev P pr N k16_l0 = Ev P pr N (.seq (.seq (.region k16_r4) (.cond (Operand.tmp 12) .skip (.exit 0))) (.block 1 (.seq (.region k16_r5) (.region k16_r6)))) := rfl
def k16_r7 : List COp := [
  ⟨some 22, Op.move (Operand.tmp 5), none, true⟩,
  ⟨some 23, Op.move (Operand.tmp 1), none, true⟩,
  ⟨some 24, Op.convert 3 5 (Operand.tmp 23), none, true⟩,
  ⟨some 25, Op.buildSlice 22 1 #[(0, Operand.tmp 24)], none, true⟩,
  ⟨some 26, Op.call { callee := Callee.builtin Builtin.append, args := #[Operand.tmp 22, Operand.tmp 25], argTypes := #[22, 22] }, none, true⟩,
  ⟨some 4, Op.assign (Operand.tmp 26), none, true⟩]
theorem k16_r7_e {P : Program} {pr : Prim} {N : Nat} : Eo P pr N k16_r7 = Eo P pr N [
  ⟨some 22, Op.move (Operand.tmp 5), none, true⟩,
  ⟨some 23, Op.move (Operand.tmp 1), none, true⟩,
  ⟨some 24, Op.convert 3 5 (Operand.tmp 23), none, true⟩,
  ⟨some 25, Op.buildSlice 22 1 #[(0, Operand.tmp 24)], none, true⟩,
  ⟨some 26, Op.call { callee := Callee.builtin Builtin.append, args := #[Operand.tmp 22, Operand.tmp 25], argTypes := #[22, 22] }, none, true⟩,
  ⟨some 4, Op.assign (Operand.tmp 26), none, true⟩] := rfl
def k16 : CC := (.seq (.region k16_r0) (.seq (.region k16_r1) (.seq (.seq (.region k16_r2) (.cond (Operand.tmp 10) (.region k16_r3) .skip)) (.seq (.block 0 (.loop k16_l0)) (.seq (.region k16_r7) .ret)))))
theorem k16_e {P : Program} {pr : Prim} {N : Nat} : Ev P pr N k16 = Ev P pr N (.seq (.region k16_r0) (.seq (.region k16_r1) (.seq (.seq (.region k16_r2) (.cond (Operand.tmp 10) (.region k16_r3) .skip)) (.seq (.block 0 (.loop k16_l0)) (.seq (.region k16_r7) .ret))))) := rfl
/-- quern/quernref01.Put -/
theorem k16_is : FnIs Try.prog noPrim 16 27 [ResultVar.tmp 4] k16 := FnIs.of_fn Try.func16 (by kernel_rfl)
def k17_r0 : List COp := [
  ⟨some 2, Op.assign (Operand.const (Value.int IntKind.i64 0)), none, true⟩]
theorem k17_r0_e {P : Program} {pr : Prim} {N : Nat} : Eo P pr N k17_r0 = Eo P pr N [
  ⟨some 2, Op.assign (Operand.const (Value.int IntKind.i64 0)), none, true⟩] := rfl
def k17_r1 : List COp := [
  ⟨some 3, Op.move (Operand.tmp 0), none, true⟩,
  ⟨some 4, Op.buildSlice 30 1 #[(0, Operand.tmp 3)], none, true⟩,
  ⟨some 5, Op.call { callee := Callee.value (Operand.func 14), args := #[Operand.const (Value.slice .none 0 0), Operand.tmp 4], argTypes := #[22, 30] }, none, true⟩,
  ⟨some 6, Op.call { callee := Callee.builtin Builtin.len, args := #[Operand.tmp 5], argTypes := #[22] }, none, true⟩,
  ⟨some 2, Op.assign (Operand.tmp 6), none, true⟩]
theorem k17_r1_e {P : Program} {pr : Prim} {N : Nat} : Eo P pr N k17_r1 = Eo P pr N [
  ⟨some 3, Op.move (Operand.tmp 0), none, true⟩,
  ⟨some 4, Op.buildSlice 30 1 #[(0, Operand.tmp 3)], none, true⟩,
  ⟨some 5, Op.call { callee := Callee.value (Operand.func 14), args := #[Operand.const (Value.slice .none 0 0), Operand.tmp 4], argTypes := #[22, 30] }, none, true⟩,
  ⟨some 6, Op.call { callee := Callee.builtin Builtin.len, args := #[Operand.tmp 5], argTypes := #[22] }, none, true⟩,
  ⟨some 2, Op.assign (Operand.tmp 6), none, true⟩] := rfl
def k17 : CC := (.seq (.region k17_r0) (.seq (.region k17_r1) .ret))
theorem k17_e {P : Program} {pr : Prim} {N : Nat} : Ev P pr N k17 = Ev P pr N (.seq (.region k17_r0) (.seq (.region k17_r1) .ret)) := rfl
/-- quern/pack.Size -/
theorem k17_is : FnIs Try.prog noPrim 17 7 [ResultVar.tmp 2] k17 := FnIs.of_fn Try.func17 (by kernel_rfl)
end Go.Proofs.Ytmcadfejkcpblaa.Q
