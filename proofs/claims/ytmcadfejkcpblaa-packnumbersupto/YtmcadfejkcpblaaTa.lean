import Derived.Test.YtmcadfejkcpblaaRc
import Derived.Test.YtmcadfejkcpblaaQu
set_option linter.unusedVariables false
set_option linter.unusedSimpArgs false
namespace Go.Proofs.Ytmcadfejkcpblaa.Q
open Go Go.RowKit Go.Proofs

theorem T22 : Try.prog.underlying 22 = some (.slice 5) := by kernel_rfl
theorem T5 : Try.prog.underlying 5 = some (.int .u8) := by kernel_rfl
theorem T3 : Try.prog.underlying 3 = some (.int .i64) := by kernel_rfl
theorem T4 : Try.prog.underlying 4 = some .bool := by kernel_rfl
theorem S5 : sizeT Try.prog 5 = some 1 := by kernel_rfl
theorem G5 : isAggT Try.prog 5 = some false := by kernel_rfl
theorem C5 : Try.prog.cellsOf 5 = 1 := by kernel_rfl
theorem G3 : isAggT Try.prog 3 = some false := by kernel_rfl
theorem G4 : isAggT Try.prog 4 = some false := by kernel_rfl
theorem S3 : sizeT Try.prog 3 = some 1 := by kernel_rfl
theorem S4 : sizeT Try.prog 4 = some 1 := by kernel_rfl
theorem G22 : isAggT Try.prog 22 = some false := by kernel_rfl
theorem S22 : sizeT Try.prog 22 = some 1 := by kernel_rfl
theorem BT : ByteT Try.prog 22 5 := ⟨T22, T5, S5, by kernel_rfl, by kernel_rfl, G5, C5⟩

def isTrue : Option (VRes × St) → Bool
  | some (.ret (.bool true), _) => true
  | _ => false
theorem isTrue_eq {o : Option (VRes × St)} (h : isTrue o = true) : ∃ σ, o = some (.ret (.bool true), σ) := by
  unfold isTrue at h
  split at h
  · exact ⟨_, rfl⟩
  · cases h
theorem wrap_nat {n : Nat} (h : n < 2 ^ 63) : IntKind.i64.wrap (n : Int) = n := wrap_i64 (by omega) (by omega)
end Go.Proofs.Ytmcadfejkcpblaa.Q
