/- WalDoes: the tied card: whatever the input of bulk at most 1048576: the law answers true, and the input reads as it did. -/
import Derived.Test.YtnegdinonfjdfaaGreatDoorMb11
set_option linter.unusedVariables false
namespace Go.Proofs.YtnegdinonfjdfaaGreatDoor.rowWalDoes
open Go Go.ChangeShapes Go.WideShapes Go.ChangeAt Go.RowKit Go.Proofs Go.Proofs.YtnegdinonfjdfaaGreatDoor.Q
theorem reads (os : Os) {H : Type} (enc : TypeId × Value → H) : ∃ places, DataW.whole enc Tryz.prog ((yiM os).forCall (fun _ _ => 0) ⟨#[], #[.slice none 0 0, .int .i64 0, .slice none 0 0], []⟩).memory Tryz.f4.params.toList Rows.walDoesSpec.vars false (#[.slice none 0 0, .int .i64 0, .slice none 0 0] : Array Value).toList 8 = some ([.nil, .lit (.int .i64 0), .nil], [], places) :=
 ⟨[], by kernel_rfl⟩
end Go.Proofs.YtnegdinonfjdfaaGreatDoor.rowWalDoes

