/- No function is told by hand; the rows of some lines are objects. -/
import Derived.Test.YtmcadfejkcpblaaQk
set_option linter.unusedVariables false
namespace Go.Proofs.Ytmcadfejkcpblaa.Q
open Go Go.RowKit Go.Proofs
def prims : Prim := ⟨fun _ => false, fun _ _ _ => none, hotAt ["pack.go:11", "pack.go:15", "pack.go:17", "pack.go:92", "law.go:156", "law.go:183", "law.go:199"]⟩
theorem prims_ok (base : Nat) (w0 : World) : PrimOk Try.prog prims base w0 := fun f vs σ v σ' h => by simp [prims] at h
end Go.Proofs.Ytmcadfejkcpblaa.Q
