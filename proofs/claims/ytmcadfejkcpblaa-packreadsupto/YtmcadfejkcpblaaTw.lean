import Derived.Test.YtmcadfejkcpblaaTa
set_option linter.unusedVariables false
namespace Go.Proofs.Ytmcadfejkcpblaa.Q
open Go Go.RowKit Go.Proofs
set_option maxRecDepth 100000 in
theorem wakes_run : isTrue (vcall Try.prog noPrim 300 11 [] st0) = true := by kernel_rfl
theorem wakes_does : ∃ σ, Does Try.prog noPrim 11 [] st0 (.ret (.bool true)) σ := by
  obtain ⟨σ, h⟩ := isTrue_eq wakes_run
  exact ⟨σ, 300, h⟩
end Go.Proofs.Ytmcadfejkcpblaa.Q
