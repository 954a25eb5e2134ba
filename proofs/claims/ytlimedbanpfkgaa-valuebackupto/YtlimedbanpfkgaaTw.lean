import Derived.Test.YtlimedbanpfkgaaTa
import Derived.Test.YtlimedbanpfkgaaPr
set_option linter.unusedVariables false
namespace Go.Proofs.Ytlimedbanpfkgaa.Q
open Go Go.RowKit Go.Proofs
set_option maxRecDepth 100000 in
theorem wakes_run (a b c : List V) : ((vcall Try.prog prims 2000 11 [] ⟨[.cells a, .cells b, .cells c], []⟩).map fun r => (isTrue (some r), r.2.objs.take 3)) = some (true, [.cells a, .cells b, .cells c]) := by kernel_rfl
theorem wakes_does (a b c : List V) : ∃ σ, Does Try.prog prims 11 [] ⟨[.cells a, .cells b, .cells c], []⟩ (.ret (.bool true)) σ ∧ Keep ⟨[.cells a, .cells b, .cells c], []⟩ σ := by
  have h := wakes_run a b c
  rw [Option.map_eq_some_iff] at h
  obtain ⟨r, h1, h2⟩ := h
  injection h2 with h2 h3
  obtain ⟨σ, h4⟩ := isTrue_eq h2
  injection h4 with h4
  subst h4
  refine ⟨σ, ⟨2000, h1⟩, fun q o ho => ?_, Nat.zero_le _, fun k hk => by simp [tokLive] at hk⟩
  have hq := (List.getElem?_eq_some_iff.1 ho).1
  simp only at h3 ho hq
  rw [← h3, List.getElem?_take] at ho
  split at ho
  · exact ho
  · cases ho
set_option maxRecDepth 100000 in
theorem wakes_run1 (a : List V) : ((vcall Try.prog prims 2000 11 [] ⟨[.cells a], []⟩).map fun r => (isTrue (some r), r.2.objs.take 1)) = some (true, [.cells a]) := by kernel_rfl
theorem wakes_does1 (a : List V) : ∃ σ, Does Try.prog prims 11 [] ⟨[.cells a], []⟩ (.ret (.bool true)) σ ∧ Keep ⟨[.cells a], []⟩ σ := by
  have h := wakes_run1 a
  rw [Option.map_eq_some_iff] at h
  obtain ⟨r, h1, h2⟩ := h
  injection h2 with h2 h3
  obtain ⟨σ, h4⟩ := isTrue_eq h2
  injection h4 with h4
  subst h4
  refine ⟨σ, ⟨2000, h1⟩, fun q o ho => ?_, Nat.zero_le _, fun k hk => by simp [tokLive] at hk⟩
  have hq := (List.getElem?_eq_some_iff.1 ho).1
  simp only at h3 ho hq
  rw [← h3, List.getElem?_take] at ho
  split at ho
  · exact ho
  · cases ho
end Go.Proofs.Ytlimedbanpfkgaa.Q
