/- Arguments that are structures, and rows of them. -/
import Derived.Test.YtmcadfejkcpblaaQs
set_option linter.unusedVariables false
set_option linter.unusedSimpArgs false
namespace Go.Proofs.Ytmcadfejkcpblaa.Q
open Go Go.RowKit

section
variable {P : Program}
theorem VT_int {k : Nat} {t : TypeId} {i : IntKind} {cs : List V} (hu : P.underlying t = some (.int i)) (h : VT P k t cs) : ∃ n, cs = [.int i n] ∧ (Lit.int i n).wf = true := by
  cases k with
  | zero => exact h.elim
  | succ k => simpa [VT, hu] using h
theorem VT_bool {k : Nat} {t : TypeId} {cs : List V} (hu : P.underlying t = some .bool) (h : VT P k t cs) : ∃ b, cs = [.bool b] := by
  cases k with
  | zero => exact h.elim
  | succ k => simpa [VT, hu] using h
theorem VT_str {k : Nat} {t : TypeId} {cs : List V} (hu : P.underlying t = some .string) (h : VT P k t cs) : ∃ l, cs = [.str l] ∧ l.length ≤ maxLen := by
  cases k with
  | zero => exact h.elim
  | succ k => simpa [VT, hu] using h
theorem VT_slice {k : Nat} {t e : TypeId} {cs : List V} (hu : P.underlying t = some (.slice e)) (h : VT P k t cs) : ∃ k', cs = [.nils] ∨ ∃ vs len, cs = [.slice .ro (P.cellsOf e) vs len] ∧ vs.length = len * P.cellsOf e ∧ len ≤ maxLen ∧ ∀ i, i < len → VT P k' e ((vs.drop (i * P.cellsOf e)).take (P.cellsOf e)) := by
  cases k with
  | zero => exact h.elim
  | succ k => exact ⟨k, by simpa [VT, hu] using h⟩
theorem VT_struct {k : Nat} {t : TypeId} {p : TypeId × Nat} {ps : List (TypeId × Nat)} {cs : List V} (hu : fieldsOf P t = p :: ps) (h : VT P k t cs) : ∃ k', cs.length = P.cellsOf t ∧ ∀ q ∈ p :: ps, VT P k' q.1 ((cs.drop q.2).take (P.cellsOf q.1)) := by
  cases k with
  | zero => exact h.elim
  | succ k =>
    unfold fieldsOf at hu
    split at hu
    · rename_i fs hf
      split at hu
      · cases hu
      · simp only [VT, hf] at h
        refine ⟨k, h.1, fun q hq => ?_⟩
        rw [← hu, List.mem_map] at hq
        obtain ⟨f, hfm, rfl⟩ := hq
        exact h.2 f hfm
    · cases hu

theorem ArgT_struct {t : TypeId} {p : TypeId × Nat} {ps : List (TypeId × Nat)} {x : V} (hu : fieldsOf P t = p :: ps) (h : ArgT P t x) : ∃ k vs, x = .agg vs ∧ VT P k t vs := by
  unfold fieldsOf at hu
  split at hu
  · rename_i fs hf
    unfold ArgT at h
    rw [hf] at h
    exact h
  · cases hu
end

theorem rows_of {α : Type} {f : α → List V} {R : α → Prop} {c : Nat} : ∀ (len : Nat) (vs : List V), vs.length = len * c → (∀ i, i < len → ∃ x, (vs.drop (i * c)).take c = f x ∧ R x) → ∃ l : List α, vs = l.flatMap f ∧ l.length = len ∧ ∀ x ∈ l, R x
  | 0, vs, hl, _ => ⟨[], by simpa using hl, rfl, by simp⟩
  | len + 1, vs, hl, h => by
    obtain ⟨x, hx, hr⟩ := h 0 (by omega)
    have hl' : (vs.drop c).length = len * c := by rw [List.length_drop, hl, Nat.add_mul]; omega
    obtain ⟨l, h1, h2, h3⟩ := rows_of len (vs.drop c) hl' fun i hi => by
      obtain ⟨y, hy, hry⟩ := h (i + 1) (by omega)
      have he : c + i * c = (i + 1) * c := by rw [Nat.add_mul]; omega
      exact ⟨y, by rw [List.drop_drop, he]; exact hy, hry⟩
    refine ⟨x :: l, ?_, by simp [h2], ?_⟩
    · rw [List.flatMap_cons, ← h1, ← hx]
      simp
    · intro y hy
      rcases List.mem_cons.1 hy with rfl | hy
      · exact hr
      · exact h3 y hy

theorem bulk_mem {α : Type} {f : α → List V} : ∀ {l : List α} {x : α}, x ∈ l → vbulks (f x) ≤ vbulks (l.flatMap f)
  | [], x, h => by cases h
  | a :: l, x, h => by
    rw [List.flatMap_cons, vbulks_append]
    rcases List.mem_cons.1 h with rfl | h
    · omega
    · have := bulk_mem (f := f) h
      omega

theorem bulk_len {α : Type} {f : α → List V} {k : Nat} (hf : ∀ a, (f a).length = k) (hk : 0 < k) (l : List α) : l.length ≤ vbulks (l.flatMap f) := by
  have h1 := vbulks_len (l.flatMap f)
  rw [flat_len hf] at h1
  have : l.length * 1 ≤ l.length * k := Nat.mul_le_mul_left _ hk
  omega
end Go.Proofs.Ytmcadfejkcpblaa.Q
