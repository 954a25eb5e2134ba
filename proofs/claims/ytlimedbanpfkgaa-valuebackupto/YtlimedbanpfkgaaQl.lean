/- More fuel changes nothing. -/
import Derived.Test.YtlimedbanpfkgaaQk
set_option linter.unusedVariables false
set_option linter.unusedSimpArgs false
namespace Go.Proofs.Ytlimedbanpfkgaa.Q
open Go Go.RowKit

section
variable {P : Program} {pr : Prim}

theorem fuel1 : ∀ n,
    (∀ ops o tmps σ r, vcore P pr n ops o tmps σ = some r → vcore P pr (n + 1) ops o tmps σ = some r) ∧
    (∀ ops l tmps σ r, vops P pr n ops l tmps σ = some r → vops P pr (n + 1) ops l tmps σ = some r ∧ vtrace P pr (n + 1) ops l tmps σ = vtrace P pr n ops l tmps σ) ∧
    (∀ c tmps σ r, vexec P pr n c tmps σ = some r → vexec P pr (n + 1) c tmps σ = some r) ∧
    (∀ f vs σ r, vcall P pr n f vs σ = some r → vcall P pr (n + 1) f vs σ = some r)
  | 0 => ⟨fun _ _ _ _ _ h => by simp [vcore] at h, fun _ _ _ _ _ h => by simp [vops] at h, fun _ _ _ _ h => by simp [vexec] at h, fun _ _ _ _ h => by simp [vcall] at h⟩
  | n + 1 => by
    obtain ⟨i1, i2, i3, i4⟩ := fuel1 n
    refine ⟨fun ops o tmps σ r h => ?_, fun ops l tmps σ r h => ?_, fun c tmps σ r h => ?_, fun f vs σ r h => ?_⟩
    · rw [vcore] at h ⊢
      split at h
      · rename_i hw
        rw [if_pos hw]
        split at h
        · rename_i f args ts ho
          split at h
          · rename_i fid caps vs hf hvs
            split at h
            · rename_i v σ' hc
              rw [i4 _ _ _ _ hc]; exact h
            · rename_i v σ' hc
              rw [i4 _ _ _ _ hc]; exact h
            · cases h
          · cases h
        · exact h
        · exact h
      · rename_i hw
        rw [if_neg hw]
        exact h
    · cases l with
      | nil => rw [vops] at h ⊢; exact ⟨h, by simp only [vtrace]⟩
      | cons o rest =>
        rw [vops] at h ⊢
        rw [vtrace, vtrace]
        split at h
        · rename_i v σ' hc
          rw [hc, i1 _ _ _ _ _ hc]
          obtain ⟨h1, h2⟩ := i2 _ _ _ _ _ h
          exact ⟨h1, by simp only [h2]⟩
        · rename_i v σ' hc
          rw [hc, i1 _ _ _ _ _ hc]
          exact ⟨h, rfl⟩
        · cases h
    · cases c with
      | skip => rw [vexec] at h ⊢; exact h
      | label l => rw [vexec] at h ⊢; exact h
      | exit id => rw [vexec] at h ⊢; exact h
      | ret => rw [vexec] at h ⊢; exact h
      | region id ops draw =>
        cases draw with
        | false => rw [vexec] at h ⊢; exact (i2 _ _ _ _ _ h).1
        | true =>
          rw [vexec] at h ⊢
          split at h
          · rename_i hc
            split at h
            · rename_i tmps' σ' hv
              obtain ⟨h1, h2⟩ := i2 _ _ _ _ _ hv
              rw [h2, if_pos hc, h1]
              exact h
            · rename_i v tmps' σ' hv
              obtain ⟨h1, h2⟩ := i2 _ _ _ _ _ hv
              rw [h2, if_pos hc, h1]
              exact h
            · cases h
          · cases h
      | seq a b =>
        rw [vexec] at h ⊢
        split at h
        · rename_i tmps' σ' h1
          rw [i3 _ _ _ _ h1]
          exact i3 _ _ _ _ h
        · rename_i hne
          rw [i3 _ _ _ _ h]
          split
          · rename_i h2; injection h2 with h2; subst h2; exact absurd h (hne _ _)
          · rfl
      | cond c a b =>
        rw [vexec] at h ⊢
        split at h
        · exact i3 _ _ _ _ h
        · cases h
      | block id c =>
        rw [vexec] at h ⊢
        split at h
        · rename_i h1
          rw [i3 _ _ _ _ h1]; exact h
        · rename_i hne
          rw [i3 _ _ _ _ h]
          split
          · rename_i h2; injection h2 with h2; subst h2; exact absurd h (hne _ _ _)
          · rfl
      | loop c =>
        rw [vexec] at h ⊢
        split at h
        · rename_i tmps' σ' h1
          rw [i3 _ _ _ _ h1]
          exact i3 _ _ _ _ h
        · rename_i hne
          rw [i3 _ _ _ _ h]
          split
          · rename_i h2; injection h2 with h2; subst h2; exact absurd h (hne _ _)
          · rfl
      | rangeFunc f ps as_ b => simp [vexec] at h
      | scope b => simp [vexec] at h
      | goto l => simp [vexec] at h
      | refuse y => simp [vexec] at h
    · rw [vcall] at h ⊢
      split at h
      · rename_i hp; rw [if_pos hp]; exact h
      · rename_i hp
        rw [if_neg hp]
        split at h
        · rename_i fn hfn
          split at h
          · rename_i c hc
            split at h
            · rename_i hk
              simp only [hfn, hc, hk, if_true]
              split at h
              · rename_i h1; rw [i3 _ _ _ _ h1]; exact h
              · rename_i h1; rw [i3 _ _ _ _ h1]; exact h
              · rename_i h1; rw [i3 _ _ _ _ h1]; exact h
              · cases h
            · cases h
          · cases h
        · cases h

theorem vexec_mono {n m : Nat} (h : n ≤ m) {c : Code} {tmps : List V} {σ : St} {r : VX × List V × St} (hv : vexec P pr n c tmps σ = some r) : vexec P pr m c tmps σ = some r := by
  induction h with
  | refl => exact hv
  | step _ ih => exact (fuel1 _).2.2.1 _ _ _ _ ih
theorem vcall_mono {n m : Nat} (h : n ≤ m) {f : FuncId} {vs : List V} {σ : St} {r : VRes × St} (hv : vcall P pr n f vs σ = some r) : vcall P pr m f vs σ = some r := by
  induction h with
  | refl => exact hv
  | step _ ih => exact (fuel1 _).2.2.2 _ _ _ _ ih
theorem vops_mono {n m : Nat} (h : n ≤ m) {ops : Array Oper} {l : List Oper} {tmps : List V} {σ : St} {r : VX × List V × St} (hv : vops P pr n ops l tmps σ = some r) : vops P pr m ops l tmps σ = some r := by
  induction h with
  | refl => exact hv
  | step _ ih => exact ((fuel1 _).2.1 _ _ _ _ _ ih).1
theorem vcore_mono {n m : Nat} (h : n ≤ m) {ops : Array Oper} {o : Oper} {tmps : List V} {σ : St} {r : Out} (hv : vcore P pr n ops o tmps σ = some r) : vcore P pr m ops o tmps σ = some r := by
  induction h with
  | refl => exact hv
  | step _ ih => exact (fuel1 _).1 _ _ _ _ _ ih

/-- A call comes to an answer. -/
def Does (P : Program) (pr : Prim) (f : FuncId) (vs : List V) (σ : St) (r : VRes) (σ' : St) : Prop := ∃ n, vcall P pr n f vs σ = some (r, σ')

theorem Does.det {f : FuncId} {vs : List V} {σ : St} {r r2 : VRes} {σ' σ2 : St} (h : Does P pr f vs σ r σ') (h2 : Does P pr f vs σ r2 σ2) : r = r2 ∧ σ' = σ2 := by
  obtain ⟨n, h⟩ := h
  obtain ⟨m, h2⟩ := h2
  have a := vcall_mono (Nat.le_max_left n m) h
  have b := vcall_mono (Nat.le_max_right n m) h2
  rw [a] at b
  injection b with b
  injection b with b1 b2
  exact ⟨b1, b2⟩
end
end Go.Proofs.Ytlimedbanpfkgaa.Q
