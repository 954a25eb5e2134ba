/- More fuel changes nothing. -/
import Derived.Test.YtmcadfejkcpblaaQk
set_option linter.unusedVariables false
set_option linter.unusedSimpArgs false
namespace Go.Proofs.Ytmcadfejkcpblaa.Q
open Go Go.RowKit

section
variable {P : Program} {pr : Prim}

/-- One run gives what the other gives. -/
def LeE (E E' : RunC) : Prop := ∀ c tmps σ r, E c tmps σ = some r → E' c tmps σ = some r
def LeO (O O' : RunO) : Prop := ∀ ops l tmps σ r, O ops l tmps σ = some r → O' ops l tmps σ = some r
theorem map_le {α β : Type} {o o' : Option α} {f : α → β} {b : β} (h : ∀ a, o = some a → o' = some a) (hm : o.map f = some b) : o'.map f = some b := by
  rw [Option.map_eq_some_iff] at hm ⊢
  obtain ⟨a, h1, h2⟩ := hm
  exact ⟨a, h a h1, h2⟩
theorem codeD_le {E E' : RunC} {O O' : RunO} (hE : LeE E E') (hO : LeO O O') : ∀ (c : Code) {tmps : List V} {σ : St} {r : VX × List V × St × Ds}, codeD E O c tmps σ = some r → codeD E' O' c tmps σ = some r
  | .region i ops true, tmps, σ, r, h => by simp only [codeD] at h ⊢; exact map_le (hE _ _ _) h
  | .region i ops false, tmps, σ, r, h => by
    rw [codeD] at h ⊢
    split at h
    · rename_i f as_ hl
      split at h
      · rename_i hx
        rw [hO _ _ _ _ _ hx]
        exact h
      · rename_i hx
        rw [hO _ _ _ _ _ hx]
        exact h
      · cases h
    · exact map_le (hE _ _ _) h
  | .seq a b, tmps, σ, r, h => by
    rw [codeD] at h ⊢
    split at h
    · rename_i h1
      rw [codeD_le hE hO a h1]
      exact map_le (fun _ h => codeD_le hE hO b h) h
    · rename_i hne
      rw [codeD_le hE hO a h]
      split
      · rename_i h2; injection h2 with h2; subst h2; exact absurd h (hne _ _ _)
      · rfl
  | .cond c a b, tmps, σ, r, h => by
    rw [codeD] at h ⊢
    split at h
    · exact codeD_le hE hO a h
    · exact codeD_le hE hO b h
    · cases h
  | .skip, tmps, σ, r, h => by simp only [codeD] at h ⊢; exact map_le (hE _ _ _) h
  | .label l, tmps, σ, r, h => by simp only [codeD] at h ⊢; exact map_le (hE _ _ _) h
  | .exit i, tmps, σ, r, h => by simp only [codeD] at h ⊢; exact map_le (hE _ _ _) h
  | .ret, tmps, σ, r, h => by simp only [codeD] at h ⊢; exact map_le (hE _ _ _) h
  | .block i c, tmps, σ, r, h => by simp only [codeD] at h ⊢; exact map_le (hE _ _ _) h
  | .loop c, tmps, σ, r, h => by simp only [codeD] at h ⊢; exact map_le (hE _ _ _) h
  | .rangeFunc f ps as_ b, tmps, σ, r, h => by simp only [codeD] at h ⊢; exact map_le (hE _ _ _) h
  | .scope c, tmps, σ, r, h => by simp only [codeD] at h ⊢; exact map_le (hE _ _ _) h
  | .goto l, tmps, σ, r, h => by simp only [codeD] at h ⊢; exact map_le (hE _ _ _) h
  | .refuse y, tmps, σ, r, h => by simp only [codeD] at h ⊢; exact map_le (hE _ _ _) h
theorem codeS_le {E E' : RunC} {O O' : RunO} (hE : LeE E E') (hO : LeO O O') : ∀ (c : Code) {tmps : List V} {m : Pn} {σ : St} {r : VX × List V × Pn × St}, codeS E O c tmps m σ = some r → codeS E' O' c tmps m σ = some r
  | .region i ops true, tmps, m, σ, r, h => by simp only [codeS] at h ⊢; exact map_le (hE _ _ _) h
  | .region i ops false, tmps, m, σ, r, h => by
    rw [codeS] at h ⊢
    split at h
    · split at h
      · rename_i hr
        rw [if_pos hr]
        exact map_le (hO _ _ _ _) h
      · rename_i hr
        rw [if_neg hr]
        exact map_le (hE _ _ _) h
    · cases h
  | .seq a b, tmps, m, σ, r, h => by
    rw [codeS] at h ⊢
    split at h
    · rename_i h1
      rw [codeS_le hE hO a h1]
      exact codeS_le hE hO b h
    · rename_i hne
      rw [codeS_le hE hO a h]
      split
      · rename_i h2; injection h2 with h2; subst h2; exact absurd h (hne _ _ _)
      · rfl
  | .cond c a b, tmps, m, σ, r, h => by
    rw [codeS] at h ⊢
    split at h
    · exact codeS_le hE hO a h
    · exact codeS_le hE hO b h
    · cases h
  | .skip, tmps, m, σ, r, h => by simp only [codeS] at h ⊢; exact map_le (hE _ _ _) h
  | .label l, tmps, m, σ, r, h => by simp only [codeS] at h ⊢; exact map_le (hE _ _ _) h
  | .exit i, tmps, m, σ, r, h => by simp only [codeS] at h ⊢; exact map_le (hE _ _ _) h
  | .ret, tmps, m, σ, r, h => by simp only [codeS] at h ⊢; exact map_le (hE _ _ _) h
  | .block i c, tmps, m, σ, r, h => by simp only [codeS] at h ⊢; exact map_le (hE _ _ _) h
  | .loop c, tmps, m, σ, r, h => by simp only [codeS] at h ⊢; exact map_le (hE _ _ _) h
  | .rangeFunc f ps as_ b, tmps, m, σ, r, h => by simp only [codeS] at h ⊢; exact map_le (hE _ _ _) h
  | .scope c, tmps, m, σ, r, h => by simp only [codeS] at h ⊢; exact map_le (hE _ _ _) h
  | .goto l, tmps, m, σ, r, h => by simp only [codeS] at h ⊢; exact map_le (hE _ _ _) h
  | .refuse y, tmps, m, σ, r, h => by simp only [codeS] at h ⊢; exact map_le (hE _ _ _) h
theorem defOne_le {E E' : RunC} {O O' : RunO} (hE : LeE E E') (hO : LeO O O') {f : FuncId} {vs : List V} {m : Pn} {σ : St} {r : Pn × St} (h : defOne P E O f vs m σ = some r) : defOne P E' O' f vs m σ = some r := by
  unfold defOne at h ⊢
  split at h
  · rename_i fn hfn
    try simp only [hfn]
    split at h
    · rename_i c hc
      try simp only [hc]
      split at h
      · rename_i hk
        rw [if_pos hk]
        split at h
        · rename_i hx
          rw [codeS_le hE hO c hx]
          exact h
        · cases h
      · cases h
    · cases h
  · cases h
theorem leaveD_le {E E' : RunC} {O O' : RunO} (hE : LeE E E') (hO : LeO O O') : ∀ {ds : Ds} {m : Pn} {σ : St} {r : Pn × St}, leaveD P E O ds m σ = some r → leaveD P E' O' ds m σ = some r
  | [], m, σ, r, h => h
  | (f, vs) :: ds, m, σ, r, h => by
    simp only [leaveD] at h ⊢
    split at h
    · rename_i h1
      rw [defOne_le hE hO h1]
      exact leaveD_le hE hO h
    · cases h
theorem callD_le {E E' : RunC} {O O' : RunO} (hE : LeE E E') (hO : LeO O O') {fn : Func} {c : Code} {tmps : List V} {σ : St} {r : VRes × St} (h : callD P E O fn c tmps σ = some r) : callD P E' O' fn c tmps σ = some r := by
  unfold callD at h ⊢
  split at h
  · rename_i hx
    rw [codeD_le hE hO c hx]
    simp only
    split at h
    · rename_i m hm
      try rw [hm]
      try simp only
      split at h
      · rename_i hl
        rw [leaveD_le hE hO hl]
        exact h
      · rename_i hl
        rw [leaveD_le hE hO hl]
        exact h
      · cases h
    · cases h
  · cases h

theorem hopsV_le {hot : Oper → Bool} {ops : Array Oper} {C C' : Oper → List V → St → Option Out} (hC : ∀ o t s r, C o t s = some r → C' o t s = some r) : ∀ {l : List Oper} {tmps : List V} {σ : St} {r : VX × List V × St}, hopsV P hot C ops l tmps σ = some r → hopsV P hot C' ops l tmps σ = some r
  | [], tmps, σ, r, h => h
  | o :: rest, tmps, σ, r, h => by
    simp only [hopsV] at h ⊢
    split at h
    · rename_i hc
      rw [if_pos hc]
      split at h
      · exact hopsV_le hC h
      · cases h
    · rename_i hc
      rw [if_neg hc]
      split at h
      · rename_i h1
        rw [hC _ _ _ _ h1]
        exact hopsV_le hC h
      · rename_i h1
        rw [hC _ _ _ _ h1]
        exact h
      · cases h
theorem fuel1 : ∀ n,
    (∀ ops o tmps σ r, vcore P pr n ops o tmps σ = some r → vcore P pr (n + 1) ops o tmps σ = some r) ∧
    (∀ ops l tmps σ r, vops P pr n ops l tmps σ = some r → vops P pr (n + 1) ops l tmps σ = some r ∧ vtrace P pr (n + 1) ops l tmps σ = vtrace P pr n ops l tmps σ) ∧
    (∀ c tmps σ r, vexec P pr n c tmps σ = some r → vexec P pr (n + 1) c tmps σ = some r) ∧
    (∀ f vs σ r, vcall P pr n f vs σ = some r → vcall P pr (n + 1) f vs σ = some r) ∧
    (∀ k vs σ r, vround P pr n k vs σ = some r → vround P pr (n + 1) k vs σ = some r)
  | 0 => ⟨fun _ _ _ _ _ h => by simp [vcore] at h, fun _ _ _ _ _ h => by simp [vops] at h, fun _ _ _ _ h => by simp [vexec] at h, fun _ _ _ _ h => by simp [vcall] at h, fun _ _ _ _ h => by simp [vround] at h⟩
  | n + 1 => by
    obtain ⟨i1, i2, i3, i4, i5⟩ := fuel1 n
    refine ⟨fun ops o tmps σ r h => ?_, fun ops l tmps σ r h => ?_, fun c tmps σ r h => ?_, fun f vs σ r h => ?_, fun k vs σ r h => ?_⟩
    · rw [vcore] at h ⊢
      split at h
      · rename_i hw
        rw [if_pos hw]
        split at h
        · rename_i f args ts ho
          split at h
          · rename_i fid caps vs hf hvs
            split at h
            · rename_i v σ' hc
              rw [i4 _ _ _ _ hc]; exact h
            · rename_i v σ' hc
              rw [i4 _ _ _ _ hc]; exact h
            · cases h
          · rename_i k vs hf hvs
            split at h
            · rename_i v σ' hc
              rw [i5 _ _ _ _ hc]; exact h
            · cases h
          · cases h
        · exact h
        · exact h
      · rename_i hw
        rw [if_neg hw]
        exact h
    · cases l with
      | nil => rw [vops] at h ⊢; exact ⟨h, by simp only [vtrace]⟩
      | cons o rest =>
        rw [vops] at h ⊢
        rw [vtrace, vtrace]
        split at h
        · rename_i v σ' hc
          rw [hc, i1 _ _ _ _ _ hc]
          obtain ⟨h1, h2⟩ := i2 _ _ _ _ _ h
          exact ⟨h1, by simp only [h2]⟩
        · rename_i v σ' hc
          rw [hc, i1 _ _ _ _ _ hc]
          exact ⟨h, rfl⟩
        · cases h
    · cases c with
      | skip => rw [vexec] at h ⊢; exact h
      | label l => rw [vexec] at h ⊢; exact h
      | exit id => rw [vexec] at h ⊢; exact h
      | ret => rw [vexec] at h ⊢; exact h
      | region id ops draw =>
        cases draw with
        | false =>
          rw [vexec] at h ⊢
          split at h
          · rename_i hh
            rw [if_pos hh]
            exact hopsV_le (fun o t s r h => i1 _ _ _ _ _ h) h
          · rename_i hh
            rw [if_neg hh]
            exact (i2 _ _ _ _ _ h).1
        | true =>
          rw [vexec] at h ⊢
          split at h
          · rename_i hc
            split at h
            · rename_i tmps' σ' hv
              obtain ⟨h1, h2⟩ := i2 _ _ _ _ _ hv
              rw [h2, if_pos hc, h1]
              exact h
            · rename_i v tmps' σ' hv
              obtain ⟨h1, h2⟩ := i2 _ _ _ _ _ hv
              rw [h2, if_pos hc, h1]
              exact h
            · cases h
          · cases h
      | seq a b =>
        rw [vexec] at h ⊢
        split at h
        · rename_i tmps' σ' h1
          rw [i3 _ _ _ _ h1]
          exact i3 _ _ _ _ h
        · rename_i hne
          rw [i3 _ _ _ _ h]
          split
          · rename_i h2; injection h2 with h2; subst h2; exact absurd h (hne _ _)
          · rfl
      | cond c a b =>
        rw [vexec] at h ⊢
        split at h
        · exact i3 _ _ _ _ h
        · cases h
      | block id c =>
        rw [vexec] at h ⊢
        split at h
        · rename_i h1
          rw [i3 _ _ _ _ h1]; exact h
        · rename_i hne
          rw [i3 _ _ _ _ h]
          split
          · rename_i h2; injection h2 with h2; subst h2; exact absurd h (hne _ _ _)
          · rfl
      | loop c =>
        rw [vexec] at h ⊢
        split at h
        · rename_i tmps' σ' h1
          rw [i3 _ _ _ _ h1]
          exact i3 _ _ _ _ h
        · rename_i hne
          rw [i3 _ _ _ _ h]
          split
          · rename_i h2; injection h2 with h2; subst h2; exact absurd h (hne _ _)
          · rfl
      | rangeFunc f ps as_ b =>
        rw [vexec] at h ⊢
        split at h
        · split at h
          · rename_i hc
            rw [i4 _ _ _ _ hc]; exact h
          · cases h
        · cases h
      | scope b => simp [vexec] at h
      | goto l => simp [vexec] at h
      | refuse y => simp [vexec] at h
    · rw [vcall] at h ⊢
      split at h
      · rename_i hp; rw [if_pos hp]; exact h
      · rename_i hp
        rw [if_neg hp]
        split at h
        · rename_i fn hfn
          split at h
          · rename_i c hc
            split at h
            · rename_i hk
              simp only [hfn, hc, hk, if_true]
              split at h
              · rename_i hD
                rw [if_pos hD]
                exact callD_le (fun c t s r h => by
                  split at h
                  · cases h
                  · rename_i hrf
                    rw [if_neg hrf]; exact i3 c t s r h) (fun o l t s r h => (i2 o l t s r h).1) h
              rename_i hD
              rw [if_neg hD]
              split at h
              · rename_i h1; rw [i3 _ _ _ _ h1]; exact h
              · rename_i h1; rw [i3 _ _ _ _ h1]; exact h
              · rename_i h1; rw [i3 _ _ _ _ h1]; exact h
              · cases h
            · cases h
          · cases h
        · cases h
    · rw [vround] at h ⊢
      split at h
      · split at h
        · rename_i hcnd
          rw [if_pos hcnd]
          split at h
          · rename_i h1
            rw [i3 _ _ _ _ h1]
            split at h
            · rename_i h2
              simp only [h2]
              split at h
              · rename_i h3
                rw [i3 _ _ _ _ h3]; exact h
              · cases h
            · cases h
          · cases h
        · cases h
      · cases h

theorem vexec_mono {n m : Nat} (h : n ≤ m) {c : Code} {tmps : List V} {σ : St} {r : VX × List V × St} (hv : vexec P pr n c tmps σ = some r) : vexec P pr m c tmps σ = some r := by
  induction h with
  | refl => exact hv
  | step _ ih => exact (fuel1 _).2.2.1 _ _ _ _ ih
theorem vcall_mono {n m : Nat} (h : n ≤ m) {f : FuncId} {vs : List V} {σ : St} {r : VRes × St} (hv : vcall P pr n f vs σ = some r) : vcall P pr m f vs σ = some r := by
  induction h with
  | refl => exact hv
  | step _ ih => exact (fuel1 _).2.2.2.1 _ _ _ _ ih
theorem vops_mono {n m : Nat} (h : n ≤ m) {ops : Array Oper} {l : List Oper} {tmps : List V} {σ : St} {r : VX × List V × St} (hv : vops P pr n ops l tmps σ = some r) : vops P pr m ops l tmps σ = some r := by
  induction h with
  | refl => exact hv
  | step _ ih => exact ((fuel1 _).2.1 _ _ _ _ _ ih).1
theorem vcore_mono {n m : Nat} (h : n ≤ m) {ops : Array Oper} {o : Oper} {tmps : List V} {σ : St} {r : Out} (hv : vcore P pr n ops o tmps σ = some r) : vcore P pr m ops o tmps σ = some r := by
  induction h with
  | refl => exact hv
  | step _ ih => exact (fuel1 _).1 _ _ _ _ _ ih

/-- A call comes to an answer. -/
def Does (P : Program) (pr : Prim) (f : FuncId) (vs : List V) (σ : St) (r : VRes) (σ' : St) : Prop := ∃ n, vcall P pr n f vs σ = some (r, σ')

theorem Does.det {f : FuncId} {vs : List V} {σ : St} {r r2 : VRes} {σ' σ2 : St} (h : Does P pr f vs σ r σ') (h2 : Does P pr f vs σ r2 σ2) : r = r2 ∧ σ' = σ2 := by
  obtain ⟨n, h⟩ := h
  obtain ⟨m, h2⟩ := h2
  have a := vcall_mono (Nat.le_max_left n m) h
  have b := vcall_mono (Nat.le_max_right n m) h2
  rw [a] at b
  injection b with b
  injection b with b1 b2
  exact ⟨b1, b2⟩
end
end Go.Proofs.Ytmcadfejkcpblaa.Q
