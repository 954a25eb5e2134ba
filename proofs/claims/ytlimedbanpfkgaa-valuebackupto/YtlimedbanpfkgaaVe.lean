import Derived.Test.YtlimedbanpfkgaaVd
set_option linter.unusedVariables false
set_option linter.unusedSimpArgs false
namespace Go.Proofs.Ytlimedbanpfkgaa.Q
open Go Go.RowKit Go.Proofs

theorem sgn_zero {a b : Int} (h : sgn a b = 0) : a = b := by
  unfold sgn at h
  split at h
  · omega
  · split at h
    · omega
    · omega
theorem sgn_anti (a b : Int) : sgn a b = - sgn b a := by
  unfold sgn
  split <;> split <;> omega
theorem sgn_refl (a : Int) : sgn a a = 0 := sgn_eq rfl
theorem sgn_trans {a b c : Int} (h1 : sgn a b ≤ 0) (h2 : sgn b c ≤ 0) : sgn a c ≤ 0 := by
  unfold sgn at *
  split at h1 <;> split at h2 <;> (try split at h1) <;> (try split at h2) <;> split <;> (try split) <;> omega

theorem cb_zero {a b : List UInt8} (h : Lib.compareBytes a b = 0) : a = b := by
  rw [compareBytes_eq] at h
  split at h
  · assumption
  · split at h <;> omega
theorem cb_refl (a : List UInt8) : Lib.compareBytes a a = 0 := by rw [compareBytes_eq, if_pos rfl]
theorem u8_lt {a b : UInt8} : a < b ↔ a.toNat < b.toNat := Iff.rfl
theorem cb_anti : ∀ a b : List UInt8, Lib.compareBytes a b = - Lib.compareBytes b a
  | [], [] => by simp [Lib.compareBytes]
  | [], _ :: _ => by simp [Lib.compareBytes]
  | _ :: _, [] => by simp [Lib.compareBytes]
  | a :: l, b :: m => by
    rw [Lib.compareBytes, Lib.compareBytes, cb_anti l m]
    simp only [u8_lt]
    split <;> split <;> omega

/-- One ahead of the rest. -/
def lex (x r : Int) : Int := if x = 0 then r else x
theorem lex_trans {xab xbc xac rab rbc rac : Int} (ht : xab ≤ 0 → xbc ≤ 0 → xac ≤ 0) (h1 : xab = 0 → xac = xbc) (h2 : xbc = 0 → xac = xab) (h3 : xac = 0 → xab = -xbc) (hr : rab ≤ 0 → rbc ≤ 0 → rac ≤ 0) : lex xab rab ≤ 0 → lex xbc rbc ≤ 0 → lex xac rac ≤ 0 := by
  unfold lex
  intro a b
  split at a <;> split at b <;> split <;> omega

theorem cb_trans : ∀ (a b c : List UInt8), Lib.compareBytes a b ≤ 0 → Lib.compareBytes b c ≤ 0 → Lib.compareBytes a c ≤ 0
  | [], b, [] => by simp [Lib.compareBytes]
  | [], b, _ :: _ => by simp [Lib.compareBytes]
  | _ :: _, [], c => by simp [Lib.compareBytes]
  | _ :: _, _ :: _, [] => by simp [Lib.compareBytes]
  | a :: l, b :: m, c :: k => by
    have hE : ∀ (x y : UInt8) (p q : List UInt8), Lib.compareBytes (x :: p) (y :: q) = lex (sgn x.toNat y.toNat) (Lib.compareBytes p q) := by
      intro x y p q
      rw [Lib.compareBytes]
      unfold lex sgn
      simp only [u8_lt]
      by_cases h1 : x.toNat < y.toNat
      · have : ((x.toNat : Int) < y.toNat) := by omega
        simp [h1, this]
      · have e1 : ¬ ((x.toNat : Int) < y.toNat) := by omega
        by_cases h2 : y.toNat < x.toNat
        · have : ((y.toNat : Int) < x.toNat) := by omega
          simp [h1, h2, e1, this]
        · have e2 : ¬ ((y.toNat : Int) < x.toNat) := by omega
          simp [h1, h2, e1, e2]
    rw [hE, hE, hE]
    refine lex_trans sgn_trans ?_ ?_ ?_ (cb_trans l m k)
    · intro h; rw [sgn_zero h]
    · intro h; rw [sgn_zero h]
    · intro h; rw [sgn_zero h]; exact sgn_anti _ _

theorem orI_zero : ∀ {l : List Int}, orI l = 0 → ∀ x ∈ l, x = 0
  | [], _, x, hx => by cases hx
  | y :: l, h, x, hx => by
    rw [orI] at h
    split at h
    · rename_i hy
      rcases List.mem_cons.1 hx with rfl | hx
      · exact hy
      · exact orI_zero h x hx
    · omega
theorem orI_lex (x : Int) (l : List Int) : orI (x :: l) = lex x (orI l) := rfl
theorem cmpL_lex (a b : Val) (l m : List Val) : cmpL (a :: l) (b :: m) = lex (cmpV a b) (cmpL l m) := by rw [cmpL]; rfl

theorem cmp_zero : ∀ (n : Nat) (a b : Val), weight a ≤ n → cmpV a b = 0 → a = b
  | 0, a, b, h => by have := weight_pos a; omega
  | n + 1, .mk k m t l, .mk k' m' t' l', h => by
    rw [weight] at h
    have rows : ∀ (l m : List Val), weights l ≤ n → cmpL l m = 0 → l = m := by
      intro l
      induction l with
      | nil => intro m _; cases m <;> simp [cmpL]
      | cons a l ih =>
        intro m hl h
        rw [weights] at hl
        cases m with
        | nil => simp [cmpL] at h
        | cons b m =>
          rw [cmpL] at h
          split at h
          · rename_i h0
            rw [cmp_zero n a b (by omega) h0, ih m (by omega) h]
          · omega
    intro h0
    rw [cmpV] at h0
    have hz := orI_zero h0
    simp only [List.mem_cons, List.not_mem_nil, or_false, forall_eq_or_imp, forall_eq] at hz
    obtain ⟨z1, z2, z3, z4⟩ := hz
    rw [sgn_zero z1, sgn_zero z2, cb_zero z3, rows l l' (by omega) z4]
theorem cmpV_zero {a b : Val} (h : cmpV a b = 0) : a = b := cmp_zero _ a b (Nat.le_refl _) h

theorem cmp_refl : ∀ (n : Nat) (a : Val), weight a ≤ n → cmpV a a = 0
  | 0, a, h => by have := weight_pos a; omega
  | n + 1, .mk k m t l, h => by
    rw [weight] at h
    have rows : ∀ (l : List Val), weights l ≤ n → cmpL l l = 0 := by
      intro l
      induction l with
      | nil => intro _; simp [cmpL]
      | cons a l ih =>
        intro hl
        rw [weights] at hl
        rw [cmpL, if_pos (cmp_refl n a (by omega))]
        exact ih (by omega)
    rw [cmpV, sgn_refl, sgn_refl, cb_refl, rows l (by omega)]
    rfl
theorem cmpV_refl (a : Val) : cmpV a a = 0 := cmp_refl _ a (Nat.le_refl _)

theorem cmp_anti : ∀ (n : Nat) (a b : Val), weight a ≤ n → cmpV a b = - cmpV b a
  | 0, a, b, h => by have := weight_pos a; omega
  | n + 1, .mk k m t l, .mk k' m' t' l', h => by
    rw [weight] at h
    have rows : ∀ (l m : List Val), weights l ≤ n → cmpL l m = - cmpL m l := by
      intro l
      induction l with
      | nil => intro m _; cases m <;> simp [cmpL]
      | cons a l ih =>
        intro m hl
        rw [weights] at hl
        cases m with
        | nil => simp [cmpL]
        | cons b m =>
          rw [cmpL, cmpL, cmp_anti n a b (by omega), ih m (by omega)]
          split <;> split <;> omega
    rw [cmpV, cmpV, sgn_anti k k', sgn_anti m m', cb_anti t t', rows l l' (by omega)]
    simp only [orI]
    repeat' split
    all_goals omega
theorem cmpV_anti (a b : Val) : cmpV a b = - cmpV b a := cmp_anti _ a b (Nat.le_refl _)

theorem cmp_trans : ∀ (n : Nat) (a b c : Val), weight a ≤ n → cmpV a b ≤ 0 → cmpV b c ≤ 0 → cmpV a c ≤ 0
  | 0, a, b, c, h => by have := weight_pos a; omega
  | n + 1, .mk k m t l, .mk k' m' t' l', .mk k2 m2 t2 l2, h => by
    rw [weight] at h
    have rows : ∀ (l m k : List Val), weights l ≤ n → cmpL l m ≤ 0 → cmpL m k ≤ 0 → cmpL l k ≤ 0 := by
      intro l
      induction l with
      | nil => intro m k _ _ _; cases k <;> simp [cmpL]
      | cons a l ih =>
        intro m k hl
        rw [weights] at hl
        cases m with
        | nil => simp [cmpL]
        | cons b m =>
          cases k with
          | nil => intro _ h2; simp [cmpL] at h2
          | cons c k =>
            rw [cmpL_lex, cmpL_lex, cmpL_lex]
            refine lex_trans (cmp_trans n a b c (by omega)) ?_ ?_ ?_ (ih m k (by omega))
            · intro h; rw [cmpV_zero h]
            · intro h; rw [cmpV_zero h]
            · intro h; rw [cmpV_zero h]; exact cmpV_anti _ _
    rw [cmpV, cmpV, cmpV]
    simp only [orI_lex]
    refine lex_trans sgn_trans (fun h => by rw [sgn_zero h]) (fun h => by rw [sgn_zero h]) (fun h => by rw [sgn_zero h]; exact sgn_anti _ _) ?_
    refine lex_trans sgn_trans (fun h => by rw [sgn_zero h]) (fun h => by rw [sgn_zero h]) (fun h => by rw [sgn_zero h]; exact sgn_anti _ _) ?_
    refine lex_trans (cb_trans _ _ _) (fun h => by rw [cb_zero h]) (fun h => by rw [cb_zero h]) (fun h => by rw [cb_zero h]; exact cb_anti _ _) ?_
    have hz : ∀ x, lex x (orI []) = x := fun x => by unfold lex orI; split <;> omega
    rw [hz, hz, hz]
    exact rows l l' l2 (by omega)
theorem cmpV_trans {a b c : Val} (h1 : cmpV a b ≤ 0) (h2 : cmpV b c ≤ 0) : cmpV a c ≤ 0 := cmp_trans _ a b c (Nat.le_refl _) h1 h2
end Go.Proofs.Ytlimedbanpfkgaa.Q
