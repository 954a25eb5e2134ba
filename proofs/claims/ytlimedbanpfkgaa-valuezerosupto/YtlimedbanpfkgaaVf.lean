import Derived.Test.YtlimedbanpfkgaaVd
set_option linter.unusedVariables false
set_option linter.unusedSimpArgs false
namespace Go.Proofs.Ytlimedbanpfkgaa.Q
open Go Go.RowKit Go.Proofs

/-! ### Types and their texts -/
inductive Ty where
  | int | bool | text
  | list (e : Ty) | mapI (e : Ty) | mapT (e : Ty)
  deriving DecidableEq
def intB : List UInt8 := [105, 110, 116]
def boolB : List UInt8 := [98, 111, 111, 108]
def textB : List UInt8 := [116, 101, 120, 116]
def mI : List UInt8 := [123, 105, 110, 116, 58]
def mT : List UInt8 := [123, 116, 101, 120, 116, 58]
def tyB : Ty → List UInt8
  | .int => intB
  | .bool => boolB
  | .text => textB
  | .list e => 91 :: (tyB e ++ [93])
  | .mapI e => mI ++ tyB e ++ [125]
  | .mapT e => mT ++ tyB e ++ [125]
def tyD : Ty → Nat
  | .int => 1 | .bool => 1 | .text => 1
  | .list e => tyD e + 1 | .mapI e => tyD e + 1 | .mapT e => tyD e + 1

def isPre (p l : List UInt8) : Bool := decide (p.length ≤ l.length) && decide (l.take p.length = p)
def mid (k : Nat) (s : List UInt8) : List UInt8 := s.dropLast.drop k
/-- The type of a text, of a depth at most r. -/
def tyOf : Nat → List UInt8 → Option Ty
  | 0, _ => none
  | r + 1, s => if s = intB then some .int else if s = boolB then some .bool else if s = textB then some .text
    else if s.length < 2 ∨ r = 0 then none
    else if isPre [91] s.dropLast = true then (if s.getLast? = some 93 then (tyOf r (mid 1 s)).map .list else none)
    else if isPre mI s.dropLast = true then (if s.getLast? = some 125 then (tyOf r (mid 5 s)).map .mapI else none)
    else if isPre mT s.dropLast = true then (if s.getLast? = some 125 then (tyOf r (mid 6 s)).map .mapT else none)
    else none

theorem isPre_append (p l : List UInt8) : isPre p (p ++ l) = true := by simp [isPre]
theorem dropLast_snoc (l : List UInt8) (x : UInt8) : (l ++ [x]).dropLast = l := List.dropLast_concat
theorem isPre_split {p s : List UInt8} {x : UInt8} (h : isPre p s.dropLast = true) (hx : s.getLast? = some x) : s = p ++ mid p.length s ++ [x] := by
  simp only [isPre, Bool.and_eq_true, decide_eq_true_eq] at h
  have h1 : s.dropLast ++ [x] = s := by
    rw [List.getLast?_eq_some_iff] at hx
    obtain ⟨ys, rfl⟩ := hx
    rw [List.dropLast_concat]
  conv => lhs; rw [← h1, ← List.take_append_drop p.length s.dropLast, h.2]
  rfl

theorem tyOf_some : ∀ {r : Nat} {s : List UInt8} {T : Ty}, tyOf r s = some T → s = tyB T ∧ tyD T ≤ r
  | 0, s, T, h => by cases h
  | r + 1, s, T, h => by
    rw [tyOf] at h
    split at h
    · rename_i hs; injection h with h; subst h; exact ⟨hs, by simp [tyD]⟩
    split at h
    · rename_i hs; injection h with h; subst h; exact ⟨hs, by simp [tyD]⟩
    split at h
    · rename_i hs; injection h with h; subst h; exact ⟨hs, by simp [tyD]⟩
    split at h
    · cases h
    split at h
    · rename_i hp
      split at h
      · rename_i hl
        rw [Option.map_eq_some_iff] at h
        obtain ⟨e, he, rfl⟩ := h
        obtain ⟨h1, h2⟩ := tyOf_some he
        have := isPre_split hp hl
        refine ⟨?_, by simp [tyD]; omega⟩
        rw [this, show ([91] : List UInt8).length = 1 from rfl, h1]
        rfl
      · cases h
    split at h
    · rename_i hp
      split at h
      · rename_i hl
        rw [Option.map_eq_some_iff] at h
        obtain ⟨e, he, rfl⟩ := h
        obtain ⟨h1, h2⟩ := tyOf_some he
        have := isPre_split hp hl
        refine ⟨?_, by simp [tyD]; omega⟩
        rw [this, show mI.length = 5 from rfl, h1]
        rfl
      · cases h
    split at h
    · rename_i hp
      split at h
      · rename_i hl
        rw [Option.map_eq_some_iff] at h
        obtain ⟨e, he, rfl⟩ := h
        obtain ⟨h1, h2⟩ := tyOf_some he
        have := isPre_split hp hl
        refine ⟨?_, by simp [tyD]; omega⟩
        rw [this, show mT.length = 6 from rfl, h1]
        rfl
      · cases h
    · cases h

theorem tyB_len : ∀ T : Ty, 3 ≤ (tyB T).length ∧ (tyB T).length ≤ 7 * tyD T
  | .int => by simp [tyB, tyD, intB]
  | .bool => by simp [tyB, tyD, boolB]
  | .text => by simp [tyB, tyD, textB]
  | .list e => by have := tyB_len e; simp [tyB, tyD]; omega
  | .mapI e => by have := tyB_len e; simp [tyB, tyD, mI]; omega
  | .mapT e => by have := tyB_len e; simp [tyB, tyD, mT]; omega
theorem tyD_pos (T : Ty) : 1 ≤ tyD T := by cases T <;> simp [tyD]

theorem tyOf_tyB : ∀ {T : Ty} {r : Nat}, tyD T ≤ r → tyOf r (tyB T) = some T
  | T, 0, h => by have := tyD_pos T; omega
  | .int, r + 1, h => by rw [tyOf, show tyB .int = intB from rfl]; exact if_pos rfl
  | .bool, r + 1, h => by rw [tyOf, show tyB .bool = boolB from rfl, if_neg (by decide)]; exact if_pos rfl
  | .text, r + 1, h => by rw [tyOf, show tyB .text = textB from rfl, if_neg (by decide), if_neg (by decide)]; exact if_pos rfl
  | .list e, r + 1, h => by
    have hl := tyB_len e
    have hr : r ≠ 0 := by have := tyD_pos e; simp only [tyD] at h; omega
    have hb1 : ¬ tyB (.list e) = intB := by simp [tyB, intB]
    have hb2 : ¬ tyB (.list e) = boolB := by simp [tyB, boolB]
    have hb3 : ¬ tyB (.list e) = textB := by simp [tyB, textB]
    have hd : (tyB (.list e)).dropLast = [91] ++ tyB e := by rw [tyB, ← List.cons_append, dropLast_snoc]; rfl
    have hg : (tyB (.list e)).getLast? = some 93 := by rw [tyB, ← List.cons_append, List.getLast?_concat]
    rw [tyOf, if_neg hb1, if_neg hb2, if_neg hb3, if_neg (by rw [tyB]; simp [hr]), hd, if_pos (isPre_append _ _), if_pos hg]
    have : mid 1 (tyB (.list e)) = tyB e := by rw [mid, hd]; rfl
    rw [this, tyOf_tyB (by simp only [tyD] at h; omega)]
    rfl
  | .mapI e, r + 1, h => by
    have hl := tyB_len e
    have hr : r ≠ 0 := by have := tyD_pos e; simp only [tyD] at h; omega
    have hb1 : ¬ tyB (.mapI e) = intB := by simp [tyB, intB, mI]
    have hb2 : ¬ tyB (.mapI e) = boolB := by simp [tyB, boolB, mI]
    have hb3 : ¬ tyB (.mapI e) = textB := by simp [tyB, textB, mI]
    have hd : (tyB (.mapI e)).dropLast = mI ++ tyB e := by rw [tyB, dropLast_snoc]
    have hg : (tyB (.mapI e)).getLast? = some 125 := by rw [tyB, List.getLast?_concat]
    have hp : ¬ isPre [91] (tyB (.mapI e)).dropLast = true := by rw [hd]; simp [isPre, mI]
    rw [tyOf, if_neg hb1, if_neg hb2, if_neg hb3, if_neg (by rw [tyB]; simp [hr, mI]), if_neg hp, hd, if_pos (isPre_append _ _), if_pos hg]
    have : mid 5 (tyB (.mapI e)) = tyB e := by rw [mid, hd]; rfl
    rw [this, tyOf_tyB (by simp only [tyD] at h; omega)]
    rfl
  | .mapT e, r + 1, h => by
    have hl := tyB_len e
    have hr : r ≠ 0 := by have := tyD_pos e; simp only [tyD] at h; omega
    have hb1 : ¬ tyB (.mapT e) = intB := by simp [tyB, intB, mT]
    have hb2 : ¬ tyB (.mapT e) = boolB := by simp [tyB, boolB, mT]
    have hb3 : ¬ tyB (.mapT e) = textB := by simp [tyB, textB, mT]
    have hd : (tyB (.mapT e)).dropLast = mT ++ tyB e := by rw [tyB, dropLast_snoc]
    have hg : (tyB (.mapT e)).getLast? = some 125 := by rw [tyB, List.getLast?_concat]
    have hp : ¬ isPre [91] (tyB (.mapT e)).dropLast = true := by rw [hd]; simp [isPre, mT]
    have hp2 : ¬ isPre mI (tyB (.mapT e)).dropLast = true := by rw [hd]; simp [isPre, mT, mI]
    rw [tyOf, if_neg hb1, if_neg hb2, if_neg hb3, if_neg (by rw [tyB]; simp [hr, mT]), if_neg hp, if_neg hp2, hd, if_pos (isPre_append _ _), if_pos hg]
    have : mid 6 (tyB (.mapT e)) = tyB e := by rw [mid, hd]; rfl
    rw [this, tyOf_tyB (by simp only [tyD] at h; omega)]
    rfl
theorem tyOf_iff {r : Nat} {s : List UInt8} {T : Ty} : tyOf r s = some T ↔ s = tyB T ∧ tyD T ≤ r :=
  ⟨tyOf_some, fun ⟨h1, h2⟩ => by rw [h1]; exact tyOf_tyB h2⟩
theorem tyB_inj {T U : Ty} (h : tyB T = tyB U) : T = U := by
  have h1 := tyOf_tyB (T := T) (r := max (tyD T) (tyD U)) (Nat.le_max_left _ _)
  rw [h, tyOf_tyB (Nat.le_max_right _ _)] at h1
  injection h1 with h1
  exact h1.symm
end Go.Proofs.Ytlimedbanpfkgaa.Q
