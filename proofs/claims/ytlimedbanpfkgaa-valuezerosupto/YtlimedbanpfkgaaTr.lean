import Derived.Test.YtlimedbanpfkgaaTq
import Derived.Test.YtlimedbanpfkgaaTl
set_option linter.unusedVariables false
set_option linter.unusedSimpArgs false
set_option maxRecDepth 100000
namespace Go.Proofs.Ytlimedbanpfkgaa.Q
open Go Go.RowKit Go.Proofs

theorem toNat_ofNat_lt {n : Nat} (h : n < 256) : (UInt8.ofNat n).toNat = n := by rw [UInt8.toNat_ofNat']; omega

theorem putN_big {x : Nat} (h : 127 < x) : putN x = UInt8.ofNat (x % 128 + 128) :: putN (x / 128) := by rw [putN, dif_pos h]
theorem putN_small {x : Nat} (h : ¬ 127 < x) : putN x = [UInt8.ofNat x] := by rw [putN, dif_neg h]

theorem putN_pos (x : Nat) : 0 < (putN x).length := by
  by_cases h : 127 < x
  · rw [putN_big h]; simp
  · rw [putN_small h]; simp

theorem putN_zero (x : Nat) (h : 0 < x) : ((putN x).getD ((putN x).length - 1) 0).toNat ≠ 0 := by
  induction x using Nat.strongRecOn with
  | _ x ih =>
    by_cases hx : 127 < x
    · have h1 := ih (x / 128) (by omega) (by omega)
      have h2 := putN_pos (x / 128)
      rw [putN_big hx]
      obtain ⟨k, hk⟩ : ∃ k, (putN (x / 128)).length = k + 1 := ⟨(putN (x / 128)).length - 1, by omega⟩
      rw [hk] at h1
      simp only [List.length_cons, hk, Nat.add_sub_cancel, List.getD_cons_succ] at h1 ⊢
      exact h1
    · rw [putN_small hx]
      simp only [List.length_singleton, Nat.sub_self, List.getD_cons_zero]
      rw [toNat_ofNat_lt (by omega)]
      omega

theorem valN_putN (x : Nat) : valN (putN x) = x := by
  induction x using Nat.strongRecOn with
  | _ x ih =>
    by_cases hx : 127 < x
    · rw [putN_big hx]
      simp only [valN]
      rw [ih (x / 128) (by omega), toNat_ofNat_lt (by omega)]
      omega
    · rw [putN_small hx]
      simp only [valN]
      rw [toNat_ofNat_lt (by omega)]
      omega

theorem runN_putN (x : Nat) (l : List UInt8) : runN (putN x ++ l) + 1 = (putN x).length := by
  induction x using Nat.strongRecOn with
  | _ x ih =>
    by_cases hx : 127 < x
    · rw [putN_big hx]
      simp only [List.cons_append, runN, List.length_cons]
      rw [toNat_ofNat_lt (by omega), if_pos (by omega), ih (x / 128) (by omega)]
    · rw [putN_small hx]
      simp only [List.cons_append, runN, List.length_cons, List.nil_append]
      rw [toNat_ofNat_lt (by omega), if_neg (by omega)]
      simp

theorem takeS_putN {x : Nat} (hx : x < 2 ^ 63) (l : List UInt8) : takeS (putN x ++ l) = (x, (putN x).length) := by
  have h1 := runN_putN x l
  have h2 := putN_len x 8 (by omega)
  have h3 : (putN x ++ l).take (runN (putN x ++ l) + 1) = putN x := by rw [h1]; simp
  unfold takeS
  rw [if_neg, h3, valN_putN, h1]
  simp only [not_or, Nat.not_le, not_and]
  refine ⟨by rw [List.length_append]; omega, by omega, fun h0 hz => ?_⟩
  have hx0 : 0 < x := by
    rcases Nat.eq_zero_or_pos x with e | e
    · subst e
      have h9 : (putN 0).length = 1 := by rw [putN_small (x := 0) (by omega)]; rfl
      omega
    · exact e
  have hlt : runN (putN x ++ l) < (putN x).length := by omega
  have hg : (putN x ++ l).getD (runN (putN x ++ l)) 0 = (putN x).getD ((putN x).length - 1) 0 := by
    rw [List.getD_eq_getElem?_getD, List.getElem?_append_left hlt, List.getD_eq_getElem?_getD, show (putN x).length - 1 = runN (putN x ++ l) from by omega]
  exact putN_zero x hx0 (by rw [← hg]; exact hz)

theorem putN_inj {x y : Nat} (h : putN x = putN y) : x = y := by rw [← valN_putN x, h, valN_putN]

theorem putN_prefix {x y : Nat} (hx : x < 2 ^ 63) (hy : y < 2 ^ 63) (h : putN x <+: putN y) : x = y := by
  obtain ⟨l, h⟩ := h
  have h1 := takeS_putN hx l
  have h2 := takeS_putN hy []
  rw [List.append_nil, ← h, h1] at h2
  exact congrArg (·.1) h2

theorem putN_mono {x y : Nat} (h : x ≤ y) : (putN x).length ≤ (putN y).length := by
  induction y using Nat.strongRecOn generalizing x with
  | _ y ih =>
    by_cases hy : 127 < y
    · rw [putN_big hy]
      by_cases hx : 127 < x
      · rw [putN_big hx]
        simp only [List.length_cons]
        have := ih (y / 128) (by omega) (x := x / 128) (by omega)
        omega
      · rw [putN_small hx]
        simp
    · rw [putN_small hy, putN_small (by omega)]
      simp

/-- What is taken are the very bytes that Put makes. -/
theorem putN_valN : ∀ (l : List UInt8), runN l < l.length → (0 < runN l → (l.getD (runN l) 0).toNat ≠ 0) → putN (valN (l.take (runN l + 1))) = l.take (runN l + 1)
  | [], h, _ => by simp at h
  | b :: l, h, hz => by
    by_cases hb : 127 < b.toNat
    · simp only [runN, hb, if_true] at h hz ⊢
      simp only [List.length_cons] at h
      have hlast : (l.getD (runN l) 0).toNat ≠ 0 := by simpa using hz (by omega)
      have ih := putN_valN l (by omega) (fun _ => hlast)
      have hlt := runN_at (bs := l) (by omega)
      simp only [List.take_succ_cons, valN]
      have hpos : 0 < valN (l.take (runN l + 1)) := by
        rw [valN_take_succ (by omega)]
        have hp : 0 < 128 ^ runN l := Nat.pow_pos (by omega)
        have hg : l.getD (runN l) 0 = l[runN l]'(by omega) := by
          rw [List.getD_eq_getElem?_getD, List.getElem?_eq_getElem (by omega)]
          rfl
        rw [hg] at hlast
        have : 0 < (l[runN l]'(by omega)).toNat % 128 := by omega
        have := Nat.mul_pos hp this
        omega
      have hbl := b.toNat_lt
      rw [putN_big (by omega)]
      have e1 : (b.toNat % 128 + 128 * valN (l.take (runN l + 1))) / 128 = valN (l.take (runN l + 1)) := by omega
      have e2 : UInt8.ofNat ((b.toNat % 128 + 128 * valN (l.take (runN l + 1))) % 128 + 128) = b := by
        apply UInt8.toNat_inj.1
        rw [toNat_ofNat_lt (by omega)]
        omega
      rw [e1, e2, ih]
    · simp only [runN, hb, if_false] at h hz ⊢
      simp only [Nat.zero_add, List.take_succ_cons, List.take_zero, valN]
      have hbl := b.toNat_lt
      rw [putN_small (by omega)]
      congr 1
      apply UInt8.toNat_inj.1
      rw [toNat_ofNat_lt (by omega)]
      omega

theorem takeS_back {l : List UInt8} (h : (takeS l).2 ≠ 0) : putN (takeS l).1 = l.take (takeS l).2 := by
  unfold takeS at h ⊢
  split at h
  · simp at h
  · rename_i hc
    rw [if_neg hc]
    simp only [not_or, Nat.not_le, not_and] at hc
    exact putN_valN l hc.1 hc.2.2
end Go.Proofs.Ytlimedbanpfkgaa.Q
