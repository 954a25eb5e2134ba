import Derived.Test.YtmcadfejkcpblaaTa
set_option linter.unusedVariables false
set_option linter.unusedSimpArgs false
set_option maxRecDepth 100000
namespace Go.Proofs.Ytmcadfejkcpblaa.Q
open Go Go.RowKit Go.Proofs

def valN : List UInt8 → Nat
  | [] => 0
  | b :: bs => b.toNat % 128 + 128 * valN bs

def runN : List UInt8 → Nat
  | [] => 0
  | b :: bs => if 127 < b.toNat then runN bs + 1 else 0

def takeS (bs : List UInt8) : Nat × Nat :=
  if bs.length ≤ runN bs ∨ 9 ≤ runN bs ∨ (0 < runN bs ∧ (bs.getD (runN bs) 0).toNat = 0) then (0, 0) else (valN (bs.take (runN bs + 1)), runN bs + 1)

theorem valN_append (a b : List UInt8) : valN (a ++ b) = valN a + 128 ^ a.length * valN b := by
  induction a with
  | nil => simp [valN]
  | cons x a ih => simp only [List.cons_append, valN, ih, List.length_cons, Nat.pow_succ]; rw [Nat.mul_add, ← Nat.mul_assoc, Nat.mul_comm 128 (128 ^ a.length)]; omega

theorem valN_lt (a : List UInt8) : valN a < 128 ^ a.length := by
  induction a with
  | nil => simp [valN]
  | cons x a ih => simp only [valN, List.length_cons, Nat.pow_succ]; omega

theorem valN_take_succ {bs : List UInt8} {i : Nat} (h : i < bs.length) : valN (bs.take (i + 1)) = valN (bs.take i) + 128 ^ i * (bs[i].toNat % 128) := by
  rw [List.take_succ_eq_append_getElem h, valN_append]
  simp [valN, Nat.min_eq_left (Nat.le_of_lt h)]

theorem runN_ge {bs : List UInt8} : ∀ {i : Nat}, i ≤ runN bs → ∀ j (h : j < bs.length), j < i → 127 < bs[j].toNat := by
  induction bs with
  | nil => intro i _ j h; simp at h
  | cons b bs ih =>
    intro i hi j h hj
    simp only [runN] at hi
    split at hi
    · cases j with
      | zero => simpa
      | succ j => simpa using ih (i := i - 1) (by omega) j (by simpa using h) (by omega)
    · omega

theorem runN_len (bs : List UInt8) : runN bs ≤ bs.length := by
  induction bs with
  | nil => simp [runN]
  | cons b bs ih => simp only [runN, List.length_cons]; split <;> omega

theorem runN_at {bs : List UInt8} : (h : runN bs < bs.length) → bs[runN bs].toNat ≤ 127 := by
  induction bs with
  | nil => intro h; simp at h
  | cons b bs ih =>
    intro h
    by_cases hb : 127 < b.toNat
    · simp only [runN, hb, if_true] at h ⊢
      exact ih (by simpa using h)
    · simp only [runN, hb, if_false] at h ⊢
      simpa using hb

theorem runN_lt {bs : List UInt8} {i : Nat} (hi : i ≤ runN bs) (h : i < bs.length) : 127 < bs[i].toNat ↔ i < runN bs := by
  constructor
  · intro hb
    rcases Nat.lt_or_ge i (runN bs) with h1 | h1
    · exact h1
    · have he : i = runN bs := by omega
      subst he
      have := runN_at h
      omega
  · intro h1
    exact runN_ge (i := i + 1) (by omega) i h (by omega)

theorem and127 : ∀ b : UInt8, bitOp .and .u8 (b.toNat : Int) 127 = some ((b.toNat % 128 : Nat) : Int) := by
  intro b
  have : ∀ n : Nat, n < 256 → bitOp .and .u8 (n : Int) 127 = some ((n % 128 : Nat) : Int) := by decide +kernel
  exact this _ b.toNat_lt

theorem or_i64 {a c s : Nat} (ha : a < 2 ^ s) (hc : c * 2 ^ s + a < 2 ^ 63) : bitOp .or .i64 (a : Int) ((c * 2 ^ s : Nat) : Int) = some ((a + c * 2 ^ s : Nat) : Int) := by
  have h1 : a ||| c * 2 ^ s = a + c * 2 ^ s := by
    have := Nat.shiftLeft_add_eq_or_of_lt ha c
    rw [Nat.shiftLeft_eq] at this
    rw [Nat.or_comm, ← this, Nat.add_comm]
  simp only [bitOp, IntKind.bits]
  congr 1
  have h2 : (BitVec.ofInt 64 (a : Int) ||| BitVec.ofInt 64 ((c * 2 ^ s : Nat) : Int)).toNat = a + c * 2 ^ s := by
    rw [BitVec.toNat_or, BitVec.ofInt_natCast, BitVec.ofInt_natCast, BitVec.toNat_ofNat, BitVec.toNat_ofNat, Nat.mod_eq_of_lt (by omega), Nat.mod_eq_of_lt (by omega), h1]
  exact (congrArg (fun n : Nat => IntKind.i64.wrap (n : Int)) h2).trans (wrap_i64 (by omega) (by omega))

def I12 (v : V) (σ : St) (bs : List UInt8) : Nat → (Nat → V) → St → Prop := fun i e σ' => σ' = σ ∧ e 0 = v ∧ e 5 = .int .i64 i ∧ e 4 = .int .i64 (valN (bs.take i) : Nat) ∧ i ≤ runN bs ∧ i ≤ 9


theorem take_does {v : V} {bs : List UInt8} (hv : BtsV v bs) (hlen : bs.length ≤ maxLen) (σ : St) : Does Try.prog prims 12 [v] σ (.ret (.tuple [.int .i64 ((takeS bs).1 : Nat), .int .i64 ((takeS bs).2 : Nat)])) σ := by
  apply k12_is.ret (by simp)
  have hrl := runN_len bs
  simp only [k12_a, WK, vop, evAll, evOpt, evParts, vbuiltin, vun, vextract, Nat.reduceLT, Nat.reduceEqDiff, ↓reduceIte, reduceCtorEq, Nat.reduceAdd, Int.reduceLT, Int.reduceNeg, valloc_std, noSB, vhot]
  refine Ev.loop' (I12 v σ bs) (fun i => 9 - i) 0 ?_ ?_
  · simp [I12, upd_some, valN]
  · rintro i e σ' ⟨rfl, h0, h5, h4, hi1, hi2⟩
    by_cases h1 : i < bs.length
    · have h1' : (i : Int) < bs.length := Int.ofNat_lt.2 h1
      by_cases h2 : i < 9
      · have h2' : (i : Int) < 9 := by omega
        have hn : ¬ (7 * (i : Int) < 0) := by omega
        have hw1 : IntKind.i64.wrap (7 * (i : Int)) = 7 * (i : Int) := wrap_i64 (by omega) (by omega)
        have ht : (7 * (i : Int)).toNat = 7 * i := by omega
        have hm : min (7 * i) IntKind.i64.bits = 7 * i := by simp only [IntKind.bits]; omega
        have hp : 128 ^ i = 2 ^ (7 * i) := by rw [Nat.pow_mul]
        have hpow : 2 ^ (7 * i) ≤ 2 ^ 56 := Nat.pow_le_pow_right (by omega) (by omega)
        have hlt := valN_lt (bs.take i)
        rw [List.length_take, Nat.min_eq_left (Nat.le_of_lt h1), hp] at hlt
        have hm128 : bs[i].toNat % 128 ≤ 127 := by omega
        have hmul : bs[i].toNat % 128 * 2 ^ (7 * i) ≤ 127 * 2 ^ 56 := Nat.mul_le_mul hm128 hpow
        have hc1 : IntKind.i64.wrap ((bs[i].toNat % 128 : Nat) : Int) = (bs[i].toNat % 128 : Nat) := wrap_nat (by omega)
        have hc2 : IntKind.i64.wrap (((bs[i].toNat % 128 : Nat) : Int) * 2 ^ (7 * i)) = ((bs[i].toNat % 128 * 2 ^ (7 * i) : Nat) : Int) := by
          have : ((bs[i].toNat % 128 : Nat) : Int) * 2 ^ (7 * i) = ((bs[i].toNat % 128 * 2 ^ (7 * i) : Nat) : Int) := by rw [Int.natCast_mul, Int.natCast_pow]; rfl
          rw [this]; exact wrap_nat (by omega)
        have hor := or_i64 (a := valN (bs.take i)) (c := bs[i].toNat % 128) hlt (by omega)
        have hval := valN_take_succ h1
        rw [hp, Nat.mul_comm (2 ^ (7 * i))] at hval
        rw [← hval] at hor
        have hwi : IntKind.i64.wrap ((i : Int) + 1) = ((i + 1 : Nat) : Int) := by rw [show ((i : Int) + 1) = ((i + 1 : Nat) : Int) from by omega]; exact wrap_nat (by omega)
        have hrun := runN_lt hi1 h1
        by_cases h3 : 127 < bs[i].toNat
        · have h3' : (127 : Int) < bs[i].toNat := Int.ofNat_lt.2 h3
          simp only [k12_a, WK, vop, evAll, evOpt, evParts, vbuiltin, vun, vextract, Nat.reduceLT, Nat.reduceEqDiff, ↓reduceIte, reduceCtorEq, Nat.reduceAdd, Int.reduceLT, Int.reduceNeg, valloc_std, noSB, vhot, h0, h5, h4, hv.len T22, hv.addr T22 S5 (Int.natCast_nonneg i) h1', BtsV.load G5 h1, h1', h2', h3', Int.toNat_natCast, and127, vconv, T5, T3, hc1, hw1, hn, ht, hm, hc2, hor, hwi]
          refine ⟨i + 1, ⟨rfl, ?_⟩, by omega⟩
          simp only [upd_some, Nat.reduceEqDiff, ↓reduceIte, h0, true_and]
          exact ⟨by have := hrun.1 h3; omega, by omega⟩
        · have h3' : ¬ (127 : Int) < bs[i].toNat := fun h => h3 (Int.ofNat_lt.1 h)
          have hri : i = runN bs := by
            have : ¬ i < runN bs := fun h => h3 (hrun.2 h)
            omega
          have hget : bs.getD (runN bs) 0 = bs[i] := by
            rw [← hri, List.getD_eq_getElem?_getD, List.getElem?_eq_getElem h1]
            rfl
          by_cases h4z : bs[i].toNat = 0
          · have hz : decide (((bs[i].toNat : Nat) : Int) = 0) = true := by simp [h4z]
            by_cases h5z : 0 < i
            · have h5' : (0 : Int) < i := by omega
              simp only [k12_a, WK, vop, evAll, evOpt, evParts, vbuiltin, vun, vextract, Nat.reduceLT, Nat.reduceEqDiff, ↓reduceIte, reduceCtorEq, Nat.reduceAdd, Int.reduceLT, Int.reduceNeg, valloc_std, noSB, vhot, h5', h0, h5, h4, hv.len T22, hv.addr T22 S5 (Int.natCast_nonneg i) h1', BtsV.load G5 h1, h1', h2', h3', hz, Int.toNat_natCast, and127, vconv, T5, T3, hc1, hw1, hn, ht, hm, hc2, hor, hwi]
              have : takeS bs = (0, 0) := by unfold takeS; rw [if_pos (.inr (.inr ⟨by omega, by rw [hget]; exact h4z⟩))]
              simp [this]
            · have h5' : ¬ (0 : Int) < i := by omega
              simp only [k12_a, WK, vop, evAll, evOpt, evParts, vbuiltin, vun, vextract, Nat.reduceLT, Nat.reduceEqDiff, ↓reduceIte, reduceCtorEq, Nat.reduceAdd, Int.reduceLT, Int.reduceNeg, valloc_std, noSB, vhot, h5', h0, h5, h4, hv.len T22, hv.addr T22 S5 (Int.natCast_nonneg i) h1', BtsV.load G5 h1, h1', h2', h3', hz, Int.toNat_natCast, and127, vconv, T5, T3, hc1, hw1, hn, ht, hm, hc2, hor, hwi]
              have : takeS bs = (valN (bs.take (i + 1)), i + 1) := by unfold takeS; rw [if_neg (by omega), hri]
              simp [this]
          · have hz : decide (((bs[i].toNat : Nat) : Int) = 0) = false := by simp only [decide_eq_false_iff_not]; omega
            simp only [k12_a, WK, vop, evAll, evOpt, evParts, vbuiltin, vun, vextract, Nat.reduceLT, Nat.reduceEqDiff, ↓reduceIte, reduceCtorEq, Nat.reduceAdd, Int.reduceLT, Int.reduceNeg, valloc_std, noSB, vhot, h0, h5, h4, hv.len T22, hv.addr T22 S5 (Int.natCast_nonneg i) h1', BtsV.load G5 h1, h1', h2', h3', hz, Int.toNat_natCast, and127, vconv, T5, T3, hc1, hw1, hn, ht, hm, hc2, hor, hwi]
            have : takeS bs = (valN (bs.take (i + 1)), i + 1) := by unfold takeS; rw [if_neg (by rw [hget]; omega), hri]
            simp [this]
      · have h2' : ¬ (i : Int) < 9 := by omega
        simp only [k12_a, WK, vop, evAll, evOpt, evParts, vbuiltin, vun, vextract, Nat.reduceLT, Nat.reduceEqDiff, ↓reduceIte, reduceCtorEq, Nat.reduceAdd, Int.reduceLT, Int.reduceNeg, valloc_std, noSB, vhot, h0, h5, h4, hv.len T22, h1', h2']
        have : takeS bs = (0, 0) := by unfold takeS; rw [if_pos (by omega)]
        simp [this]
    · have h1' : ¬ (i : Int) < bs.length := by omega
      simp only [k12_a, WK, vop, evAll, evOpt, evParts, vbuiltin, vun, vextract, Nat.reduceLT, Nat.reduceEqDiff, ↓reduceIte, reduceCtorEq, Nat.reduceAdd, Int.reduceLT, Int.reduceNeg, valloc_std, noSB, vhot, h0, h5, h4, hv.len T22, h1']
      have : takeS bs = (0, 0) := by unfold takeS; rw [if_pos (by omega)]
      simp [this]
theorem takeS_lt (l : List UInt8) : (takeS l).1 < 2 ^ 63 ∧ (takeS l).2 ≤ 9 ∧ (takeS l).2 ≤ l.length := by
  unfold takeS
  split
  · simp
  · rename_i h
    simp only [not_or, Nat.not_le] at h
    have h1 := valN_lt (l.take (runN l + 1))
    have h2 : 128 ^ (l.take (runN l + 1)).length ≤ 128 ^ 9 := Nat.pow_le_pow_right (by omega) (by rw [List.length_take]; omega)
    refine ⟨?_, by omega, by omega⟩
    have : (128 : Nat) ^ 9 = 2 ^ 63 := by decide
    simp only
    omega

theorem takeS_none {l : List UInt8} (h : (takeS l).2 = 0) : (takeS l).1 = 0 := by
  unfold takeS at h ⊢
  split at h
  · rename_i hc; rw [if_pos hc]
  · simp at h
end Go.Proofs.Ytmcadfejkcpblaa.Q
