import Derived.Test.YtmcadfejkcpblaaTk
set_option linter.unusedVariables false
set_option linter.unusedSimpArgs false
set_option maxRecDepth 100000
namespace Go.Proofs.Ytmcadfejkcpblaa.Q
open Go Go.RowKit Go.Proofs

def I13a (v : V) (σ : St) (bs : List UInt8) : Nat → (Nat → V) → St → Prop := fun i e σ' => σ' = σ ∧ e 0 = v ∧ e 4 = .int .i64 i ∧ i ≤ runN bs
def I13b (v : V) (σ : St) (bs : List UInt8) : Nat → (Nat → V) → St → Prop := fun j e σ' => σ' = σ ∧ e 0 = v ∧ e 4 = .int .i64 (runN bs : Nat) ∧ e 6 = .int .i64 ((j : Int) - 1) ∧ e 5 = .int .i64 (valN ((bs.take (runN bs + 1)).drop j) : Nat) ∧ j ≤ runN bs + 1

theorem valN_drop {l : List UInt8} {k : Nat} (h : k < l.length) : valN (l.drop k) = valN (l.drop (k + 1)) * 128 + l[k].toNat % 128 := by
  rw [List.drop_eq_getElem_cons h]
  simp only [valN]
  omega

theorem take2_loop {v : V} {bs : List UInt8} (hv : BtsV v bs) (hlen : bs.length ≤ maxLen) {σ : St} (hn : runN bs < bs.length) (h9 : runN bs < 9) {R : VRes → St → Prop} (hR : R (.ret (.tuple [.int .i64 (valN (bs.take (runN bs + 1)) : Nat), .int .i64 (runN bs + 1 : Nat)])) σ) {e : Nat → V} {j : Nat} (h : I13b v σ bs j e σ) :
    Ev Try.prog prims 56 (.loop k13_l1) e σ (blockK 2 (seqC Try.prog prims 56 ((CC.region k13_r11).seq CC.ret) (fnK Try.prog 56 [ResultVar.tmp 2, ResultVar.tmp 3] R))) := by
  have hml : maxLen = 9223372036854775807 := by simp [maxLen, IntKind.max, IntKind.bits]
  refine Ev.loop' (I13b v σ bs) (fun i => i) j h ?_
  rintro j e σ' ⟨rfl, h0, h4, h6, h5, hj⟩
  have hwn : IntKind.i64.wrap ((runN bs : Int) + 1) = ((runN bs + 1 : Nat) : Int) := by rw [show ((runN bs : Int) + 1) = ((runN bs + 1 : Nat) : Int) from by omega]; exact wrap_nat (by omega)
  cases j with
  | zero =>
    simp only [k13_a, WK, vop, evAll, evOpt, evParts, vbuiltin, vun, vextract, Nat.reduceLT, Nat.reduceEqDiff, ↓reduceIte, reduceCtorEq, Nat.reduceAdd, Int.reduceLT, Int.reduceNeg, valloc_std, noSB, vhot, h0, h4, h6, h5, Int.natCast_zero, Int.zero_sub, Int.reduceLE, hwn, List.drop_zero]
    exact hR
  | succ k =>
    have h6' : e 6 = .int .i64 (k : Int) := by rw [h6]; congr 1; omega
    have hk : k < bs.length := by omega
    have hk' : (k : Int) < bs.length := by omega
    have hkt : k < (bs.take (runN bs + 1)).length := by rw [List.length_take]; omega
    have hd := valN_drop hkt
    have hb1 := valN_lt ((bs.take (runN bs + 1)).drop (k + 1))
    have hb2 := valN_lt ((bs.take (runN bs + 1)).drop k)
    have hl1 : ((bs.take (runN bs + 1)).drop (k + 1)).length ≤ 8 := by rw [List.length_drop, List.length_take]; omega
    have hl2 : ((bs.take (runN bs + 1)).drop k).length ≤ 9 := by rw [List.length_drop, List.length_take]; omega
    have hp1 : 128 ^ ((bs.take (runN bs + 1)).drop (k + 1)).length ≤ 128 ^ 8 := Nat.pow_le_pow_right (by omega) hl1
    have hp2 : 128 ^ ((bs.take (runN bs + 1)).drop k).length ≤ 128 ^ 9 := Nat.pow_le_pow_right (by omega) hl2
    have hget : (bs.take (runN bs + 1))[k] = bs[k] := by simp
    rw [hget] at hd
    have hw1 : IntKind.i64.wrap ((valN ((bs.take (runN bs + 1)).drop (k + 1)) : Int) * 128) = ((valN ((bs.take (runN bs + 1)).drop (k + 1)) * 128 : Nat) : Int) := by
      rw [show ((valN ((bs.take (runN bs + 1)).drop (k + 1)) : Int) * 128) = ((valN ((bs.take (runN bs + 1)).drop (k + 1)) * 128 : Nat) : Int) from by omega]
      exact wrap_nat (by omega)
    have hb256 := bs[k].toNat_lt
    have hc1 : IntKind.i64.wrap ((bs[k].toNat : Nat) : Int) = (bs[k].toNat : Nat) := wrap_nat (by omega)
    have hrem : Int.tmod ((bs[k].toNat : Nat) : Int) 128 = ((bs[k].toNat % 128 : Nat) : Int) := by rfl
    have hw2 : IntKind.i64.wrap (((valN ((bs.take (runN bs + 1)).drop (k + 1)) * 128 : Nat) : Int) + ((bs[k].toNat % 128 : Nat) : Int)) = ((valN ((bs.take (runN bs + 1)).drop k) : Nat) : Int) := by
      rw [hd, ← Int.natCast_add]
      exact wrap_nat (by omega)
    have hw3 : IntKind.i64.wrap ((k : Int) - 1) = (k : Int) - 1 := wrap_i64 (by omega) (by omega)
    have h0k : (0 : Int) ≤ k := by omega
    simp only [k13_a, WK, vop, evAll, evOpt, evParts, vbuiltin, vun, vextract, Nat.reduceLT, Nat.reduceEqDiff, ↓reduceIte, reduceCtorEq, Nat.reduceAdd, Int.reduceLT, Int.reduceNeg, valloc_std, noSB, vhot, h0, h4, h6', h5, hv.addr T22 S5 h0k hk', BtsV.load G5 hk, Int.toNat_natCast, h0k, hw1, hc1, hrem, hw2, hw3, vconv, T5, T3, Int.reduceEq]
    refine ⟨k, ⟨rfl, ?_⟩, by omega⟩
    simp only [upd_some, Nat.reduceEqDiff, ↓reduceIte, h0, h4, true_and]
    omega

theorem take2_does {v : V} {bs : List UInt8} (hv : BtsV v bs) (hlen : bs.length ≤ maxLen) (σ : St) : Does Try.prog prims 13 [v] σ (.ret (.tuple [.int .i64 ((takeS bs).1 : Nat), .int .i64 ((takeS bs).2 : Nat)])) σ := by
  apply k13_is.ret (by simp)
  have hrl := runN_len bs
  have hml : maxLen = 9223372036854775807 := by simp [maxLen, IntKind.max, IntKind.bits]
  simp only [k13_a, WK, vop, evAll, evOpt, evParts, vbuiltin, vun, vextract, Nat.reduceLT, Nat.reduceEqDiff, ↓reduceIte, reduceCtorEq, Nat.reduceAdd, Int.reduceLT, Int.reduceNeg, valloc_std, noSB, vhot]
  refine Ev.loop' (I13a v σ bs) (fun i => bs.length - i) 0 ?_ ?_
  · simp [I13a, upd_some]
  · rintro i e σ' ⟨rfl, h0, h4, hi1⟩
    by_cases h1 : i < bs.length
    · have h1' : (i : Int) < bs.length := Int.ofNat_lt.2 h1
      have h1n : ¬ (bs.length : Int) ≤ i := by omega
      have hwi : IntKind.i64.wrap ((i : Int) + 1) = ((i + 1 : Nat) : Int) := by rw [show ((i : Int) + 1) = ((i + 1 : Nat) : Int) from by omega]; exact wrap_nat (by omega)
      have hrun := runN_lt hi1 h1
      by_cases h3 : 127 < bs[i].toNat
      · have h3' : (128 : Int) ≤ bs[i].toNat := by omega
        simp only [k13_a, WK, vop, evAll, evOpt, evParts, vbuiltin, vun, vextract, Nat.reduceLT, Nat.reduceEqDiff, ↓reduceIte, reduceCtorEq, Nat.reduceAdd, Int.reduceLT, Int.reduceNeg, valloc_std, noSB, vhot, h0, h4, hv.len T22, hv.addr T22 S5 (Int.natCast_nonneg i) h1', BtsV.load G5 h1, h1', h3', Int.toNat_natCast, hwi]
        refine ⟨i + 1, ⟨rfl, ?_⟩, by omega⟩
        simp only [upd_some, Nat.reduceEqDiff, ↓reduceIte, h0, true_and]
        have := hrun.1 h3
        omega
      · have h3' : ¬ (128 : Int) ≤ bs[i].toNat := by omega
        have hri : i = runN bs := by
          have : ¬ i < runN bs := fun h => h3 (hrun.2 h)
          omega
        have hget : bs.getD (runN bs) 0 = bs[i] := by
          rw [← hri, List.getD_eq_getElem?_getD, List.getElem?_eq_getElem h1]
          rfl
        by_cases h9 : i < 9
        · have h9' : ¬ (9 : Int) ≤ i := by omega
          by_cases h5z : 0 < i
          · have h5' : (0 : Int) < i := by omega
            by_cases h4z : bs[i].toNat = 0
            · have hz : decide (((bs[i].toNat : Nat) : Int) = 0) = true := by simp [h4z]
              simp only [k13_a, WK, vop, evAll, evOpt, evParts, vbuiltin, vun, vextract, Nat.reduceLT, Nat.reduceEqDiff, ↓reduceIte, reduceCtorEq, Nat.reduceAdd, Int.reduceLT, Int.reduceNeg, valloc_std, noSB, vhot, h0, h4, hv.len T22, hv.addr T22 S5 (Int.natCast_nonneg i) h1', BtsV.load G5 h1, h1', h1n, h3', h9', h5', hz, Int.toNat_natCast, hwi]
              have : takeS bs = (0, 0) := by unfold takeS; rw [if_pos (.inr (.inr ⟨by omega, by rw [hget]; exact h4z⟩))]
              simp [this]
            · have hz : decide (((bs[i].toNat : Nat) : Int) = 0) = false := by simp only [decide_eq_false_iff_not]; omega
              simp only [k13_a, WK, vop, evAll, evOpt, evParts, vbuiltin, vun, vextract, Nat.reduceLT, Nat.reduceEqDiff, ↓reduceIte, reduceCtorEq, Nat.reduceAdd, Int.reduceLT, Int.reduceNeg, valloc_std, noSB, vhot, h0, h4, hv.len T22, hv.addr T22 S5 (Int.natCast_nonneg i) h1', BtsV.load G5 h1, h1', h1n, h3', h9', h5', hz, Int.toNat_natCast, hwi]
              have ht : takeS bs = (valN (bs.take (runN bs + 1)), runN bs + 1) := by unfold takeS; rw [if_neg (by rw [hget]; omega)]
              exact take2_loop hv hlen (by omega) (by omega) ⟨by rw [ht], rfl⟩ (j := i + 1) ⟨rfl, by simp [upd_some, h0], by simp [upd_some, ← hri, h4], by simp [upd_some], by simp [upd_some, ← hri, valN], by omega⟩
          · have h5' : ¬ (0 : Int) < i := by omega
            simp only [k13_a, WK, vop, evAll, evOpt, evParts, vbuiltin, vun, vextract, Nat.reduceLT, Nat.reduceEqDiff, ↓reduceIte, reduceCtorEq, Nat.reduceAdd, Int.reduceLT, Int.reduceNeg, valloc_std, noSB, vhot, h0, h4, hv.len T22, hv.addr T22 S5 (Int.natCast_nonneg i) h1', BtsV.load G5 h1, h1', h1n, h3', h9', h5', Int.toNat_natCast, hwi]
            have ht : takeS bs = (valN (bs.take (runN bs + 1)), runN bs + 1) := by unfold takeS; rw [if_neg (by rw [hget]; omega)]
            exact take2_loop hv hlen (by omega) (by omega) ⟨by rw [ht], rfl⟩ (j := i + 1) ⟨rfl, by simp [upd_some, h0], by simp [upd_some, ← hri, h4], by simp [upd_some], by simp [upd_some, ← hri, valN], by omega⟩
        · have h9' : (9 : Int) ≤ i := by omega
          simp only [k13_a, WK, vop, evAll, evOpt, evParts, vbuiltin, vun, vextract, Nat.reduceLT, Nat.reduceEqDiff, ↓reduceIte, reduceCtorEq, Nat.reduceAdd, Int.reduceLT, Int.reduceNeg, valloc_std, noSB, vhot, h0, h4, hv.len T22, hv.addr T22 S5 (Int.natCast_nonneg i) h1', BtsV.load G5 h1, h1', h1n, h3', h9', Int.toNat_natCast, hwi]
          have : takeS bs = (0, 0) := by unfold takeS; rw [if_pos (by omega)]
          simp [this]
    · have h1' : ¬ (i : Int) < bs.length := by omega
      have h1n : (bs.length : Int) ≤ i := by omega
      simp only [k13_a, WK, vop, evAll, evOpt, evParts, vbuiltin, vun, vextract, Nat.reduceLT, Nat.reduceEqDiff, ↓reduceIte, reduceCtorEq, Nat.reduceAdd, Int.reduceLT, Int.reduceNeg, valloc_std, noSB, vhot, h0, h4, hv.len T22, h1', h1n]
      have : takeS bs = (0, 0) := by unfold takeS; rw [if_pos (by omega)]
      simp [this]
end Go.Proofs.Ytmcadfejkcpblaa.Q
