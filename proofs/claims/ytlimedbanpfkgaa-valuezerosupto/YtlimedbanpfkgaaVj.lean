import Derived.Test.YtlimedbanpfkgaaVi
import Derived.Test.YtlimedbanpfkgaaVe
set_option linter.unusedVariables false
set_option linter.unusedSimpArgs false
namespace Go.Proofs.Ytlimedbanpfkgaa.Q
open Go Go.RowKit Go.Proofs

/-! ### Values without parts -/
def flatV (k n : Int) (t : List UInt8) : Val := .mk k n t []
def flatC (k n : Int) (t : List UInt8) : List V := [.int .i64 k, .int .i64 n, .str t, .nils]
theorem flat_ok {k n : Int} (t : List UInt8) (hk : InI64 k) (hn : InI64 n) : ValC (flatV k n t) (flatC k n t) := .mk hk hn .nil
theorem flat_one (k n : Int) (t : List UInt8) : (flatC k n t).all one = true := rfl
theorem in0 {k : Int} (h : -1000 ≤ k) (h' : k ≤ 1000) : InI64 k := by unfold InI64; omega
theorem BV0 : vbuild Try.prog 24 [] = some (.agg (flatC 0 0 [])) := by kernel_rfl
theorem BVk (k : Int) : vbuild Try.prog 24 [(0, .int .i64 k)] = some (.agg (flatC k 0 [])) := by kernel_rfl
theorem BVn (k n : Int) : vbuild Try.prog 24 [(0, .int .i64 k), (1, .int .i64 n)] = some (.agg (flatC k n [])) := by kernel_rfl
theorem BVt (k : Int) (t : List UInt8) : vbuild Try.prog 24 [(0, .int .i64 k), (2, .str t)] = some (.agg (flatC k 0 t)) := by kernel_rfl

section
variable (σ : St)
/-- The state behind a result's being laid. -/
theorem laid (c : List V) (hc : c.length = 4) (h1 : c.all one = true) : ∃ s2 : St, vstore Try.prog ⟨σ.objs ++ [Ob.cells val0C], σ.toks⟩ 24 (.optr σ.objs.length 0) (.agg c) = some s2 ∧ IsV s2 σ.objs.length c ∧ Keep σ s2 :=
  ⟨_, IsV.new hc rfl h1, IsV.made, (Keep.refl σ).madeV _ _⟩
theorem intv_does (n : Int) : ∃ σ', Does Try.prog prims 16 [.int .i64 n] σ (.ret (.agg (flatC 1 n []))) σ' ∧ Keep σ σ' := by
  obtain ⟨s2, h1, h2, h3⟩ := laid σ (flatC 1 n []) rfl rfl
  refine ⟨s2, ?_, h3⟩
  apply k16_is.ret (by simp)
  simp only [k16_a, WK, vop, evAll, evOpt, evParts, vbuiltin, vun, vextract, Nat.reduceLT, Nat.reduceEqDiff, ↓reduceIte, reduceCtorEq, Nat.reduceAdd, Int.reduceLT, Int.reduceNeg, List.getD_cons_zero, List.getD_cons_succ, VZ24, vbox, vcells, BVn, h1, h2.load (show (flatC 1 n []).length = 4 from rfl)]
theorem textv_does (t : List UInt8) : ∃ σ', Does Try.prog prims 17 [.str t] σ (.ret (.agg (flatC 3 0 t))) σ' ∧ Keep σ σ' := by
  obtain ⟨s2, h1, h2, h3⟩ := laid σ (flatC 3 0 t) rfl rfl
  refine ⟨s2, ?_, h3⟩
  apply k17_is.ret (by simp)
  simp only [k17_a, WK, vop, evAll, evOpt, evParts, vbuiltin, vun, vextract, Nat.reduceLT, Nat.reduceEqDiff, ↓reduceIte, reduceCtorEq, Nat.reduceAdd, Int.reduceLT, Int.reduceNeg, List.getD_cons_zero, List.getD_cons_succ, VZ24, vbox, vcells, BVt, h1, h2.load (show (flatC 3 0 t).length = 4 from rfl)]
theorem boolv_does (b : Bool) : ∃ σ', Does Try.prog prims 14 [.bool b] σ (.ret (.agg (flatC 2 (if b then 1 else 0) []))) σ' ∧ Keep σ σ' := by
  cases b with
  | true =>
    obtain ⟨s2, h1, h2, h3⟩ := laid σ (flatC 2 1 []) rfl rfl
    refine ⟨s2, ?_, h3⟩
    apply k14_is.ret (by simp)
    simp only [k14_a, WK, vop, evAll, evOpt, evParts, vbuiltin, vun, vextract, Nat.reduceLT, Nat.reduceEqDiff, ↓reduceIte, reduceCtorEq, Nat.reduceAdd, Int.reduceLT, Int.reduceNeg, List.getD_cons_zero, List.getD_cons_succ, VZ24, vbox, vcells, BVn, h1, h2.load (show (flatC 2 1 []).length = 4 from rfl)]
  | false =>
    obtain ⟨s2, h1, h2, h3⟩ := laid σ (flatC 2 0 []) rfl rfl
    refine ⟨s2, ?_, h3⟩
    apply k14_is.ret (by simp)
    simp only [k14_a, WK, vop, evAll, evOpt, evParts, vbuiltin, vun, vextract, Nat.reduceLT, Nat.reduceEqDiff, ↓reduceIte, reduceCtorEq, Nat.reduceAdd, Int.reduceLT, Int.reduceNeg, List.getD_cons_zero, List.getD_cons_succ, VZ24, vbox, vcells, BVk, h1, h2.load (show (flatC 2 0 []).length = 4 from rfl)]
theorem flag_does (b : Bool) : Does Try.prog prims 15 [.bool b] σ (.ret (.int .i64 (if b then 1 else 0))) σ := by
  cases b <;>
  · apply k15_is.ret (by simp)
    simp only [k15_a, WK, vop, evAll, evOpt, evParts, vbuiltin, vun, vextract, Nat.reduceLT, Nat.reduceEqDiff, ↓reduceIte, reduceCtorEq, Nat.reduceAdd, Int.reduceLT, Int.reduceNeg, List.getD_cons_zero, List.getD_cons_succ]

/-! ### First values -/
def zeroS (s : List UInt8) : List V := flatC (kindS s) 0 []
theorem zeroS_len (s : List UInt8) : (zeroS s).length = 4 := rfl
theorem kindS_in (s : List UInt8) : 0 ≤ kindS s ∧ kindS s ≤ 5 := by
  unfold kindS
  split
  · rename_i T _; cases T <;> simp [tyK]
  · simp
theorem zeroS_ok (s : List UInt8) : ValC (flatV (kindS s) 0 []) (zeroS s) := flat_ok _ (in0 (by have := kindS_in s; omega) (by have := kindS_in s; omega)) (in0 (by omega) (by omega))

theorem storeN {σ2 : St} {c : List V} {c' : List V} {r : Nat} (h : σ2.objs[r]? = some (.cells c')) (hc : c.length = 4) (hc' : c'.length = 4) (h1 : c.all one = true) : ∃ s2 : St, vstore Try.prog σ2 24 (.optr r 0) (.agg c) = some s2 ∧ IsV s2 r c ∧ KeepX r σ2 s2 :=
  ⟨_, vstore_agg h (by rw [hc]; exact VS24) (by rw [hc, hc']) h1, obj_set h, KeepX.set _ _ _⟩

theorem zero_does (s : List UInt8) (hl : s.length ≤ 4294967296) : ∃ σ', Does Try.prog prims 22 [.str s] σ (.ret (.agg (zeroS s))) σ' ∧ Keep σ σ' := by
  have key : ∃ q σ', Does Try.prog prims 22 [.str s] σ q σ' ∧ q = .ret (.agg (zeroS s)) ∧ Keep σ σ' := by
    apply k22_is.does (by simp)
    obtain ⟨s1, hs1⟩ : ∃ s1 : St, s1 = ⟨σ.objs ++ [Ob.cells val0C], σ.toks⟩ := ⟨_, rfl⟩
    have k1 : Keep σ s1 := by rw [hs1]; exact (Keep.refl σ).push _
    have q1 : s1.objs[σ.objs.length]? = some (.cells val0C) := by rw [hs1]; exact push_new _ _
    simp only [k22_a, WK, vop, evAll, evOpt, evParts, vbuiltin, vun, vextract, Nat.reduceLT, Nat.reduceEqDiff, ↓reduceIte, reduceCtorEq, Nat.reduceAdd, Int.reduceLT, Int.reduceNeg, List.getD_cons_zero, List.getD_cons_succ, ofVal_str, VZ24, vbox, vcells, ← hs1]
    refine KD.ret (type_does s hl s1) ?_
    cases h : tyS s with
    | none =>
      obtain ⟨s2, h1, h2, h3⟩ := storeN q1 (c := flatC 0 0 []) rfl rfl rfl
      simp only [k22_a, WK, vop, evAll, evOpt, evParts, vbuiltin, vun, vextract, Nat.reduceLT, Nat.reduceEqDiff, ↓reduceIte, reduceCtorEq, Nat.reduceAdd, Int.reduceLT, Int.reduceNeg, List.getD_cons_zero, List.getD_cons_succ, ofVal_str, Option.isSome_none, BV0, h1, h2.load (show (flatC 0 0 []).length = 4 from rfl)]
      refine ⟨?_, k1.viaX' h3 (Nat.le_refl _)⟩
      rw [zeroS, kindS, h]
    | some T =>
      obtain ⟨rfl, h4⟩ := tyS_iff.1 h
      obtain ⟨s3, d3, k3⟩ := intv_does s1 0
      obtain ⟨s4, g1, g2, g3⟩ := storeN (k3.1 _ _ q1) (c := flatC 1 0 []) rfl rfl rfl
      obtain ⟨s5, d5, k5⟩ := boolv_does s1 false
      rw [if_neg (by decide)] at d5
      obtain ⟨s6, i1, i2, i3⟩ := storeN (k5.1 _ _ q1) (c := flatC 2 0 []) rfl rfl rfl
      obtain ⟨s7, d7, k7⟩ := textv_does s1 []
      obtain ⟨s8, j1, j2, j3⟩ := storeN (k7.1 _ _ q1) (c := flatC 3 0 []) rfl rfl rfl
      obtain ⟨s9, l1, l2, l3⟩ := storeN q1 (c := flatC 4 0 []) rfl rfl rfl
      obtain ⟨t1, m1, m2, m3⟩ := storeN q1 (c := flatC 5 0 []) rfl rfl rfl
      have hz : zeroS (tyB T) = flatC (tyK T) 0 [] := by rw [zeroS, kindS, h]
      rw [hz]
      cases T with
      | int =>
        have b1 : decide (tyB .int = [105, 110, 116]) = true := rfl
        simp only [k22_a, WK, vop, evAll, evOpt, evParts, vbuiltin, vun, vextract, Nat.reduceLT, Nat.reduceEqDiff, ↓reduceIte, reduceCtorEq, Nat.reduceAdd, Int.reduceLT, Int.reduceNeg, List.getD_cons_zero, List.getD_cons_succ, ofVal_str, Option.isSome_some, strBin, b1]
        refine KD.ret d3 ?_
        simp only [k22_a, WK, vop, evAll, evOpt, evParts, vbuiltin, vun, vextract, Nat.reduceLT, Nat.reduceEqDiff, ↓reduceIte, reduceCtorEq, Nat.reduceAdd, Int.reduceLT, Int.reduceNeg, g1, g2.load (show (flatC 1 0 []).length = 4 from rfl)]
        exact ⟨rfl, (k1.trans k3).viaX' g3 (Nat.le_refl _)⟩
      | bool =>
        have b1 : decide (tyB .bool = [105, 110, 116]) = false := rfl
        have b2 : decide (tyB .bool = [98, 111, 111, 108]) = true := rfl
        simp only [k22_a, WK, vop, evAll, evOpt, evParts, vbuiltin, vun, vextract, Nat.reduceLT, Nat.reduceEqDiff, ↓reduceIte, reduceCtorEq, Nat.reduceAdd, Int.reduceLT, Int.reduceNeg, List.getD_cons_zero, List.getD_cons_succ, ofVal_str, Option.isSome_some, strBin, b1, b2]
        refine KD.ret d5 ?_
        simp only [k22_a, WK, vop, evAll, evOpt, evParts, vbuiltin, vun, vextract, Nat.reduceLT, Nat.reduceEqDiff, ↓reduceIte, reduceCtorEq, Nat.reduceAdd, Int.reduceLT, Int.reduceNeg, i1, i2.load (show (flatC 2 0 []).length = 4 from rfl)]
        exact ⟨rfl, (k1.trans k5).viaX' i3 (Nat.le_refl _)⟩
      | text =>
        have b1 : decide (tyB .text = [105, 110, 116]) = false := rfl
        have b2 : decide (tyB .text = [98, 111, 111, 108]) = false := rfl
        have b3 : decide (tyB .text = [116, 101, 120, 116]) = true := rfl
        simp only [k22_a, WK, vop, evAll, evOpt, evParts, vbuiltin, vun, vextract, Nat.reduceLT, Nat.reduceEqDiff, ↓reduceIte, reduceCtorEq, Nat.reduceAdd, Int.reduceLT, Int.reduceNeg, List.getD_cons_zero, List.getD_cons_succ, ofVal_str, Option.isSome_some, strBin, b1, b2, b3]
        refine KD.ret d7 ?_
        simp only [k22_a, WK, vop, evAll, evOpt, evParts, vbuiltin, vun, vextract, Nat.reduceLT, Nat.reduceEqDiff, ↓reduceIte, reduceCtorEq, Nat.reduceAdd, Int.reduceLT, Int.reduceNeg, j1, j2.load (show (flatC 3 0 []).length = 4 from rfl)]
        exact ⟨rfl, (k1.trans k7).viaX' j3 (Nat.le_refl _)⟩
      | list e =>
        have b1 : decide (tyB (.list e) = [105, 110, 116]) = false := by simp [tyB]
        have b2 : decide (tyB (.list e) = [98, 111, 111, 108]) = false := by simp [tyB]
        have b3 : decide (tyB (.list e) = [116, 101, 120, 116]) = false := by simp [tyB]
        have i0 : vindex Try.prog 9 (.str (tyB (.list e))) (.int .i64 0) = some (.int .u8 91) := str_at (n := 0) (c := 91) rfl
        simp only [k22_a, WK, vop, evAll, evOpt, evParts, vbuiltin, vun, vextract, Nat.reduceLT, Nat.reduceEqDiff, ↓reduceIte, reduceCtorEq, Nat.reduceAdd, Int.reduceLT, Int.reduceNeg, List.getD_cons_zero, List.getD_cons_succ, ofVal_str, Option.isSome_some, strBin, b1, b2, b3, i0, show decide ((91 : Int) = 91) = true from rfl, BVk, l1, l2.load (show (flatC 4 0 []).length = 4 from rfl)]
        exact ⟨rfl, k1.viaX' l3 (Nat.le_refl _)⟩
      | mapI e =>
        have b1 : decide (tyB (.mapI e) = [105, 110, 116]) = false := by simp [tyB, mI]
        have b2 : decide (tyB (.mapI e) = [98, 111, 111, 108]) = false := by simp [tyB, mI]
        have b3 : decide (tyB (.mapI e) = [116, 101, 120, 116]) = false := by simp [tyB, mI]
        have i0 : vindex Try.prog 9 (.str (tyB (.mapI e))) (.int .i64 0) = some (.int .u8 123) := str_at (n := 0) (c := 123) rfl
        simp only [k22_a, WK, vop, evAll, evOpt, evParts, vbuiltin, vun, vextract, Nat.reduceLT, Nat.reduceEqDiff, ↓reduceIte, reduceCtorEq, Nat.reduceAdd, Int.reduceLT, Int.reduceNeg, List.getD_cons_zero, List.getD_cons_succ, ofVal_str, Option.isSome_some, strBin, b1, b2, b3, i0, show decide ((123 : Int) = 91) = false from rfl, BVk, m1, m2.load (show (flatC 5 0 []).length = 4 from rfl)]
        exact ⟨rfl, k1.viaX' m3 (Nat.le_refl _)⟩
      | mapT e =>
        have b1 : decide (tyB (.mapT e) = [105, 110, 116]) = false := by simp [tyB, mT]
        have b2 : decide (tyB (.mapT e) = [98, 111, 111, 108]) = false := by simp [tyB, mT]
        have b3 : decide (tyB (.mapT e) = [116, 101, 120, 116]) = false := by simp [tyB, mT]
        have i0 : vindex Try.prog 9 (.str (tyB (.mapT e))) (.int .i64 0) = some (.int .u8 123) := str_at (n := 0) (c := 123) rfl
        simp only [k22_a, WK, vop, evAll, evOpt, evParts, vbuiltin, vun, vextract, Nat.reduceLT, Nat.reduceEqDiff, ↓reduceIte, reduceCtorEq, Nat.reduceAdd, Int.reduceLT, Int.reduceNeg, List.getD_cons_zero, List.getD_cons_succ, ofVal_str, Option.isSome_some, strBin, b1, b2, b3, i0, show decide ((123 : Int) = 91) = false from rfl, BVk, m1, m2.load (show (flatC 5 0 []).length = 4 from rfl)]
        exact ⟨rfl, k1.viaX' m3 (Nat.le_refl _)⟩
  obtain ⟨q, σ', h1, rfl, h3⟩ := key
  exact ⟨σ', h1, h3⟩

theorem listS_nil {s : List UInt8} : decide (listS s = []) = !isListS s := by
  unfold listS isListS
  split
  · rename_i e _
    have := tyB_len e
    have h : tyB e ≠ [] := by
      intro h
      rw [h] at this
      simp at this
    rw [decide_eq_false h]
    rfl
  · rfl
theorem refzero_does (s : List UInt8) (hl : s.length ≤ 4294967296) : ∃ σ', Does Try.prog prims 23 [.str s] σ (.ret (.agg (zeroS s))) σ' ∧ Keep σ σ' := by
  have key : ∃ q σ', Does Try.prog prims 23 [.str s] σ q σ' ∧ q = .ret (.agg (zeroS s)) ∧ Keep σ σ' := by
    apply k23_is.does (by simp)
    obtain ⟨s1, hs1⟩ : ∃ s1 : St, s1 = ⟨σ.objs ++ [Ob.cells val0C], σ.toks⟩ := ⟨_, rfl⟩
    have k1 : Keep σ s1 := by rw [hs1]; exact (Keep.refl σ).push _
    have q1 : s1.objs[σ.objs.length]? = some (.cells val0C) := by rw [hs1]; exact push_new _ _
    simp only [k23_a, WK, vop, evAll, evOpt, evParts, vbuiltin, vun, vextract, Nat.reduceLT, Nat.reduceEqDiff, ↓reduceIte, reduceCtorEq, Nat.reduceAdd, Int.reduceLT, Int.reduceNeg, List.getD_cons_zero, List.getD_cons_succ, ofVal_str, VZ24, vbox, vcells, ← hs1, strBin]
    obtain ⟨s2, hst, h2, h3⟩ := storeN q1 (c := zeroS s) rfl rfl rfl
    have hz : zeroS s = flatC (kindS s) 0 [] := rfl
    by_cases a1 : s = [105, 110, 116]
    · have b1 : decide (s = [105, 110, 116]) = true := decide_eq_true a1
      have hk : kindS s = 1 := by subst a1; rfl
      rw [hk] at hz
      simp only [k23_a, WK, vop, evAll, evOpt, evParts, vbuiltin, vun, vextract, Nat.reduceLT, Nat.reduceEqDiff, ↓reduceIte, reduceCtorEq, Nat.reduceAdd, Int.reduceLT, Int.reduceNeg, b1, BVk, ← hz, hst, h2.load (zeroS_len s)]
      exact (k1.viaX' h3 (Nat.le_refl _))
    have b1 : decide (s = [105, 110, 116]) = false := decide_eq_false a1
    by_cases a2 : s = [98, 111, 111, 108]
    · have b2 : decide (s = [98, 111, 111, 108]) = true := decide_eq_true a2
      have hk : kindS s = 2 := by subst a2; rfl
      rw [hk] at hz
      simp only [k23_a, WK, vop, evAll, evOpt, evParts, vbuiltin, vun, vextract, Nat.reduceLT, Nat.reduceEqDiff, ↓reduceIte, reduceCtorEq, Nat.reduceAdd, Int.reduceLT, Int.reduceNeg, List.getD_cons_zero, List.getD_cons_succ, ofVal_str, strBin, b1, b2, BVk, ← hz, hst, h2.load (zeroS_len s)]
      exact (k1.viaX' h3 (Nat.le_refl _))
    have b2 : decide (s = [98, 111, 111, 108]) = false := decide_eq_false a2
    by_cases a3 : s = [116, 101, 120, 116]
    · have b3 : decide (s = [116, 101, 120, 116]) = true := decide_eq_true a3
      have hk : kindS s = 3 := by subst a3; rfl
      rw [hk] at hz
      simp only [k23_a, WK, vop, evAll, evOpt, evParts, vbuiltin, vun, vextract, Nat.reduceLT, Nat.reduceEqDiff, ↓reduceIte, reduceCtorEq, Nat.reduceAdd, Int.reduceLT, Int.reduceNeg, List.getD_cons_zero, List.getD_cons_succ, ofVal_str, strBin, b1, b2, b3, BVk, ← hz, hst, h2.load (zeroS_len s)]
      exact (k1.viaX' h3 (Nat.le_refl _))
    have b3 : decide (s = [116, 101, 120, 116]) = false := decide_eq_false a3
    simp only [k23_a, WK, vop, evAll, evOpt, evParts, vbuiltin, vun, vextract, Nat.reduceLT, Nat.reduceEqDiff, ↓reduceIte, reduceCtorEq, Nat.reduceAdd, Int.reduceLT, Int.reduceNeg, List.getD_cons_zero, List.getD_cons_succ, ofVal_str, strBin, b1, b2, b3]
    refine KD.ret (reflist_does s hl s1) ?_
    have hn := listS_nil (s := s)
    cases hi : isListS s with
    | true =>
      have hk : kindS s = 4 := by
        unfold isListS at hi
        unfold kindS
        split at hi
        · rename_i e he; rw [he]; rfl
        · cases hi
      rw [hk] at hz
      simp only [k23_a, WK, vop, evAll, evOpt, evParts, vbuiltin, vun, vextract, Nat.reduceLT, Nat.reduceEqDiff, ↓reduceIte, reduceCtorEq, Nat.reduceAdd, Int.reduceLT, Int.reduceNeg, ofVal_str, strBin, hn, hi, BVk, ← hz, hst, h2.load (zeroS_len s)]
      exact (k1.viaX' h3 (Nat.le_refl _))
    | false =>
      simp only [k23_a, WK, vop, evAll, evOpt, evParts, vbuiltin, vun, vextract, Nat.reduceLT, Nat.reduceEqDiff, ↓reduceIte, reduceCtorEq, Nat.reduceAdd, Int.reduceLT, Int.reduceNeg, List.getD_cons_zero, ofVal_str, strBin, hn, hi]
      refine KD.ret (reftype_does s hl s1) ?_
      cases h : tyS s with
      | none =>
        have hk : kindS s = 0 := by rw [kindS, h]
        rw [hk] at hz
        simp only [k23_a, WK, vop, evAll, evOpt, evParts, vbuiltin, vun, vextract, Nat.reduceLT, Nat.reduceEqDiff, ↓reduceIte, reduceCtorEq, Nat.reduceAdd, Int.reduceLT, Int.reduceNeg, Option.isSome_none, BVk, ← hz, hst, h2.load (zeroS_len s)]
        exact (k1.viaX' h3 (Nat.le_refl _))
      | some T =>
        have hk : kindS s = 5 := by
          rw [kindS, h]
          obtain ⟨rfl, h4⟩ := tyS_iff.1 h
          cases T with
          | int => exact absurd rfl a1
          | bool => exact absurd rfl a2
          | text => exact absurd rfl a3
          | list e => rw [isListS, h] at hi; cases hi
          | mapI e => rfl
          | mapT e => rfl
        rw [hk] at hz
        simp only [k23_a, WK, vop, evAll, evOpt, evParts, vbuiltin, vun, vextract, Nat.reduceLT, Nat.reduceEqDiff, ↓reduceIte, reduceCtorEq, Nat.reduceAdd, Int.reduceLT, Int.reduceNeg, Option.isSome_some, BVk, ← hz, hst, h2.load (zeroS_len s)]
        exact (k1.viaX' h3 (Nat.le_refl _))
  obtain ⟨q, σ', h1, rfl, h3⟩ := key
  exact ⟨σ', h1, h3⟩

theorem same_does {a b : Val} {c1 c2 : List V} (hw : weight a ≤ 4294967296) (ha : ValC a c1) (hb : ValC b c2) : ∃ σ', Does Try.prog prims 13 [.agg c1, .agg c2] σ (.ret (.bool (decide (cmpV a b = 0)))) σ' ∧ Keep σ σ' := by
  obtain ⟨s1, hs1⟩ : ∃ s1 : St, s1 = ⟨(σ.objs ++ [Ob.cells c1]) ++ [Ob.cells c2], σ.toks⟩ := ⟨_, rfl⟩
  have k1 : Keep σ s1 := by rw [hs1]; exact ((Keep.refl σ).push _).push _
  have p1 : IsV s1 σ.objs.length c1 := by rw [hs1]; show ((σ.objs ++ [_]) ++ [_])[_]? = _; rw [List.getElem?_append_left (by simp)]; exact push_new _ _
  have p2 : IsV s1 (σ.objs.length + 1) c2 := by
    rw [hs1]
    have : (σ.objs.length + 1) = (σ.objs ++ [Ob.cells c1]).length := by simp
    unfold IsV
    rw [this]
    exact push_new _ _
  obtain ⟨s2, d2, k2⟩ := refcompare_does s1 hw ha hb
  refine ⟨s2, ?_, k1.trans k2⟩
  apply k13_is.ret (by simp)
  simp only [k13_a, WK, vop, evAll, evOpt, evParts, vbuiltin, vun, vextract, Nat.reduceLT, Nat.reduceEqDiff, ↓reduceIte, reduceCtorEq, Nat.reduceAdd, Int.reduceLT, Int.reduceNeg, List.getD_cons_zero, List.getD_cons_succ, vbox, vcells, List.length_append, List.length_cons, List.length_nil, ← hs1, p1.load ha.len, p2.load hb.len]
  refine KD.ret d2 ?_
  simp only [k13_a, WK, vop, evAll, evOpt, evParts, vbuiltin, vun, vextract, Nat.reduceLT, Nat.reduceEqDiff, ↓reduceIte, reduceCtorEq, Nat.reduceAdd, Int.reduceLT, Int.reduceNeg]
end
theorem cmp_dec {a b : Val} : decide (cmpV a b = 0) = true ↔ a = b := by
  rw [decide_eq_true_eq]
  exact ⟨cmpV_zero, fun h => by rw [h]; exact cmpV_refl b⟩
end Go.Proofs.Ytlimedbanpfkgaa.Q
