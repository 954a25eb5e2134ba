import Derived.Test.YtlimedbanpfkgaaVk
set_option linter.unusedVariables false
set_option linter.unusedSimpArgs false
namespace Go.Proofs.Ytlimedbanpfkgaa.Q
open Go Go.RowKit Go.Proofs

theorem fitsT_kind {T : Ty} {k n : Int} {t : List UInt8} {l : List Val} (h : k ≠ tyK T) : fitsT T (.mk k n t l) = false := by
  cases T <;> simp only [tyK] at h <;> simp [fitsT, fitInt, fitBool, fitText, fitList, fitMap, h]
section
variable {k n : Int} {t : List UInt8} {l : List Val} {w : V}
set_option maxRecDepth 100000

theorem listS_ne {s : List UInt8} (h : isListS s = false) : listS s = [] := by
  unfold isListS at h
  unfold listS
  split
  · rename_i e he; rw [he] at h; cases h
  · rfl
theorem tyK_in (T : Ty) : 1 ≤ tyK T ∧ tyK T ≤ 5 := by cases T <;> simp [tyK]
theorem kindS_ty {T : Ty} (h : tyD T ≤ 4) : kindS (tyB T) = tyK T := by
  rw [kindS, tyS_iff.2 ⟨rfl, h⟩]

/-- The first check. -/
theorem of_r1 {T : Ty} (hT : tyD T ≤ 4) {e : Nat → V} {σ : St} {q : Nat} (h2 : e 2 = .optr q 0) (h1 : e 1 = .str (tyB T)) (hq : IsV σ q [.int .i64 k, .int .i64 n, .str t, w]) :
    Ev Try.prog prims 145 k55_r1 e σ (fun x e' σ' => x = .normal ∧ Keep σ σ' ∧ e' 22 = .bool (!decide (k = tyK T))) := by
  have hlen := tyB_len T
  have hk := tyK_in T
  obtain ⟨s1, d1, k1⟩ := refzero_does σ (tyB T) (by omega)
  have hz : zeroS (tyB T) = flatC (tyK T) 0 [] := by rw [zeroS, kindS_ty hT]
  rw [hz] at d1
  have q1 := k1.atV hq
  by_cases h0 : k = 0
  · have : ¬ k = tyK T := by omega
    simp only [k55_r1_e, WK, vop, evAll, evOpt, evParts, vbuiltin, vun, vextract, Nat.reduceLT, Nat.reduceEqDiff, ↓reduceIte, reduceCtorEq, Nat.reduceAdd, Int.reduceLT, Int.reduceNeg, h1, h2, FV0, hq.kind, h0, decide_eq_false (show ¬ (0 : Int) = tyK T by omega), eq_self]
    refine ⟨fun h => ?_, Keep.refl σ⟩
    simp [wantC, upd] at h
  · simp only [k55_r1_e, WK, vop, evAll, evOpt, evParts, vbuiltin, vun, vextract, Nat.reduceLT, Nat.reduceEqDiff, ↓reduceIte, reduceCtorEq, Nat.reduceAdd, Int.reduceLT, Int.reduceNeg, h1, h2, FV0, hq.kind, h0]
    refine KD.ret d1 ?_
    have hfld : vfield Try.prog 24 (.agg (flatC (tyK T) 0 [])) 0 = some (.int .i64 (tyK T)) := by kernel_rfl
    simp only [k55_r1_e, WK, vop, evAll, evOpt, evParts, vbuiltin, vun, vextract, Nat.reduceLT, Nat.reduceEqDiff, ↓reduceIte, reduceCtorEq, Nat.reduceAdd, Int.reduceLT, Int.reduceNeg, h1, h2, FV0, hq.kind, q1.kind, hfld]
    exact k1

theorem of_int : FitOk 55 (tyB .int) (fitsT .int) := by
  intro v c σ hwt ha
  have key : ∃ q σ', Does Try.prog prims 55 [.agg c, .str (tyB .int)] σ q σ' ∧ q = .ret (.bool (fitsT .int v)) ∧ Keep σ σ' := by
    obtain ⟨k, n, t, l, w, rfl, rfl, hw, ik, im⟩ := ha.inv
    apply k55_is.does (by simp)
    obtain ⟨σ2, hσ2⟩ : ∃ σ2 : St, σ2 = ⟨σ.objs ++ [Ob.cells [.int .i64 k, .int .i64 n, .str t, w]], σ.toks⟩ := ⟨_, rfl⟩
    have hk2 : Keep σ σ2 := by rw [hσ2]; exact (Keep.refl σ).push _
    have q2 : IsV σ2 σ.objs.length [.int .i64 k, .int .i64 n, .str t, w] := by rw [hσ2]; exact push_new _ _
    have hlen := tyB_len .int
    rw [weight] at hwt
    have hll := weights_len l
    have hT : tyD .int ≤ 4 := by decide
    simp only [k55_e, k55_r0_e, WK, vop, evAll, evOpt, evParts, vbuiltin, vun, vextract, Nat.reduceLT, Nat.reduceEqDiff, ↓reduceIte, reduceCtorEq, Nat.reduceAdd, Int.reduceLT, Int.reduceNeg, List.getD_cons_zero, List.getD_cons_succ, vbox, vcells, ← hσ2]
    refine Ev.cut (of_r1 (T := .int) hT (t := t) (k := k) (n := n) (w := w) (q := σ.objs.length) (by simp [upd_some]) (by simp [upd_some]) q2) ?_
    rintro x e s3 ⟨rfl, k3, h22⟩ hwr
    have h1 : e 1 = .str (tyB .int) := (hwr 1 (by decide)).trans (by simp [upd_some])
    have h2 : e 2 = .optr σ.objs.length 0 := (hwr 2 (by decide)).trans (by simp [upd_some])
    clear hwr
    have q3 := k3.atV q2
    by_cases hk : k = tyK .int
    · rw [decide_eq_true hk] at h22
      have hk : k = 1 := hk
      subst hk
      have hk3 := hk2.trans k3
      clear hσ2 q2 ha
      unfold fitsT fitInt
      by_cases ht : t = []
      · by_cases hl0 : (0 : Int) < l.length
        · have hl1 : ¬ (l.length : Int) = 0 := by omega
          simp only [k55_a, WK, vop, evAll, evOpt, evParts, vbuiltin, vun, vextract, Nat.reduceLT, Nat.reduceEqDiff, ↓reduceIte, reduceCtorEq, Nat.reduceAdd, Int.reduceLT, Int.reduceNeg, Int.reduceEq, Int.reduceLE, FV0, FV1, FV2, FV3, h1, h2, q3.kind, q3.num, q3.text, q3.list, hw.len, vlen_str T9, ofVal_str, strBin, eq_self, Bool.true_and, Bool.and_true, Bool.false_and, Bool.and_false, Bool.or_true, Bool.true_or, Bool.or_false, Bool.false_or, h22, ht, hl0, hl1]
          exact hk3
        · have hl1 : (l.length : Int) = 0 := by omega
          simp only [k55_a, WK, vop, evAll, evOpt, evParts, vbuiltin, vun, vextract, Nat.reduceLT, Nat.reduceEqDiff, ↓reduceIte, reduceCtorEq, Nat.reduceAdd, Int.reduceLT, Int.reduceNeg, Int.reduceEq, Int.reduceLE, FV0, FV1, FV2, FV3, h1, h2, q3.kind, q3.num, q3.text, q3.list, hw.len, vlen_str T9, ofVal_str, strBin, eq_self, Bool.true_and, Bool.and_true, Bool.false_and, Bool.and_false, Bool.or_true, Bool.true_or, Bool.or_false, Bool.false_or, h22, ht, hl0, hl1, Int.lt_irrefl]
          exact hk3
      · simp only [k55_a, WK, vop, evAll, evOpt, evParts, vbuiltin, vun, vextract, Nat.reduceLT, Nat.reduceEqDiff, ↓reduceIte, reduceCtorEq, Nat.reduceAdd, Int.reduceLT, Int.reduceNeg, Int.reduceEq, Int.reduceLE, FV0, FV1, FV2, FV3, h1, h2, q3.kind, q3.num, q3.text, q3.list, hw.len, vlen_str T9, ofVal_str, strBin, eq_self, Bool.true_and, Bool.and_true, Bool.false_and, Bool.and_false, Bool.or_true, Bool.true_or, Bool.or_false, Bool.false_or, h22, ht]
        exact hk3
    · rw [fitsT_kind hk]
      rw [decide_eq_false hk] at h22
      simp only [k55_r2_e, WK, vop, evAll, evOpt, evParts, vbuiltin, vun, vextract, Nat.reduceLT, Nat.reduceEqDiff, ↓reduceIte, reduceCtorEq, Nat.reduceAdd, Int.reduceLT, Int.reduceNeg, h22]
      exact hk2.trans k3
  obtain ⟨q, σ', h1, rfl, h3⟩ := key
  exact ⟨σ', h1, h3⟩

theorem of_bool : FitOk 55 (tyB .bool) (fitsT .bool) := by
  intro v c σ hwt ha
  have key : ∃ q σ', Does Try.prog prims 55 [.agg c, .str (tyB .bool)] σ q σ' ∧ q = .ret (.bool (fitsT .bool v)) ∧ Keep σ σ' := by
    obtain ⟨k, n, t, l, w, rfl, rfl, hw, ik, im⟩ := ha.inv
    apply k55_is.does (by simp)
    obtain ⟨σ2, hσ2⟩ : ∃ σ2 : St, σ2 = ⟨σ.objs ++ [Ob.cells [.int .i64 k, .int .i64 n, .str t, w]], σ.toks⟩ := ⟨_, rfl⟩
    have hk2 : Keep σ σ2 := by rw [hσ2]; exact (Keep.refl σ).push _
    have q2 : IsV σ2 σ.objs.length [.int .i64 k, .int .i64 n, .str t, w] := by rw [hσ2]; exact push_new _ _
    have hlen := tyB_len .bool
    rw [weight] at hwt
    have hll := weights_len l
    have hT : tyD .bool ≤ 4 := by decide
    simp only [k55_e, k55_r0_e, WK, vop, evAll, evOpt, evParts, vbuiltin, vun, vextract, Nat.reduceLT, Nat.reduceEqDiff, ↓reduceIte, reduceCtorEq, Nat.reduceAdd, Int.reduceLT, Int.reduceNeg, List.getD_cons_zero, List.getD_cons_succ, vbox, vcells, ← hσ2]
    refine Ev.cut (of_r1 (T := .bool) hT (t := t) (k := k) (n := n) (w := w) (q := σ.objs.length) (by simp [upd_some]) (by simp [upd_some]) q2) ?_
    rintro x e s3 ⟨rfl, k3, h22⟩ hwr
    have h1 : e 1 = .str (tyB .bool) := (hwr 1 (by decide)).trans (by simp [upd_some])
    have h2 : e 2 = .optr σ.objs.length 0 := (hwr 2 (by decide)).trans (by simp [upd_some])
    clear hwr
    have q3 := k3.atV q2
    by_cases hk : k = tyK .bool
    · rw [decide_eq_true hk] at h22
      have hk : k = 2 := hk
      subst hk
      have hk3 := hk2.trans k3
      clear hσ2 q2 ha
      unfold fitsT fitBool
      have e10 : ((1 : Int) = 0) = False := eq_false (by decide)
      by_cases ht : t = []
      · by_cases hl0 : (0 : Int) < l.length
        · have hl1 : ¬ (l.length : Int) = 0 := by omega
          simp only [k55_a, WK, vop, evAll, evOpt, evParts, vbuiltin, vun, vextract, Nat.reduceLT, Nat.reduceEqDiff, ↓reduceIte, reduceCtorEq, Nat.reduceAdd, Int.reduceLT, Int.reduceNeg, Int.reduceEq, Int.reduceLE, FV0, FV1, FV2, FV3, h1, h2, q3.kind, q3.num, q3.text, q3.list, hw.len, vlen_str T9, ofVal_str, strBin, eq_self, Bool.true_and, Bool.and_true, Bool.false_and, Bool.and_false, Bool.or_true, Bool.true_or, Bool.or_false, Bool.false_or, h22, ht, hl0, hl1]
          exact hk3
        · have hl1 : (l.length : Int) = 0 := by omega
          simp only [k55_a, WK, vop, evAll, evOpt, evParts, vbuiltin, vun, vextract, Nat.reduceLT, Nat.reduceEqDiff, ↓reduceIte, reduceCtorEq, Nat.reduceAdd, Int.reduceLT, Int.reduceNeg, Int.reduceEq, Int.reduceLE, FV0, FV1, FV2, FV3, h1, h2, q3.kind, q3.num, q3.text, q3.list, hw.len, vlen_str T9, ofVal_str, strBin, eq_self, Bool.true_and, Bool.and_true, Bool.false_and, Bool.and_false, Bool.or_true, Bool.true_or, Bool.or_false, Bool.false_or, h22, ht, hl0, hl1, Int.lt_irrefl]
          by_cases hn : n = 0
          · simp only [k55_a, WK, vop, evAll, evOpt, evParts, vbuiltin, vun, vextract, Nat.reduceLT, Nat.reduceEqDiff, ↓reduceIte, reduceCtorEq, Nat.reduceAdd, Int.reduceLT, Int.reduceNeg, Int.reduceEq, Int.reduceLE, FV0, FV1, FV2, FV3, h1, h2, q3.kind, q3.num, q3.text, q3.list, hw.len, vlen_str T9, ofVal_str, strBin, eq_self, Bool.true_and, Bool.and_true, Bool.false_and, Bool.and_false, Bool.or_true, Bool.true_or, Bool.or_false, Bool.false_or, hn]
            exact hk3
          · by_cases hn1 : n = 1
            · simp only [k55_a, WK, vop, evAll, evOpt, evParts, vbuiltin, vun, vextract, Nat.reduceLT, Nat.reduceEqDiff, ↓reduceIte, reduceCtorEq, Nat.reduceAdd, Int.reduceLT, Int.reduceNeg, Int.reduceEq, Int.reduceLE, FV0, FV1, FV2, FV3, h1, h2, q3.kind, q3.num, q3.text, q3.list, hw.len, vlen_str T9, ofVal_str, strBin, eq_self, Bool.true_and, Bool.and_true, Bool.false_and, Bool.and_false, Bool.or_true, Bool.true_or, Bool.or_false, Bool.false_or, hn1, e10]
              exact hk3
            · simp only [k55_a, WK, vop, evAll, evOpt, evParts, vbuiltin, vun, vextract, Nat.reduceLT, Nat.reduceEqDiff, ↓reduceIte, reduceCtorEq, Nat.reduceAdd, Int.reduceLT, Int.reduceNeg, Int.reduceEq, Int.reduceLE, FV0, FV1, FV2, FV3, h1, h2, q3.kind, q3.num, q3.text, q3.list, hw.len, vlen_str T9, ofVal_str, strBin, eq_self, Bool.true_and, Bool.and_true, Bool.false_and, Bool.and_false, Bool.or_true, Bool.true_or, Bool.or_false, Bool.false_or, hn, hn1]
              exact hk3
      · simp only [k55_a, WK, vop, evAll, evOpt, evParts, vbuiltin, vun, vextract, Nat.reduceLT, Nat.reduceEqDiff, ↓reduceIte, reduceCtorEq, Nat.reduceAdd, Int.reduceLT, Int.reduceNeg, Int.reduceEq, Int.reduceLE, FV0, FV1, FV2, FV3, h1, h2, q3.kind, q3.num, q3.text, q3.list, hw.len, vlen_str T9, ofVal_str, strBin, eq_self, Bool.true_and, Bool.and_true, Bool.false_and, Bool.and_false, Bool.or_true, Bool.true_or, Bool.or_false, Bool.false_or, h22, ht]
        exact hk3
    · rw [fitsT_kind hk]
      rw [decide_eq_false hk] at h22
      simp only [k55_r2_e, WK, vop, evAll, evOpt, evParts, vbuiltin, vun, vextract, Nat.reduceLT, Nat.reduceEqDiff, ↓reduceIte, reduceCtorEq, Nat.reduceAdd, Int.reduceLT, Int.reduceNeg, h22]
      exact hk2.trans k3
  obtain ⟨q, σ', h1, rfl, h3⟩ := key
  exact ⟨σ', h1, h3⟩

theorem of_text : FitOk 55 (tyB .text) (fitsT .text) := by
  intro v c σ hwt ha
  have key : ∃ q σ', Does Try.prog prims 55 [.agg c, .str (tyB .text)] σ q σ' ∧ q = .ret (.bool (fitsT .text v)) ∧ Keep σ σ' := by
    obtain ⟨k, n, t, l, w, rfl, rfl, hw, ik, im⟩ := ha.inv
    apply k55_is.does (by simp)
    obtain ⟨σ2, hσ2⟩ : ∃ σ2 : St, σ2 = ⟨σ.objs ++ [Ob.cells [.int .i64 k, .int .i64 n, .str t, w]], σ.toks⟩ := ⟨_, rfl⟩
    have hk2 : Keep σ σ2 := by rw [hσ2]; exact (Keep.refl σ).push _
    have q2 : IsV σ2 σ.objs.length [.int .i64 k, .int .i64 n, .str t, w] := by rw [hσ2]; exact push_new _ _
    have hlen := tyB_len .text
    rw [weight] at hwt
    have hll := weights_len l
    have hT : tyD .text ≤ 4 := by decide
    simp only [k55_e, k55_r0_e, WK, vop, evAll, evOpt, evParts, vbuiltin, vun, vextract, Nat.reduceLT, Nat.reduceEqDiff, ↓reduceIte, reduceCtorEq, Nat.reduceAdd, Int.reduceLT, Int.reduceNeg, List.getD_cons_zero, List.getD_cons_succ, vbox, vcells, ← hσ2]
    refine Ev.cut (of_r1 (T := .text) hT (t := t) (k := k) (n := n) (w := w) (q := σ.objs.length) (by simp [upd_some]) (by simp [upd_some]) q2) ?_
    rintro x e s3 ⟨rfl, k3, h22⟩ hwr
    have h1 : e 1 = .str (tyB .text) := (hwr 1 (by decide)).trans (by simp [upd_some])
    have h2 : e 2 = .optr σ.objs.length 0 := (hwr 2 (by decide)).trans (by simp [upd_some])
    clear hwr
    have q3 := k3.atV q2
    by_cases hk : k = tyK .text
    · rw [decide_eq_true hk] at h22
      have hk : k = 3 := hk
      subst hk
      have hk3 := hk2.trans k3
      clear hσ2 q2 ha
      unfold fitsT fitText
      by_cases hn : n = 0
      · by_cases hl0 : (0 : Int) < l.length
        · have hl1 : ¬ (l.length : Int) = 0 := by omega
          simp only [k55_a, WK, vop, evAll, evOpt, evParts, vbuiltin, vun, vextract, Nat.reduceLT, Nat.reduceEqDiff, ↓reduceIte, reduceCtorEq, Nat.reduceAdd, Int.reduceLT, Int.reduceNeg, Int.reduceEq, Int.reduceLE, FV0, FV1, FV2, FV3, h1, h2, q3.kind, q3.num, q3.text, q3.list, hw.len, vlen_str T9, ofVal_str, strBin, eq_self, Bool.true_and, Bool.and_true, Bool.false_and, Bool.and_false, Bool.or_true, Bool.true_or, Bool.or_false, Bool.false_or, h22, hn, hl0, hl1]
          exact hk3
        · have hl1 : (l.length : Int) = 0 := by omega
          simp only [k55_a, WK, vop, evAll, evOpt, evParts, vbuiltin, vun, vextract, Nat.reduceLT, Nat.reduceEqDiff, ↓reduceIte, reduceCtorEq, Nat.reduceAdd, Int.reduceLT, Int.reduceNeg, Int.reduceEq, Int.reduceLE, FV0, FV1, FV2, FV3, h1, h2, q3.kind, q3.num, q3.text, q3.list, hw.len, vlen_str T9, ofVal_str, strBin, eq_self, Bool.true_and, Bool.and_true, Bool.false_and, Bool.and_false, Bool.or_true, Bool.true_or, Bool.or_false, Bool.false_or, h22, hn, hl0, hl1, Int.lt_irrefl]
          exact hk3
      · simp only [k55_a, WK, vop, evAll, evOpt, evParts, vbuiltin, vun, vextract, Nat.reduceLT, Nat.reduceEqDiff, ↓reduceIte, reduceCtorEq, Nat.reduceAdd, Int.reduceLT, Int.reduceNeg, Int.reduceEq, Int.reduceLE, FV0, FV1, FV2, FV3, h1, h2, q3.kind, q3.num, q3.text, q3.list, hw.len, vlen_str T9, ofVal_str, strBin, eq_self, Bool.true_and, Bool.and_true, Bool.false_and, Bool.and_false, Bool.or_true, Bool.true_or, Bool.or_false, Bool.false_or, h22, hn]
        exact hk3
    · rw [fitsT_kind hk]
      rw [decide_eq_false hk] at h22
      simp only [k55_r2_e, WK, vop, evAll, evOpt, evParts, vbuiltin, vun, vextract, Nat.reduceLT, Nat.reduceEqDiff, ↓reduceIte, reduceCtorEq, Nat.reduceAdd, Int.reduceLT, Int.reduceNeg, h22]
      exact hk2.trans k3
  obtain ⟨q, σ', h1, rfl, h3⟩ := key
  exact ⟨σ', h1, h3⟩

def I55 (σ0 : St) (f : Val → Bool) (l : List Val) : Nat → (Nat → V) → St → Prop := fun i e σ => e 75 = .int .i64 i ∧ i ≤ l.length ∧ (l.take i).all f = true ∧ Keep σ0 σ

theorem of_list {e : Ty} (hT : tyD (.list e) ≤ 4) (H : FitOk 55 (tyB e) (fitsT e)) : FitOk 55 (tyB (.list e)) (fitsT (.list e)) := by
  intro v c σ hwt ha
  have key : ∃ q σ', Does Try.prog prims 55 [.agg c, .str (tyB (.list e))] σ q σ' ∧ q = .ret (.bool (fitsT (.list e) v)) ∧ Keep σ σ' := by
    obtain ⟨k, n, t, l, w, rfl, rfl, hw, ik, im⟩ := ha.inv
    apply k55_is.does (by simp)
    obtain ⟨σ2, hσ2⟩ : ∃ σ2 : St, σ2 = ⟨σ.objs ++ [Ob.cells [.int .i64 k, .int .i64 n, .str t, w]], σ.toks⟩ := ⟨_, rfl⟩
    have hk2 : Keep σ σ2 := by rw [hσ2]; exact (Keep.refl σ).push _
    have q2 : IsV σ2 σ.objs.length [.int .i64 k, .int .i64 n, .str t, w] := by rw [hσ2]; exact push_new _ _
    have hlen := tyB_len (.list e)
    rw [weight] at hwt
    have hll := weights_len l
    have hT : tyD (.list e) ≤ 4 := hT
    simp only [k55_e, k55_r0_e, WK, vop, evAll, evOpt, evParts, vbuiltin, vun, vextract, Nat.reduceLT, Nat.reduceEqDiff, ↓reduceIte, reduceCtorEq, Nat.reduceAdd, Int.reduceLT, Int.reduceNeg, List.getD_cons_zero, List.getD_cons_succ, vbox, vcells, ← hσ2]
    refine Ev.cut (of_r1 (T := (.list e)) hT (t := t) (k := k) (n := n) (w := w) (q := σ.objs.length) (by simp [upd_some]) (by simp [upd_some]) q2) ?_
    rintro x en s3 ⟨rfl, k3, h22⟩ hwr
    have h1 : en 1 = .str (tyB (.list e)) := (hwr 1 (by decide)).trans (by simp [upd_some])
    have h2 : en 2 = .optr σ.objs.length 0 := (hwr 2 (by decide)).trans (by simp [upd_some])
    clear hwr
    have q3 := k3.atV q2
    by_cases hk : k = tyK (.list e)
    · rw [decide_eq_true hk] at h22
      have hk : k = 4 := hk
      subst hk
      have hk3 := hk2.trans k3
      clear hσ2 q2 ha
      unfold fitsT fitList
      by_cases hn : n = 0
      · by_cases ht : t = []
        · simp only [k55_a, WK, vop, evAll, evOpt, evParts, vbuiltin, vun, vextract, Nat.reduceLT, Nat.reduceEqDiff, ↓reduceIte, reduceCtorEq, Nat.reduceAdd, Int.reduceLT, Int.reduceNeg, Int.reduceEq, Int.reduceLE, FV0, FV1, FV2, FV3, h1, h2, q3.kind, q3.num, q3.text, q3.list, hw.len, vlen_str T9, ofVal_str, strBin, eq_self, Bool.true_and, Bool.and_true, Bool.false_and, Bool.and_false, Bool.or_true, Bool.true_or, Bool.or_false, Bool.false_or, h22, hn, ht]
          refine Ev.loopF (I55 s3 (fitsT e) l) (fun i => l.length - i) 0 ⟨by simp [upd_some], by simp, by simp, Keep.refl _⟩ ?_
          rintro i ei σ1 ⟨h75, hi, hall, hk⟩ hf
          have h74 : ei 74 = .int .i64 l.length := (hf 74 (by decide)).trans (by simp [upd_some])
          have h73 : ei 73 = w := (hf 73 (by decide)).trans (by simp [upd_some])
          have h1' : ei 1 = .str (tyB (.list e)) := (hf 1 (by decide)).trans (by simp [upd_some, h1])
          have h2' : ei 2 = .optr σ.objs.length 0 := (hf 2 (by decide)).trans (by simp [upd_some, h2])
          clear hf
          by_cases hlt : i < l.length
          · have hlt' : (i : Int) < l.length := by omega
            have hwi : IntKind.i64.wrap ((i : Int) + 1) = ((i + 1 : Nat) : Int) := by rw [show ((i : Int) + 1) = ((i + 1 : Nat) : Int) from by omega]; exact wrap_nat (by omega)
            obtain ⟨cs, c, ha0, hld, hc⟩ := hw.get hlt
            obtain ⟨s5, hs5⟩ : ∃ s5 : St, s5 = ⟨(σ1.objs ++ [Ob.cells val0C]).set σ1.objs.length (Ob.cells c), σ1.toks⟩ := ⟨_, rfl⟩
            have p5 : IsV s5 σ1.objs.length c := by rw [hs5]; exact IsV.made
            have k5 : Keep σ1 s5 := by rw [hs5]; exact (Keep.refl σ1).madeV _ _
            have hmem := weights_mem (List.getElem_mem hlt)
            have hd := reflist_does (tyB (.list e)) (by omega) s5
            rw [(tyS_list hT).1] at hd
            obtain ⟨s6, d6, k6⟩ := H l[i] c s5 (by omega) hc
            have p6 := k6.atV p5
            simp only [k55_a, WK, vop, evAll, evOpt, evParts, vbuiltin, vun, vextract, Nat.reduceLT, Nat.reduceEqDiff, ↓reduceIte, reduceCtorEq, Nat.reduceAdd, Int.reduceLT, Int.reduceNeg, h73, h74, h75, h1', h2', hlt', ha0, hld, VZ24, vbox, vcells, IsV.new hc.len (show val0C.length = 4 from rfl) hc.one, ← hs5, p5.load hc.len]
            refine KD.ret hd ?_
            simp only [k55_a, WK, vop, evAll, evOpt, evParts, vbuiltin, vun, vextract, Nat.reduceLT, Nat.reduceEqDiff, ↓reduceIte, reduceCtorEq, Nat.reduceAdd, Int.reduceLT, Int.reduceNeg, p5.load hc.len]
            refine KD.ret d6 ?_
            have hk6 := (hk.trans k5).trans k6
            cases hfl : fitsT e l[i] with
            | true =>
              simp only [k55_a, WK, vop, evAll, evOpt, evParts, vbuiltin, vun, vextract, Nat.reduceLT, Nat.reduceEqDiff, ↓reduceIte, reduceCtorEq, Nat.reduceAdd, Int.reduceLT, Int.reduceNeg, h75, hwi, p5.load hc.len]
              exact ⟨i + 1, ⟨by simp [upd_some], hlt, by rw [all_take_succ hlt, hall, hfl]; rfl, hk6⟩, by omega⟩
            | false =>
              simp only [k55_a, WK, vop, evAll, evOpt, evParts, vbuiltin, vun, vextract, Nat.reduceLT, Nat.reduceEqDiff, ↓reduceIte, reduceCtorEq, Nat.reduceAdd, Int.reduceLT, Int.reduceNeg, h75, hwi, p5.load hc.len]
              exact ⟨by rw [all_false hlt hfl]; simp, hk3.trans hk6⟩
          · have hlt' : ¬ (i : Int) < l.length := by omega
            have q4 := hk.atV q3
            simp only [k55_a, WK, vop, evAll, evOpt, evParts, vbuiltin, vun, vextract, Nat.reduceLT, Nat.reduceEqDiff, ↓reduceIte, reduceCtorEq, Nat.reduceAdd, Int.reduceLT, Int.reduceNeg, h73, h74, h75, h2', hlt', FV3, q4.list, hw.len]
            rw [List.take_of_length_le (by omega)] at hall
            exact ⟨by rw [hall]; simp, hk3.trans hk⟩
        · simp only [k55_a, WK, vop, evAll, evOpt, evParts, vbuiltin, vun, vextract, Nat.reduceLT, Nat.reduceEqDiff, ↓reduceIte, reduceCtorEq, Nat.reduceAdd, Int.reduceLT, Int.reduceNeg, Int.reduceEq, Int.reduceLE, FV0, FV1, FV2, FV3, h1, h2, q3.kind, q3.num, q3.text, q3.list, hw.len, vlen_str T9, ofVal_str, strBin, eq_self, Bool.true_and, Bool.and_true, Bool.false_and, Bool.and_false, Bool.or_true, Bool.true_or, Bool.or_false, Bool.false_or, h22, hn, ht]
          exact hk3
      · simp only [k55_a, WK, vop, evAll, evOpt, evParts, vbuiltin, vun, vextract, Nat.reduceLT, Nat.reduceEqDiff, ↓reduceIte, reduceCtorEq, Nat.reduceAdd, Int.reduceLT, Int.reduceNeg, Int.reduceEq, Int.reduceLE, FV0, FV1, FV2, FV3, h1, h2, q3.kind, q3.num, q3.text, q3.list, hw.len, vlen_str T9, ofVal_str, strBin, eq_self, Bool.true_and, Bool.and_true, Bool.false_and, Bool.and_false, Bool.or_true, Bool.true_or, Bool.or_false, Bool.false_or, h22, hn]
        exact hk3
    · rw [fitsT_kind hk]
      rw [decide_eq_false hk] at h22
      simp only [k55_r2_e, WK, vop, evAll, evOpt, evParts, vbuiltin, vun, vextract, Nat.reduceLT, Nat.reduceEqDiff, ↓reduceIte, reduceCtorEq, Nat.reduceAdd, Int.reduceLT, Int.reduceNeg, h22]
      exact hk2.trans k3
  obtain ⟨q, σ', h1, rfl, h3⟩ := key
  exact ⟨σ', h1, h3⟩

theorem tmod2 (i : Nat) : Int.tmod (i : Int) 2 = ((i % 2 : Nat) : Int) := by rw [Int.tmod_eq_emod_of_nonneg (by omega)]; omega
theorem of_step {ks vs : List UInt8} {fk fv : Val → Bool} (Hk : FitOk 55 ks fk) (Hv : FitOk 55 vs fv) {e : Nat → V} {σ : St} {q p i : Nat} {c : List V} (hw : ValsW l w) (hwt : weights l ≤ 4294967295) (hi : i < l.length)
    (h2 : e 2 = .optr q 0) (h9 : e 9 = .int .i64 i) (h10 : e 10 = .optr p 0) (h11 : e 11 = .str (if i % 2 = 1 then vs else ks)) (hq : IsV σ q [.int .i64 k, .int .i64 n, .str t, w]) (hp : IsV σ p c) (hc : ValC l[i] c) :
    Ev Try.prog prims 145 (.region k55_r28) e σ (fun x e' σ' => x = .normal ∧ Keep σ σ' ∧ e' 143 = .bool (!okAt fk fv l i)) := by
  have hll := weights_len l
  have hmA := weights_mem (List.getElem_mem hi)
  have tm := tmod2 i
  have e20 : ((2 : Int) = 0) = False := eq_false (by decide)
  by_cases hev : i % 2 = 0
  · rw [if_neg (by omega)] at h11
    obtain ⟨s1, d1, k1⟩ := Hk l[i] c σ (by omega) hc
    have q1 := k1.atV hq
    have p1 := k1.atV hp
    have hev' : ((i % 2 : Nat) : Int) = 0 := by omega
    rw [hev'] at tm
    by_cases hi2 : 2 ≤ i
    · rw [okAt_even hi hev hi2]
      have w2 := idx_wrap2 hi2 (by omega)
      have hi3 : i - 2 < l.length := by omega
      obtain ⟨csC, cC, haC, hldC, hcC⟩ := hw.get hi3
      have hmC := weights_mem (List.getElem_mem hi3)
      obtain ⟨s4, d4, k4⟩ := refcompare_does (a := l[i - 2]) (b := l[i]) s1 (by omega) hcC hc
      have hpos : (1 : Int) < (i : Int) := by omega
      simp only [k55_r28_e, WK, vop, evAll, evOpt, evParts, vbuiltin, vun, vextract, Nat.reduceLT, Nat.reduceEqDiff, ↓reduceIte, reduceCtorEq, Nat.reduceAdd, Int.reduceLT, Int.reduceNeg, h2, h9, h10, h11, FV3, Int.reduceEq, tm, e20, hp.load hc.len]
      refine KD.ret d1 ?_
      cases hA : fk l[i] with
      | false =>
        simp only [k55_r28_e, WK, vop, evAll, evOpt, evParts, vbuiltin, vun, vextract, Nat.reduceLT, Nat.reduceEqDiff, ↓reduceIte, reduceCtorEq, Nat.reduceAdd, Int.reduceLT, Int.reduceNeg, h2, h9, h10, h11, FV3, Int.reduceEq, tm, e20, Bool.false_and]
        exact k1
      | true =>
        simp only [k55_r28_e, WK, vop, evAll, evOpt, evParts, vbuiltin, vun, vextract, Nat.reduceLT, Nat.reduceEqDiff, ↓reduceIte, reduceCtorEq, Nat.reduceAdd, Int.reduceLT, Int.reduceNeg, h2, h9, h10, h11, FV3, Int.reduceEq, tm, e20, hpos, eq_self, q1.list, w2, haC, hldC, p1.load hc.len]
        refine KD.ret d4 ?_
        by_cases hcm : cmpV l[i - 2] l[i] < 0
        · have hc' : ¬ (0 : Int) ≤ cmpV l[i - 2] l[i] := by omega
          simp only [k55_r28_e, WK, vop, evAll, evOpt, evParts, vbuiltin, vun, vextract, Nat.reduceLT, Nat.reduceEqDiff, ↓reduceIte, reduceCtorEq, Nat.reduceAdd, Int.reduceLT, Int.reduceNeg, h2, h9, h10, h11, FV3, Int.reduceEq, tm, e20, hcm, hc', Bool.true_and, Bool.and_true]
          exact k1.trans k4
        · have hc' : (0 : Int) ≤ cmpV l[i - 2] l[i] := by omega
          simp only [k55_r28_e, WK, vop, evAll, evOpt, evParts, vbuiltin, vun, vextract, Nat.reduceLT, Nat.reduceEqDiff, ↓reduceIte, reduceCtorEq, Nat.reduceAdd, Int.reduceLT, Int.reduceNeg, h2, h9, h10, h11, FV3, Int.reduceEq, tm, e20, hcm, hc', Bool.true_and, Bool.and_true]
          exact k1.trans k4
    · have hi0 : i = 0 := by omega
      subst hi0
      rw [okAt_even0 hi]
      have hpos : ¬ (1 : Int) < ((0 : Nat) : Int) := by omega
      simp only [k55_r28_e, WK, vop, evAll, evOpt, evParts, vbuiltin, vun, vextract, Nat.reduceLT, Nat.reduceEqDiff, ↓reduceIte, reduceCtorEq, Nat.reduceAdd, Int.reduceLT, Int.reduceNeg, h2, h9, h10, h11, FV3, Int.reduceEq, tm, e20, hp.load hc.len]
      refine KD.ret d1 ?_
      cases hA : fk l[0] with
      | false =>
        simp only [k55_r28_e, WK, vop, evAll, evOpt, evParts, vbuiltin, vun, vextract, Nat.reduceLT, Nat.reduceEqDiff, ↓reduceIte, reduceCtorEq, Nat.reduceAdd, Int.reduceLT, Int.reduceNeg, h2, h9, h10, h11, FV3, Int.reduceEq, tm, e20, Bool.false_and]
        exact k1
      | true =>
        simp only [k55_r28_e, WK, vop, evAll, evOpt, evParts, vbuiltin, vun, vextract, Nat.reduceLT, Nat.reduceEqDiff, ↓reduceIte, reduceCtorEq, Nat.reduceAdd, Int.reduceLT, Int.reduceNeg, h2, h9, h10, h11, FV3, Int.reduceEq, tm, e20, hpos, eq_self]
        exact k1
  · have hod : i % 2 = 1 := by omega
    rw [if_pos hod] at h11
    obtain ⟨s1, d1, k1⟩ := Hv l[i] c σ (by omega) hc
    rw [okAt_odd hi hod]
    have hev' : ((i % 2 : Nat) : Int) = 1 := by omega
    rw [hev'] at tm
    simp only [k55_r28_e, WK, vop, evAll, evOpt, evParts, vbuiltin, vun, vextract, Nat.reduceLT, Nat.reduceEqDiff, ↓reduceIte, reduceCtorEq, Nat.reduceAdd, Int.reduceLT, Int.reduceNeg, h2, h9, h10, h11, FV3, Int.reduceEq, tm, e20, hp.load hc.len]
    refine KD.ret d1 ?_
    cases hA : fv l[i] with
    | false =>
      simp only [k55_r28_e, WK, vop, evAll, evOpt, evParts, vbuiltin, vun, vextract, Nat.reduceLT, Nat.reduceEqDiff, ↓reduceIte, reduceCtorEq, Nat.reduceAdd, Int.reduceLT, Int.reduceNeg, h2, h9, h10, h11, FV3, Int.reduceEq, tm, e20, Bool.false_and]
      exact k1
    | true =>
      simp only [k55_r28_e, WK, vop, evAll, evOpt, evParts, vbuiltin, vun, vextract, Nat.reduceLT, Nat.reduceEqDiff, ↓reduceIte, reduceCtorEq, Nat.reduceAdd, Int.reduceLT, Int.reduceNeg, h2, h9, h10, h11, FV3, Int.reduceEq, tm, e20]
      exact k1

def I55m (σ0 : St) (fk fv : Val → Bool) (l : List Val) : Nat → (Nat → V) → St → Prop := fun i e σ => e 110 = .int .i64 i ∧ i ≤ l.length ∧ (∀ j, j < i → okAt fk fv l j = true) ∧ Keep σ0 σ
theorem of_map {T : Ty} {ks vs : List UInt8} {fk fv : Val → Bool} (hT : tyD T ≤ 4) (hls : listS (tyB T) = [] ∧ isListS (tyB T) = false ∧ keyS (tyB T) = ks ∧ valS (tyB T) = vs ∧ isMapS (tyB T) = true) (hTK : tyK T = 5) (hTf : fitsT T = fitMap fk fv)
    (Hk : FitOk 55 ks fk) (Hv : FitOk 55 vs fv) : FitOk 55 (tyB T) (fitsT T) := by
  intro v c σ hwt ha
  have key : ∃ q σ', Does Try.prog prims 55 [.agg c, .str (tyB T)] σ q σ' ∧ q = .ret (.bool (fitsT T v)) ∧ Keep σ σ' := by
    obtain ⟨k, n, t, l, w, rfl, rfl, hw, ik, im⟩ := ha.inv
    apply k55_is.does (by simp)
    obtain ⟨σ2, hσ2⟩ : ∃ σ2 : St, σ2 = ⟨σ.objs ++ [Ob.cells [.int .i64 k, .int .i64 n, .str t, w]], σ.toks⟩ := ⟨_, rfl⟩
    have hk2 : Keep σ σ2 := by rw [hσ2]; exact (Keep.refl σ).push _
    have q2 : IsV σ2 σ.objs.length [.int .i64 k, .int .i64 n, .str t, w] := by rw [hσ2]; exact push_new _ _
    have hlen := tyB_len T
    rw [weight] at hwt
    have hll := weights_len l
    simp only [k55_e, k55_r0_e, WK, vop, evAll, evOpt, evParts, vbuiltin, vun, vextract, Nat.reduceLT, Nat.reduceEqDiff, ↓reduceIte, reduceCtorEq, Nat.reduceAdd, Int.reduceLT, Int.reduceNeg, List.getD_cons_zero, List.getD_cons_succ, vbox, vcells, ← hσ2]
    refine Ev.cut (of_r1 (T := T) hT (t := t) (k := k) (n := n) (w := w) (q := σ.objs.length) (by simp [upd_some]) (by simp [upd_some]) q2) ?_
    rintro x en s3 ⟨rfl, k3, h22⟩ hwr
    have h1 : en 1 = .str (tyB T) := (hwr 1 (by decide)).trans (by simp [upd_some])
    have h2 : en 2 = .optr σ.objs.length 0 := (hwr 2 (by decide)).trans (by simp [upd_some])
    clear hwr
    have q3 := k3.atV q2
    by_cases hk : k = tyK T
    · rw [decide_eq_true hk] at h22
      have hk : k = 5 := by rw [← hTK]; exact hk
      subst hk
      have hk3 := hk2.trans k3
      clear hσ2 q2 ha
      rw [hTf]
      unfold fitMap
      have ht2 := tmod2 l.length
      have e20 : ((2 : Int) = 0) = False := eq_false (by decide)
      obtain ⟨g1, g2, g3, g4, g5⟩ := hls
      have hm := refmap_does (tyB T) (by omega) s3
      rw [g3, g4] at hm
      by_cases hn : n = 0
      · by_cases ht : t = []
        · simp only [k55_a, WK, vop, evAll, evOpt, evParts, vbuiltin, vun, vextract, Nat.reduceLT, Nat.reduceEqDiff, ↓reduceIte, reduceCtorEq, Nat.reduceAdd, Int.reduceLT, Int.reduceNeg, Int.reduceEq, Int.reduceLE, FV0, FV1, FV2, FV3, h1, h2, q3.kind, q3.num, q3.text, q3.list, hw.len, vlen_str T9, ofVal_str, strBin, eq_self, Bool.true_and, Bool.and_true, Bool.false_and, Bool.and_false, Bool.or_true, Bool.true_or, Bool.or_false, Bool.false_or, h22, hn, ht]
          refine KD.ret hm ?_
          simp only [k55_a, WK, vop, evAll, evOpt, evParts, vbuiltin, vun, vextract, Nat.reduceLT, Nat.reduceEqDiff, ↓reduceIte, reduceCtorEq, Nat.reduceAdd, Int.reduceLT, Int.reduceNeg, Int.reduceEq, Int.reduceLE, FV0, FV1, FV2, FV3, h1, h2, q3.kind, q3.num, q3.text, q3.list, hw.len, vlen_str T9, ofVal_str, strBin, eq_self, Bool.true_and, Bool.and_true, Bool.false_and, Bool.and_false, Bool.or_true, Bool.true_or, Bool.or_false, Bool.false_or, ht2, e20]
          by_cases hev : l.length % 2 = 0
          · have hev1 : ¬ ((l.length % 2 : Nat) : Int) = 1 := by omega
            have hev2 : (l.length : Int) % 2 = 0 := by omega
            simp only [k55_a, WK, vop, evAll, evOpt, evParts, vbuiltin, vun, vextract, Nat.reduceLT, Nat.reduceEqDiff, ↓reduceIte, reduceCtorEq, Nat.reduceAdd, Int.reduceLT, Int.reduceNeg, Int.reduceEq, Int.reduceLE, FV0, FV1, FV2, FV3, h1, h2, q3.kind, q3.num, q3.text, q3.list, hw.len, vlen_str T9, ofVal_str, strBin, eq_self, Bool.true_and, Bool.and_true, Bool.false_and, Bool.and_false, Bool.or_true, Bool.true_or, Bool.or_false, Bool.false_or, hev1, hev2]
            by_cases hgt : (128 : Int) < l.length
            · have hle : ¬ (l.length : Int) ≤ 128 := by omega
              simp only [k55_a, WK, vop, evAll, evOpt, evParts, vbuiltin, vun, vextract, Nat.reduceLT, Nat.reduceEqDiff, ↓reduceIte, reduceCtorEq, Nat.reduceAdd, Int.reduceLT, Int.reduceNeg, Int.reduceEq, Int.reduceLE, FV0, FV1, FV2, FV3, h1, h2, q3.kind, q3.num, q3.text, q3.list, hw.len, vlen_str T9, ofVal_str, strBin, eq_self, Bool.true_and, Bool.and_true, Bool.false_and, Bool.and_false, Bool.or_true, Bool.true_or, Bool.or_false, Bool.false_or, hgt, hle]
              exact hk3
            · have hle : (l.length : Int) ≤ 128 := by omega
              simp only [k55_a, WK, vop, evAll, evOpt, evParts, vbuiltin, vun, vextract, Nat.reduceLT, Nat.reduceEqDiff, ↓reduceIte, reduceCtorEq, Nat.reduceAdd, Int.reduceLT, Int.reduceNeg, Int.reduceEq, Int.reduceLE, FV0, FV1, FV2, FV3, h1, h2, q3.kind, q3.num, q3.text, q3.list, hw.len, vlen_str T9, ofVal_str, strBin, eq_self, Bool.true_and, Bool.and_true, Bool.false_and, Bool.and_false, Bool.or_true, Bool.true_or, Bool.or_false, Bool.false_or, hgt, hle]
              refine Ev.loopF (I55m s3 fk fv l) (fun i => l.length - i) 0 ⟨by simp [upd_some], by simp, fun j hj => by omega, Keep.refl _⟩ ?_
              rintro i ei σ1 ⟨h110, hi, hall, hk⟩ hf
              have h109 : ei 109 = .int .i64 l.length := (hf 109 (by decide)).trans (by simp [upd_some])
              have h108 : ei 108 = w := (hf 108 (by decide)).trans (by simp [upd_some])
              have h7' : ei 7 = .str ks := (hf 7 (by decide)).trans (by simp [upd_some])
              have h8' : ei 8 = .str vs := (hf 8 (by decide)).trans (by simp [upd_some])
              have h2' : ei 2 = .optr σ.objs.length 0 := (hf 2 (by decide)).trans (by simp [upd_some, h2])
              clear hf
              by_cases hlt : i < l.length
              · have hlt' : (i : Int) < l.length := by omega
                have hwi : IntKind.i64.wrap ((i : Int) + 1) = ((i + 1 : Nat) : Int) := idx_wrap (by omega)
                obtain ⟨cs, c, ha0, hld, hc⟩ := hw.get hlt
                obtain ⟨s5, hs5⟩ : ∃ s5 : St, s5 = ⟨(σ1.objs ++ [Ob.cells val0C]).set σ1.objs.length (Ob.cells c), σ1.toks⟩ := ⟨_, rfl⟩
                have p5 : IsV s5 σ1.objs.length c := by rw [hs5]; exact IsV.made
                have k5 : Keep σ1 s5 := by rw [hs5]; exact (Keep.refl σ1).madeV _ _
                have q5 := (hk.trans k5).atV q3
                have tmi := tmod2 i
                have step : ∀ (e6 : Nat → V), e6 2 = .optr σ.objs.length 0 → e6 9 = .int .i64 i → e6 10 = .optr σ1.objs.length 0 → e6 11 = .str (if i % 2 = 1 then vs else ks) → e6 110 = .int .i64 i → Ev Try.prog prims 145 (.region k55_r28) e6 s5 (fun x e' σ' => x = .normal ∧ Keep s5 σ' ∧ e' 143 = .bool (!okAt fk fv l i) ∧ e' 110 = .int .i64 i) := by
                  intro e6 z2 z9 z10 z11 z110
                  refine Ev.cut (of_step (t := t) (k := 5) (n := n) Hk Hv hw (by omega) hlt z2 z9 z10 z11 q5 p5 hc) ?_
                  rintro x e' s6 ⟨rfl, k6, h143⟩ hwr
                  exact ⟨rfl, k6, h143, (hwr 110 (by decide)).trans z110⟩
                simp only [k55_l1_e, k55_r23_e, k55_r24_e, k55_r25_e, k55_r26_e, WK, vop, evAll, evOpt, evParts, vbuiltin, vun, vextract, Nat.reduceLT, Nat.reduceEqDiff, ↓reduceIte, reduceCtorEq, Nat.reduceAdd, Int.reduceLT, Int.reduceNeg, h7', h108, h109, h110, hlt', ha0, hld, VZ24, vbox, vcells, IsV.new hc.len (show val0C.length = 4 from rfl) hc.one, ← hs5, tmi, e20]
                by_cases hev3 : i % 2 = 0
                · have hm1 : ¬ ((i % 2 : Nat) : Int) = 1 := by omega
                  simp only [k55_r27_e, WK, vop, evAll, evOpt, evParts, vbuiltin, vun, vextract, Nat.reduceLT, Nat.reduceEqDiff, ↓reduceIte, reduceCtorEq, Nat.reduceAdd, Int.reduceLT, Int.reduceNeg, hm1, h8']
                  rw [← Ev_region]
                  refine Ev.cut (step _ (by simp [upd_some, h2']) (by simp [upd_some]) (by simp [upd_some]) (by rw [if_neg (by omega)]; simp [upd_some]) (by simp [upd_some, h110])) ?_
                  rintro x e' s6 ⟨rfl, k6, h143, h110'⟩ hwr
                  clear hwr
                  cases hok : okAt fk fv l i with
                  | true =>
                    rw [hok] at h143
                    simp only [k55_r30_e, WK, vop, evAll, evOpt, evParts, vbuiltin, vun, vextract, Nat.reduceLT, Nat.reduceEqDiff, ↓reduceIte, reduceCtorEq, Nat.reduceAdd, Int.reduceLT, Int.reduceNeg, h143, h110', hwi]
                    refine ⟨i + 1, ⟨by simp [upd_some], hlt, fun j hj => ?_, (hk.trans k5).trans k6⟩, by omega⟩
                    rcases Nat.lt_or_ge j i with h9 | h9
                    · exact hall j h9
                    · have : j = i := by omega
                      subst this
                      exact hok
                  | false =>
                    rw [hok] at h143
                    simp only [k55_r29_e, WK, vop, evAll, evOpt, evParts, vbuiltin, vun, vextract, Nat.reduceLT, Nat.reduceEqDiff, ↓reduceIte, reduceCtorEq, Nat.reduceAdd, Int.reduceLT, Int.reduceNeg, h143]
                    exact ⟨by rw [okAll_false hlt hok], hk3.trans ((hk.trans k5).trans k6)⟩
                · have hm1 : ((i % 2 : Nat) : Int) = 1 := by omega
                  simp only [k55_r27_e, WK, vop, evAll, evOpt, evParts, vbuiltin, vun, vextract, Nat.reduceLT, Nat.reduceEqDiff, ↓reduceIte, reduceCtorEq, Nat.reduceAdd, Int.reduceLT, Int.reduceNeg, hm1, h8']
                  rw [← Ev_region]
                  refine Ev.cut (step _ (by simp [upd_some, h2']) (by simp [upd_some]) (by simp [upd_some]) (by rw [if_pos (by omega)]; simp [upd_some]) (by simp [upd_some, h110])) ?_
                  rintro x e' s6 ⟨rfl, k6, h143, h110'⟩ hwr
                  clear hwr
                  cases hok : okAt fk fv l i with
                  | true =>
                    rw [hok] at h143
                    simp only [k55_r30_e, WK, vop, evAll, evOpt, evParts, vbuiltin, vun, vextract, Nat.reduceLT, Nat.reduceEqDiff, ↓reduceIte, reduceCtorEq, Nat.reduceAdd, Int.reduceLT, Int.reduceNeg, h143, h110', hwi]
                    refine ⟨i + 1, ⟨by simp [upd_some], hlt, fun j hj => ?_, (hk.trans k5).trans k6⟩, by omega⟩
                    rcases Nat.lt_or_ge j i with h9 | h9
                    · exact hall j h9
                    · have : j = i := by omega
                      subst this
                      exact hok
                  | false =>
                    rw [hok] at h143
                    simp only [k55_r29_e, WK, vop, evAll, evOpt, evParts, vbuiltin, vun, vextract, Nat.reduceLT, Nat.reduceEqDiff, ↓reduceIte, reduceCtorEq, Nat.reduceAdd, Int.reduceLT, Int.reduceNeg, h143]
                    exact ⟨by rw [okAll_false hlt hok], hk3.trans ((hk.trans k5).trans k6)⟩
              · have hlt' : ¬ (i : Int) < l.length := by omega
                have q4 := hk.atV q3
                simp only [k55_a, WK, vop, evAll, evOpt, evParts, vbuiltin, vun, vextract, Nat.reduceLT, Nat.reduceEqDiff, ↓reduceIte, reduceCtorEq, Nat.reduceAdd, Int.reduceLT, Int.reduceNeg, h109, h110, hlt']
                exact ⟨by rw [okAll_true fun j hj => hall j (by omega)], hk3.trans hk⟩
          · have hev1 : ((l.length % 2 : Nat) : Int) = 1 := by omega
            have hev2 : ¬ (l.length : Int) % 2 = 0 := by omega
            simp only [k55_a, WK, vop, evAll, evOpt, evParts, vbuiltin, vun, vextract, Nat.reduceLT, Nat.reduceEqDiff, ↓reduceIte, reduceCtorEq, Nat.reduceAdd, Int.reduceLT, Int.reduceNeg, Int.reduceEq, Int.reduceLE, FV0, FV1, FV2, FV3, h1, h2, q3.kind, q3.num, q3.text, q3.list, hw.len, vlen_str T9, ofVal_str, strBin, eq_self, Bool.true_and, Bool.and_true, Bool.false_and, Bool.and_false, Bool.or_true, Bool.true_or, Bool.or_false, Bool.false_or, hev1, hev2]
            exact hk3
        · simp only [k55_a, WK, vop, evAll, evOpt, evParts, vbuiltin, vun, vextract, Nat.reduceLT, Nat.reduceEqDiff, ↓reduceIte, reduceCtorEq, Nat.reduceAdd, Int.reduceLT, Int.reduceNeg, Int.reduceEq, Int.reduceLE, FV0, FV1, FV2, FV3, h1, h2, q3.kind, q3.num, q3.text, q3.list, hw.len, vlen_str T9, ofVal_str, strBin, eq_self, Bool.true_and, Bool.and_true, Bool.false_and, Bool.and_false, Bool.or_true, Bool.true_or, Bool.or_false, Bool.false_or, h22, hn, ht]
          exact hk3
      · simp only [k55_a, WK, vop, evAll, evOpt, evParts, vbuiltin, vun, vextract, Nat.reduceLT, Nat.reduceEqDiff, ↓reduceIte, reduceCtorEq, Nat.reduceAdd, Int.reduceLT, Int.reduceNeg, Int.reduceEq, Int.reduceLE, FV0, FV1, FV2, FV3, h1, h2, q3.kind, q3.num, q3.text, q3.list, hw.len, vlen_str T9, ofVal_str, strBin, eq_self, Bool.true_and, Bool.and_true, Bool.false_and, Bool.and_false, Bool.or_true, Bool.true_or, Bool.or_false, Bool.false_or, h22, hn]
        exact hk3
    · rw [fitsT_kind hk]
      rw [decide_eq_false hk] at h22
      simp only [k55_r2_e, WK, vop, evAll, evOpt, evParts, vbuiltin, vun, vextract, Nat.reduceLT, Nat.reduceEqDiff, ↓reduceIte, reduceCtorEq, Nat.reduceAdd, Int.reduceLT, Int.reduceNeg, h22]
      exact hk2.trans k3
  obtain ⟨q, σ', h1, rfl, h3⟩ := key
  exact ⟨σ', h1, h3⟩

theorem of_does : ∀ (T : Ty), tyD T ≤ 4 → FitOk 55 (tyB T) (fitsT T)
  | .int, _ => of_int
  | .bool, _ => of_bool
  | .text, _ => of_text
  | .list e, h => of_list h (of_does e (by simp only [tyD] at h; omega))
  | .mapI e, h => of_map h (tyS_mapI h) rfl rfl of_int (of_does e (by simp only [tyD] at h; omega))
  | .mapT e, h => of_map h (tyS_mapT h) rfl rfl of_text (of_does e (by simp only [tyD] at h; omega))
theorem reffits_does {s : List UInt8} {v : Val} {c : List V} (hl : s.length ≤ 4294967296) (σ : St) (hwt : weight v ≤ 4294967296) (ha : ValC v c) : ∃ σ', Does Try.prog prims 25 [.agg c, .str s] σ (.ret (.bool (fitsS s v))) σ' ∧ Keep σ σ' := by
  have key : ∃ q σ', Does Try.prog prims 25 [.agg c, .str s] σ q σ' ∧ q = .ret (.bool (fitsS s v)) ∧ Keep σ σ' := by
    apply k25_is.does (by simp)
    obtain ⟨s1, hs1⟩ : ∃ s1 : St, s1 = ⟨σ.objs ++ [Ob.cells c], σ.toks⟩ := ⟨_, rfl⟩
    have k1 : Keep σ s1 := by rw [hs1]; exact (Keep.refl σ).push _
    have q1 : IsV s1 σ.objs.length c := by rw [hs1]; exact push_new _ _
    simp only [k25_a, WK, vop, evAll, evOpt, evParts, vbuiltin, vun, vextract, Nat.reduceLT, Nat.reduceEqDiff, ↓reduceIte, reduceCtorEq, Nat.reduceAdd, Int.reduceLT, Int.reduceNeg, List.getD_cons_zero, List.getD_cons_succ, vbox, vcells, ← hs1]
    refine KD.ret (reftype_does s hl s1) ?_
    unfold fitsS
    cases h : tyS s with
    | none =>
      simp only [k25_a, WK, vop, evAll, evOpt, evParts, vbuiltin, vun, vextract, Nat.reduceLT, Nat.reduceEqDiff, ↓reduceIte, reduceCtorEq, Nat.reduceAdd, Int.reduceLT, Int.reduceNeg, Option.isSome_none]
      exact k1
    | some T =>
      obtain ⟨rfl, h4⟩ := tyS_iff.1 h
      obtain ⟨s2, d2, k2⟩ := refweight_does s1 hwt ha
      have q2 := k2.atV q1
      obtain ⟨s3, d3, k3⟩ := of_does T h4 v c s2 hwt ha
      simp only [k25_a, WK, vop, evAll, evOpt, evParts, vbuiltin, vun, vextract, Nat.reduceLT, Nat.reduceEqDiff, ↓reduceIte, reduceCtorEq, Nat.reduceAdd, Int.reduceLT, Int.reduceNeg, List.getD_cons_zero, List.getD_cons_succ, Option.isSome_some, q1.load ha.len]
      refine KD.ret d2 ?_
      by_cases hb : (weight v : Int) ≤ 16384
      · simp only [k25_a, WK, vop, evAll, evOpt, evParts, vbuiltin, vun, vextract, Nat.reduceLT, Nat.reduceEqDiff, ↓reduceIte, reduceCtorEq, Nat.reduceAdd, Int.reduceLT, Int.reduceNeg, List.getD_cons_zero, List.getD_cons_succ, hb, q2.load ha.len, Bool.true_and]
        refine KD.ret d3 ?_
        simp only [k25_a, WK, vop, evAll, evOpt, evParts, vbuiltin, vun, vextract, Nat.reduceLT, Nat.reduceEqDiff, ↓reduceIte, reduceCtorEq, Nat.reduceAdd, Int.reduceLT, Int.reduceNeg]
        exact (k1.trans k2).trans k3
      · simp only [k25_a, WK, vop, evAll, evOpt, evParts, vbuiltin, vun, vextract, Nat.reduceLT, Nat.reduceEqDiff, ↓reduceIte, reduceCtorEq, Nat.reduceAdd, Int.reduceLT, Int.reduceNeg, hb, Bool.false_and]
        exact k1.trans k2
  obtain ⟨q, σ', h1, rfl, h3⟩ := key
  exact ⟨σ', h1, h3⟩
end
end Go.Proofs.Ytlimedbanpfkgaa.Q
