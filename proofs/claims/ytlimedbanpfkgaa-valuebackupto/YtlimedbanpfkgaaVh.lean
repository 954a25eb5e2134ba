import Derived.Test.YtlimedbanpfkgaaVg
set_option linter.unusedVariables false
set_option linter.unusedSimpArgs false
namespace Go.Proofs.Ytlimedbanpfkgaa.Q
open Go Go.RowKit Go.Proofs

def is1 (s : List UInt8) : Bool := decide (2 < s.length) && (decide (s[0]? = some 91) && decide (s.getLast? = some 93))
def isM (k : Nat) (m s : List UInt8) : Bool := decide (k < s.length) && (decide (s.take m.length = m) && decide (s.getLast? = some 125))
def innerS (s : List UInt8) : Option (List UInt8) := if is1 s then some (mid 1 s) else if isM 6 mI s then some (mid 5 s) else if isM 7 mT s then some (mid 6 s) else none
def depF : Nat → List UInt8 → Nat
  | 0, _ => 0
  | n + 1, s => if s = intB ∨ s = boolB ∨ s = textB then 1 else match innerS s with
    | none => 0
    | some t => if 200 < s.length then 0 else if depF n t = 0 then 0 else depF n t + 1

theorem last_of {s : List UInt8} (h : 0 < s.length) : ∃ c, s[s.length - 1]? = some c ∧ s.getLast? = some c := by
  refine ⟨_, List.getElem?_eq_getElem (by omega), ?_⟩
  rw [List.getLast?_eq_getElem?]
  exact List.getElem?_eq_getElem (by omega)
theorem wrap_len {s : List UInt8} (h : 0 < s.length) (hl : s.length ≤ 4294967296) : IntKind.i64.wrap ((s.length : Int) - 1) = ((s.length - 1 : Nat) : Int) := by rw [wrap_i64 (by omega) (by omega)]; omega
theorem some_u8 (c d : UInt8) : decide (some c = some d) = decide ((c.toNat : Int) = (d.toNat : Int)) := by rw [u8_eq, decide_eq_decide, Option.some.injEq]

theorem depth_r4 {s : List UInt8} (hl : s.length ≤ 4294967296) {e : Nat → V} {σ : St} (h0 : e 0 = .str s) : Ev Try.prog prims 87 (.region k66_r4) e σ (fun x e' σ' => x = .normal ∧ σ' = σ ∧ e' 30 = .bool (is1 s)) := by
  unfold is1
  by_cases h2 : (2 : Int) < s.length
  · have h2' : 2 < s.length := by omega
    obtain ⟨c, hc, hg⟩ := last_of (s := s) (by omega)
    obtain ⟨a, ha⟩ : ∃ a, s[0]? = some a := ⟨_, List.getElem?_eq_getElem (by omega)⟩
    have w1 := wrap_len (s := s) (by omega) hl
    have e91 : (91 : Int) = ((91 : UInt8).toNat : Int) := rfl
    have e93 : (93 : Int) = ((93 : UInt8).toNat : Int) := rfl
    have i0 : vindex Try.prog 9 (.str s) (.int .i64 0) = some (.int .u8 (a.toNat : Int)) := str_at (n := 0) ha
    rw [ha, hg, some_u8, some_u8, ← e91, ← e93]
    cases h3 : decide ((a.toNat : Int) = 91) with
    | true => simp only [k66_r4_e, WK, vop, evAll, evOpt, evParts, vbuiltin, vun, vextract, Nat.reduceLT, Nat.reduceEqDiff, ↓reduceIte, reduceCtorEq, Nat.reduceAdd, Int.reduceLT, Int.reduceNeg, h0, h2, h2', vlen_str T9, i0, h3, w1, str_at hc, Bool.true_and]
    | false => simp only [k66_r4_e, WK, vop, evAll, evOpt, evParts, vbuiltin, vun, vextract, Nat.reduceLT, Nat.reduceEqDiff, ↓reduceIte, reduceCtorEq, Nat.reduceAdd, Int.reduceLT, Int.reduceNeg, h0, h2, h2', vlen_str T9, i0, h3, Bool.true_and, Bool.false_and]
  · have h2' : ¬ 2 < s.length := by omega
    simp only [k66_r4_e, WK, vop, evAll, evOpt, evParts, vbuiltin, vun, vextract, Nat.reduceLT, Nat.reduceEqDiff, ↓reduceIte, reduceCtorEq, Nat.reduceAdd, Int.reduceLT, Int.reduceNeg, h0, h2, h2', vlen_str T9, Bool.false_and]

theorem depth_r6 {s : List UInt8} (hl : s.length ≤ 4294967296) {e : Nat → V} {σ : St} (h0 : e 0 = .str s) : Ev Try.prog prims 87 (.region k66_r6) e σ (fun x e' σ' => x = .normal ∧ σ' = σ ∧ e' 51 = .bool (isM 6 mI s)) := by
  unfold isM
  by_cases h2 : (6 : Int) < s.length
  · have h2' : 6 < s.length := by omega
    obtain ⟨c, hc, hg⟩ := last_of (s := s) (by omega)
    have w1 := wrap_len (s := s) (by omega) hl
    have e125 : (125 : Int) = ((125 : UInt8).toNat : Int) := rfl
    have i5 : vslice Try.prog 9 (.str s) none (some (.int .i64 5)) none = some (.str (s.take 5)) := str_hi (n := 5) (by omega)
    rw [hg, some_u8, ← e125]
    cases h3 : decide (s.take mI.length = mI) with
    | true =>
      have h3' : decide (s.take 5 = [123, 105, 110, 116, 58]) = true := h3
      simp only [k66_r6_e, WK, vop, evAll, evOpt, evParts, vbuiltin, vun, vextract, Nat.reduceLT, Nat.reduceEqDiff, ↓reduceIte, reduceCtorEq, Nat.reduceAdd, Int.reduceLT, Int.reduceNeg, h0, h2, h2', vlen_str T9, T9, i5, ofVal_str, strBin, h3', w1, str_at hc, Bool.true_and]
    | false =>
      have h3' : decide (s.take 5 = [123, 105, 110, 116, 58]) = false := h3
      simp only [k66_r6_e, WK, vop, evAll, evOpt, evParts, vbuiltin, vun, vextract, Nat.reduceLT, Nat.reduceEqDiff, ↓reduceIte, reduceCtorEq, Nat.reduceAdd, Int.reduceLT, Int.reduceNeg, h0, h2, h2', vlen_str T9, T9, i5, ofVal_str, strBin, h3', Bool.true_and, Bool.false_and]
  · have h2' : ¬ 6 < s.length := by omega
    simp only [k66_r6_e, WK, vop, evAll, evOpt, evParts, vbuiltin, vun, vextract, Nat.reduceLT, Nat.reduceEqDiff, ↓reduceIte, reduceCtorEq, Nat.reduceAdd, Int.reduceLT, Int.reduceNeg, h0, h2, h2', vlen_str T9, Bool.false_and]

theorem depth_r8 {s : List UInt8} (hl : s.length ≤ 4294967296) {e : Nat → V} {σ : St} (h0 : e 0 = .str s) : Ev Try.prog prims 87 (.region k66_r8) e σ (fun x e' σ' => x = .normal ∧ σ' = σ ∧ e' 72 = .bool (isM 7 mT s)) := by
  unfold isM
  by_cases h2 : (7 : Int) < s.length
  · have h2' : 7 < s.length := by omega
    obtain ⟨c, hc, hg⟩ := last_of (s := s) (by omega)
    have w1 := wrap_len (s := s) (by omega) hl
    have e125 : (125 : Int) = ((125 : UInt8).toNat : Int) := rfl
    have i5 : vslice Try.prog 9 (.str s) none (some (.int .i64 6)) none = some (.str (s.take 6)) := str_hi (n := 6) (by omega)
    rw [hg, some_u8, ← e125]
    cases h3 : decide (s.take mT.length = mT) with
    | true =>
      have h3' : decide (s.take 6 = [123, 116, 101, 120, 116, 58]) = true := h3
      simp only [k66_r8_e, WK, vop, evAll, evOpt, evParts, vbuiltin, vun, vextract, Nat.reduceLT, Nat.reduceEqDiff, ↓reduceIte, reduceCtorEq, Nat.reduceAdd, Int.reduceLT, Int.reduceNeg, h0, h2, h2', vlen_str T9, T9, i5, ofVal_str, strBin, h3', w1, str_at hc, Bool.true_and]
    | false =>
      have h3' : decide (s.take 6 = [123, 116, 101, 120, 116, 58]) = false := h3
      simp only [k66_r8_e, WK, vop, evAll, evOpt, evParts, vbuiltin, vun, vextract, Nat.reduceLT, Nat.reduceEqDiff, ↓reduceIte, reduceCtorEq, Nat.reduceAdd, Int.reduceLT, Int.reduceNeg, h0, h2, h2', vlen_str T9, T9, i5, ofVal_str, strBin, h3', Bool.true_and, Bool.false_and]
  · have h2' : ¬ 7 < s.length := by omega
    simp only [k66_r8_e, WK, vop, evAll, evOpt, evParts, vbuiltin, vun, vextract, Nat.reduceLT, Nat.reduceEqDiff, ↓reduceIte, reduceCtorEq, Nat.reduceAdd, Int.reduceLT, Int.reduceNeg, h0, h2, h2', vlen_str T9, Bool.false_and]

theorem mid_len {s : List UInt8} {k : Nat} (h : 0 < s.length) : (mid k s).length < s.length := by
  unfold mid; rw [List.length_drop, List.length_dropLast]; omega
theorem mid_slice {s : List UInt8} {k : Nat} (h : k ≤ s.length - 1) : vslice Try.prog 9 (.str s) (some (.int .i64 (k : Int))) (some (.int .i64 ((s.length - 1 : Nat) : Int))) none = some (.str (mid k s)) := by
  rw [str_lohi h (by omega)]
  unfold mid
  rw [List.dropLast_eq_take]
theorem depF_le : ∀ (n : Nat) (s : List UInt8), depF n s ≤ s.length + 1
  | 0, s => by simp [depF]
  | n + 1, s => by
    rw [depF]
    split
    · omega
    · split
      · omega
      · rename_i t ht
        have hlt : t.length < s.length := by
          unfold innerS at ht
          split at ht
          · rename_i h; injection ht with ht; subst ht
            simp only [is1, Bool.and_eq_true, decide_eq_true_eq] at h
            exact mid_len (by omega)
          split at ht
          · rename_i h; injection ht with ht; subst ht
            simp only [isM, Bool.and_eq_true, decide_eq_true_eq] at h
            exact mid_len (by omega)
          split at ht
          · rename_i h; injection ht with ht; subst ht
            simp only [isM, Bool.and_eq_true, decide_eq_true_eq] at h
            exact mid_len (by omega)
          · cases ht
        have := depF_le n t
        split
        · omega
        · split <;> omega

set_option maxRecDepth 100000 in
theorem depth_does : ∀ (n : Nat) (s : List UInt8) (σ : St), s.length < n → s.length ≤ 4294967296 → Does Try.prog prims 66 [.str s] σ (.ret (.int .i64 (depF n s : Nat))) σ := by
  intro n
  induction n with
  | zero => intro s σ h; omega
  | succ n ih =>
    intro s σ hn hl
    apply k66_is.ret (by simp)
    rw [depF]
    by_cases h1 : s = [105, 110, 116]
    · rw [if_pos (.inl h1)]
      have b1 : decide (s = [105, 110, 116]) = true := decide_eq_true h1
      simp only [k66_e, k66_r0_e, k66_r1_e, k66_r2_e, k66_r3_e, k66_r5_e, k66_r7_e, k66_r9_e, k66_r10_e, k66_r11_e, k66_r12_e, k66_r13_e, k66_r14_e, k66_r15_e, k66_r16_e, WK, vop, evAll, evOpt, evParts, vbuiltin, vun, vextract, Nat.reduceLT, Nat.reduceEqDiff, ↓reduceIte, reduceCtorEq, Nat.reduceAdd, Int.reduceLT, Int.reduceNeg, List.getD_cons_zero, ofVal_str, strBin, b1]
      rfl
    have b1 : decide (s = [105, 110, 116]) = false := decide_eq_false h1
    by_cases h2 : s = [98, 111, 111, 108]
    · rw [if_pos (.inr (.inl h2))]
      have b2 : decide (s = [98, 111, 111, 108]) = true := decide_eq_true h2
      simp only [k66_e, k66_r0_e, k66_r1_e, k66_r2_e, k66_r3_e, k66_r5_e, k66_r7_e, k66_r9_e, k66_r10_e, k66_r11_e, k66_r12_e, k66_r13_e, k66_r14_e, k66_r15_e, k66_r16_e, WK, vop, evAll, evOpt, evParts, vbuiltin, vun, vextract, Nat.reduceLT, Nat.reduceEqDiff, ↓reduceIte, reduceCtorEq, Nat.reduceAdd, Int.reduceLT, Int.reduceNeg, List.getD_cons_zero, ofVal_str, strBin, b1, b2]
      rfl
    have b2 : decide (s = [98, 111, 111, 108]) = false := decide_eq_false h2
    by_cases h3 : s = [116, 101, 120, 116]
    · rw [if_pos (.inr (.inr h3))]
      have b3 : decide (s = [116, 101, 120, 116]) = true := decide_eq_true h3
      simp only [k66_e, k66_r0_e, k66_r1_e, k66_r2_e, k66_r3_e, k66_r5_e, k66_r7_e, k66_r9_e, k66_r10_e, k66_r11_e, k66_r12_e, k66_r13_e, k66_r14_e, k66_r15_e, k66_r16_e, WK, vop, evAll, evOpt, evParts, vbuiltin, vun, vextract, Nat.reduceLT, Nat.reduceEqDiff, ↓reduceIte, reduceCtorEq, Nat.reduceAdd, Int.reduceLT, Int.reduceNeg, List.getD_cons_zero, ofVal_str, strBin, b1, b2, b3]
      rfl
    have b3 : decide (s = [116, 101, 120, 116]) = false := decide_eq_false h3
    rw [if_neg (by rintro (h | h | h); exact h1 h; exact h2 h; exact h3 h)]
    simp only [k66_e, k66_r0_e, k66_r1_e, k66_r2_e, k66_r3_e, k66_r5_e, k66_r7_e, k66_r9_e, k66_r10_e, k66_r11_e, k66_r12_e, k66_r13_e, k66_r14_e, k66_r15_e, k66_r16_e, WK, vop, evAll, evOpt, evParts, vbuiltin, vun, vextract, Nat.reduceLT, Nat.reduceEqDiff, ↓reduceIte, reduceCtorEq, Nat.reduceAdd, Int.reduceLT, Int.reduceNeg, List.getD_cons_zero, ofVal_str, strBin, b1, b2, b3]
    rw [← Ev_region]
    refine Ev.cut (depth_r4 (s := s) hl (by simp [upd_some])) ?_
    rintro x e σ' ⟨rfl, rfl, h30⟩ hw
    have g0 : e 0 = .str s := (hw 0 (by decide)).trans (by simp [upd_some])
    clear hw
    have rest : ∀ (k : Nat) (e : Nat → V), e 0 = .str s → k < s.length → ∀ (Q : VX → (Nat → V) → St → Prop), (∀ e', e' 2 = .int .i64 ((if 200 < s.length then 0 else if depF n (mid k s) = 0 then 0 else depF n (mid k s) + 1 : Nat) : Int) → Q .ret e' σ') → e 3 = .str (mid k s) → Ev Try.prog prims 87 (.seq (.seq (.region k66_r11) (.cond (.tmp 80) (.seq (.region k66_r12) .ret) .skip)) (.seq (.region k66_r13) (.seq (.seq (.region k66_r14) (.cond (.tmp 84) (.seq (.region k66_r15) .ret) .skip)) (.seq (.region k66_r16) .ret)))) e σ' Q := by
      intro k e g0 hk Q hQ g3
      have hml := mid_len (s := s) (k := k) (by omega)
      by_cases h200 : (200 : Int) < s.length
      · simp only [k66_e, k66_r0_e, k66_r1_e, k66_r2_e, k66_r3_e, k66_r5_e, k66_r7_e, k66_r9_e, k66_r10_e, k66_r11_e, k66_r12_e, k66_r13_e, k66_r14_e, k66_r15_e, k66_r16_e, WK, vop, evAll, evOpt, evParts, vbuiltin, vun, vextract, Nat.reduceLT, Nat.reduceEqDiff, ↓reduceIte, reduceCtorEq, Nat.reduceAdd, Int.reduceLT, Int.reduceNeg, g0, g3, vlen_str T9, h200]
        refine hQ _ ?_
        rw [if_pos (by omega)]
        simp [upd_some]
      · simp only [k66_e, k66_r0_e, k66_r1_e, k66_r2_e, k66_r3_e, k66_r5_e, k66_r7_e, k66_r9_e, k66_r10_e, k66_r11_e, k66_r12_e, k66_r13_e, k66_r14_e, k66_r15_e, k66_r16_e, WK, vop, evAll, evOpt, evParts, vbuiltin, vun, vextract, Nat.reduceLT, Nat.reduceEqDiff, ↓reduceIte, reduceCtorEq, Nat.reduceAdd, Int.reduceLT, Int.reduceNeg, g0, g3, vlen_str T9, h200]
        refine KD.ret (ih (mid k s) σ' (by omega) (by omega)) ?_
        rw [if_neg (by omega)] at hQ
        have hle := depF_le n (mid k s)
        by_cases hz : depF n (mid k s) = 0
        · have hz' : ((depF n (mid k s) : Nat) : Int) = 0 := by omega
          rw [if_pos hz] at hQ
          simp only [k66_e, k66_r0_e, k66_r1_e, k66_r2_e, k66_r3_e, k66_r5_e, k66_r7_e, k66_r9_e, k66_r10_e, k66_r11_e, k66_r12_e, k66_r13_e, k66_r14_e, k66_r15_e, k66_r16_e, WK, vop, evAll, evOpt, evParts, vbuiltin, vun, vextract, Nat.reduceLT, Nat.reduceEqDiff, ↓reduceIte, reduceCtorEq, Nat.reduceAdd, Int.reduceLT, Int.reduceNeg, hz']
          exact hQ _ (by simp [upd_some])
        · have hz' : ¬ ((depF n (mid k s) : Nat) : Int) = 0 := by omega
          rw [if_neg hz] at hQ
          have w2 : IntKind.i64.wrap ((depF n (mid k s) : Nat) + 1 : Int) = ((depF n (mid k s) + 1 : Nat) : Int) := by rw [wrap_i64 (by omega) (by omega)]; omega
          simp only [k66_e, k66_r0_e, k66_r1_e, k66_r2_e, k66_r3_e, k66_r5_e, k66_r7_e, k66_r9_e, k66_r10_e, k66_r11_e, k66_r12_e, k66_r13_e, k66_r14_e, k66_r15_e, k66_r16_e, WK, vop, evAll, evOpt, evParts, vbuiltin, vun, vextract, Nat.reduceLT, Nat.reduceEqDiff, ↓reduceIte, reduceCtorEq, Nat.reduceAdd, Int.reduceLT, Int.reduceNeg, hz', w2]
          exact hQ _ (by simp [upd_some])
    simp only [WK, vop, evAll, evOpt, evParts, vbuiltin, vun, vextract, Nat.reduceLT, Nat.reduceEqDiff, ↓reduceIte, reduceCtorEq, Nat.reduceAdd, Int.reduceLT, Int.reduceNeg] at rest
    unfold innerS
    cases hi1 : is1 s with
    | true =>
      have hlen : 2 < s.length := by simp only [is1, Bool.and_eq_true, decide_eq_true_eq] at hi1; exact hi1.1
      have w1 := wrap_len (s := s) (by omega) hl
      have ms : vslice Try.prog 9 (.str s) (some (.int .i64 1)) (some (.int .i64 ((s.length - 1 : Nat) : Int))) none = some (.str (mid 1 s)) := mid_slice (k := 1) (by omega)
      rw [hi1] at h30
      simp only [k66_r5_e, WK, vop, evAll, evOpt, evParts, vbuiltin, vun, vextract, Nat.reduceLT, Nat.reduceEqDiff, ↓reduceIte, reduceCtorEq, Nat.reduceAdd, Int.reduceLT, Int.reduceNeg, h30, g0, vlen_str T9, T9, w1, ms, if_true]
      refine rest 1 _ (by simp [upd_some, g0]) (by omega) _ ?_ (by simp [upd_some])
      intro e' g2
      simp only [WK, vop, evAll, evOpt, evParts, vbuiltin, vun, vextract, Nat.reduceLT, Nat.reduceEqDiff, ↓reduceIte, reduceCtorEq, Nat.reduceAdd, Int.reduceLT, Int.reduceNeg, g2]
    | false =>
      rw [hi1] at h30
      simp only [WK, vop, evAll, evOpt, evParts, vbuiltin, vun, vextract, Nat.reduceLT, Nat.reduceEqDiff, ↓reduceIte, reduceCtorEq, Nat.reduceAdd, Int.reduceLT, Int.reduceNeg, h30, Bool.false_eq_true, if_false]
      rw [← Ev_region]
      refine Ev.cut (depth_r6 hl g0) ?_
      rintro x e2 σ2 ⟨rfl, rfl, h51⟩ hw
      have f0 : e2 0 = .str s := (hw 0 (by decide)).trans g0
      clear hw
      cases hi2 : isM 6 mI s with
      | true =>
        have hlen : 6 < s.length := by simp only [isM, Bool.and_eq_true, decide_eq_true_eq] at hi2; exact hi2.1
        have w1 := wrap_len (s := s) (by omega) hl
        have ms : vslice Try.prog 9 (.str s) (some (.int .i64 5)) (some (.int .i64 ((s.length - 1 : Nat) : Int))) none = some (.str (mid 5 s)) := mid_slice (k := 5) (by omega)
        rw [hi2] at h51
        simp only [k66_r7_e, WK, vop, evAll, evOpt, evParts, vbuiltin, vun, vextract, Nat.reduceLT, Nat.reduceEqDiff, ↓reduceIte, reduceCtorEq, Nat.reduceAdd, Int.reduceLT, Int.reduceNeg, h51, f0, vlen_str T9, T9, w1, ms, if_true]
        refine rest 5 _ (by simp [upd_some, f0]) (by omega) _ ?_ (by simp [upd_some])
        intro e' g2
        simp only [WK, vop, evAll, evOpt, evParts, vbuiltin, vun, vextract, Nat.reduceLT, Nat.reduceEqDiff, ↓reduceIte, reduceCtorEq, Nat.reduceAdd, Int.reduceLT, Int.reduceNeg, g2]
      | false =>
        rw [hi2] at h51
        simp only [WK, vop, evAll, evOpt, evParts, vbuiltin, vun, vextract, Nat.reduceLT, Nat.reduceEqDiff, ↓reduceIte, reduceCtorEq, Nat.reduceAdd, Int.reduceLT, Int.reduceNeg, h51, Bool.false_eq_true, if_false]
        rw [← Ev_region]
        refine Ev.cut (depth_r8 hl f0) ?_
        rintro x e3 σ3 ⟨rfl, rfl, h72⟩ hw
        have f3 : e3 0 = .str s := (hw 0 (by decide)).trans f0
        clear hw
        cases hi3 : isM 7 mT s with
        | true =>
          have hlen : 7 < s.length := by simp only [isM, Bool.and_eq_true, decide_eq_true_eq] at hi3; exact hi3.1
          have w1 := wrap_len (s := s) (by omega) hl
          have ms : vslice Try.prog 9 (.str s) (some (.int .i64 6)) (some (.int .i64 ((s.length - 1 : Nat) : Int))) none = some (.str (mid 6 s)) := mid_slice (k := 6) (by omega)
          rw [hi3] at h72
          simp only [k66_r9_e, WK, vop, evAll, evOpt, evParts, vbuiltin, vun, vextract, Nat.reduceLT, Nat.reduceEqDiff, ↓reduceIte, reduceCtorEq, Nat.reduceAdd, Int.reduceLT, Int.reduceNeg, h72, f3, vlen_str T9, T9, w1, ms, if_true]
          refine rest 6 _ (by simp [upd_some, f3]) (by omega) _ ?_ (by simp [upd_some])
          intro e' g2
          simp only [WK, vop, evAll, evOpt, evParts, vbuiltin, vun, vextract, Nat.reduceLT, Nat.reduceEqDiff, ↓reduceIte, reduceCtorEq, Nat.reduceAdd, Int.reduceLT, Int.reduceNeg, g2]
        | false =>
          rw [hi3] at h72
          simp only [k66_r10_e, WK, vop, evAll, evOpt, evParts, vbuiltin, vun, vextract, Nat.reduceLT, Nat.reduceEqDiff, ↓reduceIte, reduceCtorEq, Nat.reduceAdd, Int.reduceLT, Int.reduceNeg, h72, Bool.false_eq_true, if_false]
          rfl
end Go.Proofs.Ytlimedbanpfkgaa.Q
