import Derived.Test.YtodcajpeilgfgaaLf
set_option linter.unusedVariables false
set_option linter.unusedSimpArgs false
namespace Go.Proofs.Ytodcajpeilgfgaa.Q
open Go Go.RowKit Go.Proofs

/-! ### Bytes -/
theorem u8le {c : UInt8} {k : Nat} : ((k : Int) ≤ (c.toNat : Int)) = (k ≤ c.toNat) := propext ⟨fun h => by omega, fun h => by omega⟩
theorem u8eq (c : UInt8) (k : Nat) (hk : k < 256) : decide ((c.toNat : Int) = (k : Int)) = (c == UInt8.ofNat k) := by
  rw [Bool.eq_iff_iff, decide_eq_true_eq, beq_iff_eq, u8n hk]
theorem refletter_does (c : UInt8) (σ : St) : Does Try.prog prims 18 [.int .u8 (c.toNat : Int)] σ (.ret (.bool (isLt c))) σ := by
  apply k18_is.ret (by simp)
  have e3 := u8eq c 95 (by decide)
  have hI : isLt c = ((decide ((97 : Int) ≤ c.toNat) && decide ((c.toNat : Int) ≤ 122)) || decide ((c.toNat : Int) = 95)) := by
    rw [show ((95 : Int)) = ((95 : Nat) : Int) from rfl, e3]
    unfold isLt
    rw [show decide ((97 : Int) ≤ c.toNat) = decide (97 ≤ c.toNat) from decide_eq_decide.2 (by omega), show decide ((c.toNat : Int) ≤ 122) = decide (c.toNat ≤ 122) from decide_eq_decide.2 (by omega)]
    rfl
  rw [hI]
  by_cases h1 : (97 : Int) ≤ c.toNat <;> by_cases h2 : (c.toNat : Int) ≤ 122 <;> by_cases h3 : (c.toNat : Int) = 95 <;>
  · simp only [k18_a, WK, vop, evAll, evOpt, evParts, vbuiltin, vun, vextract, Nat.reduceLT, Nat.reduceEqDiff, ↓reduceIte, reduceCtorEq, Nat.reduceAdd, Int.reduceLT, Int.reduceNeg, valloc_std, noSB, h1, h2, h3, Bool.true_and, Bool.false_and, Bool.true_or, Bool.false_or, Bool.or_true, Bool.or_false, Int.reduceLE]
theorem refdigit_does (c : UInt8) (σ : St) : Does Try.prog prims 19 [.int .u8 (c.toNat : Int)] σ (.ret (.bool (isDg c))) σ := by
  apply k19_is.ret (by simp)
  have hI : isDg c = (decide ((48 : Int) ≤ c.toNat) && decide ((c.toNat : Int) ≤ 57)) := by
    unfold isDg
    rw [show decide ((48 : Int) ≤ c.toNat) = decide (48 ≤ c.toNat) from decide_eq_decide.2 (by omega), show decide ((c.toNat : Int) ≤ 57) = decide (c.toNat ≤ 57) from decide_eq_decide.2 (by omega)]
  rw [hI]
  by_cases h1 : (48 : Int) ≤ c.toNat <;> by_cases h2 : (c.toNat : Int) ≤ 57 <;>
  · simp only [k19_a, WK, vop, evAll, evOpt, evParts, vbuiltin, vun, vextract, Nat.reduceLT, Nat.reduceEqDiff, ↓reduceIte, reduceCtorEq, Nat.reduceAdd, Int.reduceLT, Int.reduceNeg, valloc_std, noSB, h1, h2, Bool.true_and, Bool.false_and]
theorem refblank_does (c : UInt8) (σ : St) : Does Try.prog prims 17 [.int .u8 (c.toNat : Int)] σ (.ret (.bool (isBl c))) σ := by
  apply k17_is.ret (by simp)
  have hI : isBl c = (decide ((c.toNat : Int) = 32) || decide ((c.toNat : Int) = 10) || decide ((c.toNat : Int) = 9)) := by
    have e1 := u8eq c 32 (by decide)
    have e2 := u8eq c 10 (by decide)
    have e3 := u8eq c 9 (by decide)
    rw [show ((32 : Int)) = ((32 : Nat) : Int) from rfl, show ((10 : Int)) = ((10 : Nat) : Int) from rfl, show ((9 : Int)) = ((9 : Nat) : Int) from rfl, e1, e2, e3]
    rfl
  rw [hI]
  by_cases h1 : (c.toNat : Int) = 32
  · simp only [k17_a, WK, vop, evAll, evOpt, evParts, vbuiltin, vun, vextract, Nat.reduceLT, Nat.reduceEqDiff, ↓reduceIte, reduceCtorEq, Nat.reduceAdd, Int.reduceLT, Int.reduceNeg, valloc_std, noSB, h1, Int.reduceEq, Bool.true_or]
  · by_cases h2 : (c.toNat : Int) = 10
    · simp only [k17_a, WK, vop, evAll, evOpt, evParts, vbuiltin, vun, vextract, Nat.reduceLT, Nat.reduceEqDiff, ↓reduceIte, reduceCtorEq, Nat.reduceAdd, Int.reduceLT, Int.reduceNeg, valloc_std, noSB, h1, h2, Int.reduceEq, Bool.false_or, Bool.true_or]
    · by_cases h3 : (c.toNat : Int) = 9
      · simp only [k17_a, WK, vop, evAll, evOpt, evParts, vbuiltin, vun, vextract, Nat.reduceLT, Nat.reduceEqDiff, ↓reduceIte, reduceCtorEq, Nat.reduceAdd, Int.reduceLT, Int.reduceNeg, valloc_std, noSB, h1, h2, h3, Int.reduceEq, Bool.false_or]
      · simp only [k17_a, WK, vop, evAll, evOpt, evParts, vbuiltin, vun, vextract, Nat.reduceLT, Nat.reduceEqDiff, ↓reduceIte, reduceCtorEq, Nat.reduceAdd, Int.reduceLT, Int.reduceNeg, valloc_std, noSB, h1, h2, h3, Int.reduceEq, Bool.false_or]

/-! ### Skip -/
theorem refskip_does (s : List UInt8) (n : Nat) (hn : n ≤ s.length) (hs : s.length ≤ 1000000000) (σ : St) : Does Try.prog prims 11 [.str s, .int .i64 (n : Int)] σ (.ret (.int .i64 ((n + skipL (s.drop n) : Nat) : Int))) σ := by
  have key : ∃ q σ', Does Try.prog prims 11 [.str s, .int .i64 (n : Int)] σ q σ' ∧ q = .ret (.int .i64 ((n + skipL (s.drop n) : Nat) : Int)) ∧ σ' = σ := by
    apply k11_is.does (by simp)
    simp only [k11_a, WK, vop, evAll, evOpt, evParts, vbuiltin, vun, vextract, Nat.reduceLT, Nat.reduceEqDiff, ↓reduceIte, reduceCtorEq, Nat.reduceAdd, Int.reduceLT, Int.reduceNeg, valloc_std, noSB]
    refine Ev.loopF (fun i e σ' => e 1 = .int .i64 (i : Nat) ∧ i ≤ s.length ∧ i + skipL (s.drop i) = n + skipL (s.drop n) ∧ σ' = σ) (fun i => s.length - i) n ⟨by simp [upd_some], hn, rfl, rfl⟩ ?_
    rintro i e σ' ⟨h1, hi, hsp, rfl⟩ hf
    have h0 : e 0 = .str s := (hf 0 (by decide)).trans (by simp [upd_some])
    clear hf
    by_cases hlt : i < s.length
    · have hlt' : (i : Int) < s.length := by omega
      obtain ⟨c, r, hcr⟩ : ∃ c r, s.drop i = c :: r := ⟨_, _, List.drop_eq_getElem_cons hlt⟩
      have hc : s[i]? = some c := by have := congrArg (·[0]?) hcr; simpa using this
      have hr : s.drop (i + 1) = r := by rw [← List.drop_drop, hcr]; rfl
      have hw := idx_wrap (i := i) (by omega)
      simp only [k11_a, WK, vop, evAll, evOpt, evParts, vbuiltin, vun, vextract, Nat.reduceLT, Nat.reduceEqDiff, ↓reduceIte, reduceCtorEq, Nat.reduceAdd, Int.reduceLT, Int.reduceNeg, valloc_std, noSB, h0, h1, vlen_str T9, hlt', str_at hc]
      refine KD.ret (refblank_does c σ') ?_
      by_cases hb : isBl c = true
      · simp only [k11_a, WK, vop, evAll, evOpt, evParts, vbuiltin, vun, vextract, Nat.reduceLT, Nat.reduceEqDiff, ↓reduceIte, reduceCtorEq, Nat.reduceAdd, Int.reduceLT, Int.reduceNeg, valloc_std, noSB, h0, h1, hb, hw]
        refine ⟨i + 1, ⟨by simp [upd_some], hlt, ?_⟩, by omega⟩
        rw [← hsp, hcr, skipL, if_pos hb, hr]
        omega
      · have hbf : isBl c = false := by simpa using hb
        by_cases h35 : c = 35
        · have e35 : ((c.toNat : Int) = 35) = True := eq_true (by rw [h35]; rfl)
          simp only [k11_a, WK, vop, evAll, evOpt, evParts, vbuiltin, vun, vextract, Nat.reduceLT, Nat.reduceEqDiff, ↓reduceIte, reduceCtorEq, Nat.reduceAdd, Int.reduceLT, Int.reduceNeg, valloc_std, noSB, h0, h1, hbf, str_at hc, e35]
          refine Ev.loopF (fun j e2 σ2 => e2 1 = .int .i64 (j : Nat) ∧ i ≤ j ∧ j ≤ s.length ∧ (j = i ∨ j + noteL (s.drop j) = n + skipL (s.drop n)) ∧ σ2 = σ') (fun j => s.length - j) i ⟨by simp [upd_some, h1], Nat.le_refl _, hi, .inl rfl, rfl⟩ ?_
          rintro j e2 σ2 ⟨g1, hij, hj, hnt, rfl⟩ hf2
          have g0 : e2 0 = .str s := (hf2 0 (by decide)).trans (by simp [upd_some, h0])
          clear hf2
          by_cases hjl : j < s.length
          · have hjl' : (j : Int) < s.length := by omega
            obtain ⟨d, r2, hdr⟩ : ∃ d r2, s.drop j = d :: r2 := ⟨_, _, List.drop_eq_getElem_cons hjl⟩
            have hd : s[j]? = some d := by have := congrArg (·[0]?) hdr; simpa using this
            have hr2 : s.drop (j + 1) = r2 := by rw [← List.drop_drop, hdr]; rfl
            have hw2 := idx_wrap (i := j) (by omega)
            by_cases h10 : d = 10
            · have e10 : ((d.toNat : Int) = 10) = True := eq_true (by rw [h10]; rfl)
              have hne : j ≠ i := by rintro rfl; rw [hcr] at hdr; injection hdr with e3 e4; rw [← e3] at h10; rw [h35] at h10; exact absurd h10 (by decide)
              have hj2 := hnt.resolve_left hne
              simp only [k11_a, WK, vop, evAll, evOpt, evParts, vbuiltin, vun, vextract, Nat.reduceLT, Nat.reduceEqDiff, ↓reduceIte, reduceCtorEq, Nat.reduceAdd, Int.reduceLT, Int.reduceNeg, valloc_std, noSB, g0, g1, vlen_str T9, hjl', str_at hd, e10]
              refine ⟨j, ⟨by simp [upd_some, g1], hj, ?_⟩, by omega⟩
              rw [← hj2, hdr, noteL, if_pos h10, skipL, if_pos (by rw [h10]; rfl)]
            · have e10 : ((d.toNat : Int) = 10) = False := eq_false (by rw [show (10 : Int) = ((10 : Nat) : Int) from rfl, u8n (by decide)]; exact h10)
              simp only [k11_a, WK, vop, evAll, evOpt, evParts, vbuiltin, vun, vextract, Nat.reduceLT, Nat.reduceEqDiff, ↓reduceIte, reduceCtorEq, Nat.reduceAdd, Int.reduceLT, Int.reduceNeg, valloc_std, noSB, g0, g1, vlen_str T9, hjl', str_at hd, e10, hw2]
              refine ⟨j + 1, ⟨by simp [upd_some], by omega, hjl, .inr ?_⟩, by omega⟩
              rcases hnt with rfl | hj2
              · rw [← hsp, hcr, skipL, if_neg hb, if_pos h35, hr]
                omega
              · rw [← hj2, hdr, noteL, if_neg h10, hr2]
                omega
          · have hjl' : ¬ (j : Int) < s.length := by omega
            have hne : j ≠ i := by omega
            have hj2 := hnt.resolve_left hne
            simp only [k11_a, WK, vop, evAll, evOpt, evParts, vbuiltin, vun, vextract, Nat.reduceLT, Nat.reduceEqDiff, ↓reduceIte, reduceCtorEq, Nat.reduceAdd, Int.reduceLT, Int.reduceNeg, valloc_std, noSB, g0, g1, vlen_str T9, hjl']
            refine ⟨j, ⟨by simp [upd_some, g1], hj, ?_⟩, by omega⟩
            rw [← hj2, List.drop_of_length_le (by omega)]
            rfl
        · have e35 : ((c.toNat : Int) = 35) = False := eq_false (by rw [show (35 : Int) = ((35 : Nat) : Int) from rfl, u8n (by decide)]; exact h35)
          simp only [k11_a, WK, vop, evAll, evOpt, evParts, vbuiltin, vun, vextract, Nat.reduceLT, Nat.reduceEqDiff, ↓reduceIte, reduceCtorEq, Nat.reduceAdd, Int.reduceLT, Int.reduceNeg, valloc_std, noSB, h0, h1, hbf, str_at hc, e35]
          rw [← hsp, skipL_stop hcr hbf h35]
          rfl
    · have hlt' : ¬ (i : Int) < s.length := by omega
      simp only [k11_a, WK, vop, evAll, evOpt, evParts, vbuiltin, vun, vextract, Nat.reduceLT, Nat.reduceEqDiff, ↓reduceIte, reduceCtorEq, Nat.reduceAdd, Int.reduceLT, Int.reduceNeg, valloc_std, noSB, h0, h1, vlen_str T9, hlt']
      rw [← hsp, List.drop_of_length_le (by omega)]
      simp [skipL]
  obtain ⟨q, σ', h, rfl, rfl⟩ := key
  exact h
end Go.Proofs.Ytodcajpeilgfgaa.Q
