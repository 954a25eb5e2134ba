import Derived.Test.YtodcajpeilgfgaaLd
set_option linter.unusedVariables false
set_option linter.unusedSimpArgs false
namespace Go.Proofs.Ytodcajpeilgfgaa.Q
open Go Go.RowKit Go.Proofs

theorem hasprefix0_does (s p : List UInt8) (σ : St) : Does Try.prog prims 34 [.str s, .str p] σ (.ret (.bool (decide (s.take p.length = p)))) σ := by
  have key : ∃ q σ', Does Try.prog prims 34 [.str s, .str p] σ q σ' ∧ q = .ret (.bool (decide (s.take p.length = p))) ∧ σ' = σ := by
    apply k34_is.does (by simp)
    by_cases h : p.length ≤ s.length
    · have h' : (p.length : Int) ≤ s.length := by omega
      have hsl : vslice Try.prog 9 (.str s) none (some (.int .i64 (p.length : Int))) none = some (.str (s.take p.length)) := by
        have := vbounds_hi (len := s.length) (k := .i64) (n := p.length) (by omega) (by omega)
        simp [vslice, T9, this]
      simp only [k34_a, WK, vop, evAll, evOpt, evParts, vbuiltin, vun, vextract, Nat.reduceLT, Nat.reduceEqDiff, ↓reduceIte, reduceCtorEq, Nat.reduceAdd, Int.reduceLT, Int.reduceNeg, valloc_std, noSB, vlen_str T9, h', T9, hsl, strBin]
    · have h' : ¬ (p.length : Int) ≤ s.length := by omega
      have hne : ¬ s.take p.length = p := fun e => by have := congrArg List.length e; rw [List.length_take] at this; omega
      simp only [k34_a, WK, vop, evAll, evOpt, evParts, vbuiltin, vun, vextract, Nat.reduceLT, Nat.reduceEqDiff, ↓reduceIte, reduceCtorEq, Nat.reduceAdd, Int.reduceLT, Int.reduceNeg, valloc_std, noSB, vlen_str T9, h']
      simp [hne]
  obtain ⟨q, σ', h, rfl, rfl⟩ := key
  exact h
theorem hasprefix_does (s p : List UInt8) (σ : St) : Does Try.prog prims 29 [.str s, .str p] σ (.ret (.bool (decide (s.take p.length = p)))) σ := by
  apply k29_is.ret (by simp)
  simp only [k29_a, WK, vop, evAll, evOpt, evParts, vbuiltin, vun, vextract, Nat.reduceLT, Nat.reduceEqDiff, ↓reduceIte, reduceCtorEq, Nat.reduceAdd, Int.reduceLT, Int.reduceNeg, valloc_std, noSB]
  refine KD.ret (hasprefix0_does s p σ) ?_
  simp only [k29_a, WK, vop, evAll, evOpt, evParts, vbuiltin, vun, vextract, Nat.reduceLT, Nat.reduceEqDiff, ↓reduceIte, reduceCtorEq, Nat.reduceAdd, Int.reduceLT, Int.reduceNeg, valloc_std, noSB]
theorem B6 : vbuildSlice Try.prog 48 6 [(0, .str [61, 61]), (1, .str [33, 61]), (2, .str [60, 61]), (3, .str [62, 61]), (4, .str [38, 38]), (5, .str [124, 124])] = some (.slice .exact 1 (dbl.map V.str) 6) := by kernel_rfl
theorem doubles_does (σ : St) : Does Try.prog prims 28 [] σ (.ret (.slice .exact 1 (dbl.map V.str) 6)) σ := by
  apply k28_is.ret (by simp)
  simp only [k28_a, WK, vop, evAll, evOpt, evParts, vbuiltin, vun, vextract, Nat.reduceLT, Nat.reduceEqDiff, ↓reduceIte, reduceCtorEq, Nat.reduceAdd, Int.reduceLT, Int.reduceNeg, valloc_std, noSB, ofVal_str, B6]
theorem TS : Try.prog.underlying 48 = some (.slice 9) := by kernel_rfl
theorem dbl_at {i : Nat} (h : i < 6) : vindexAddr Try.prog 48 (.slice .exact 1 (dbl.map V.str) 6) (.int .i64 (i : Int)) = some (.eptr (dbl.map V.str) i) := by
  have h' : (i : Int) < 6 := by omega
  simp [vindexAddr, TS, S9, h', dbl]
theorem dbl_load {i : Nat} (h : i < 6) (objs : List Ob) : vload Try.prog objs 9 (.eptr (dbl.map V.str) i) = some (.str (dbl[i]'h)) := by
  simp [vload, vcellsAt, vpart, G9, List.getElem?_eq_getElem (show i < dbl.length from h)]
  rfl
theorem dbl_two {i : Nat} (h : i < 6) : (dbl[i]'h).length = 2 := by
  have : ∀ m ∈ dbl, m.length = 2 := by decide
  exact this _ (List.getElem_mem _)

theorem OneR.unit {p m : Nat} {s : List UInt8} {n : Nat} {toks : List Tok} {r : NR} {σ : St} {u : V} {σ' : St} (h : OneR p m s n toks r σ (.ret u) σ') : u = .tuple [] := by
  obtain ⟨_, h2⟩ := h
  cases r with
  | bad off e => cases h2
  | ok k t nm w =>
    simp only at h2
    split at h2
    · cases h2
    · injection h2.1

set_option maxRecDepth 100000 in
theorem one_does {σ : St} {p : Nat} {s : List UInt8} {n : Nat} {toks : List Tok} {m : Nat} (h : LexR σ p s n toks m) (hn : n < s.length) (hs : s.length ≤ 1000000) (hl : toks.length ≤ 4096) :
    ∃ q σ', Does Try.prog prims 15 [.optr p 0] σ q σ' ∧ OneR p m s n toks (nextR (s.drop n)) σ q σ' := by
  apply k15_is.does (by simp)
  obtain ⟨v, hL⟩ := h.at
  obtain ⟨c, r, hcr⟩ : ∃ c r, s.drop n = c :: r := ⟨_, _, List.drop_eq_getElem_cons hn⟩
  have hc : s[n]? = some c := by have := congrArg (·[0]?) hcr; simpa using this
  have hr1 : s.drop (n + 1) = r := by rw [← List.drop_drop, hcr]; rfl
  have dl := indexbyte_does lettersB c σ
  have dd := indexbyte_does digitsB c σ
  have ds := indexbyte_does sgl c σ
  have drop0 := str_lo (s := s) (n := n) (by omega) (k := .i64)
  simp only [k15_a, WK, vop, evAll, evOpt, evParts, vbuiltin, vun, vextract, Nat.reduceLT, Nat.reduceEqDiff, ↓reduceIte, reduceCtorEq, Nat.reduceAdd, Int.reduceLT, Int.reduceNeg, valloc_std, noSB, ofVal_str, FL0, FL1, hL.str, hL.at, str_at hc]
  refine KD.ret dl ?_
  by_cases hlt : isLt c = true
  · have hlt' : (0 : Int) ≤ Lib.indexByte lettersB c := of_decide_eq_true ((in_letters c).trans hlt)
    have hR : nextR (s.drop n) = nameR (s.drop n) := by rw [hcr]; simp only [nextR]; rw [if_pos hlt]
    have d1 := run_does hL (by omega) (by omega) in_names
    obtain ⟨w, hw⟩ : ∃ w, w = spanL isNm (s.drop n) := ⟨_, rfl⟩
    have hwl := spanL_le isNm (s.drop n)
    rw [← hw, List.length_drop] at hwl
    have hR2 : nameR (s.drop n) = if 16 < w then .bad 0 3 else .ok 1 ((s.drop n).take w) 0 w := by rw [nameR, ← hw]
    rw [← hw] at d1
    rw [hR, hR2]
    have wsub : IntKind.i64.wrap (((n + w : Nat) : Int) - (n : Int)) = (w : Int) := by rw [wrap_i64 (by omega) (by omega)]; omega
    have hsl := str_lohi (s := s) (n := n) (m := n + w) (by omega) (by omega) (k := .i64) (k' := .i64)
    rw [List.drop_take, show n + w - n = w by omega] at hsl
    simp only [k15_a, WK, vop, evAll, evOpt, evParts, vbuiltin, vun, vextract, Nat.reduceLT, Nat.reduceEqDiff, ↓reduceIte, reduceCtorEq, Nat.reduceAdd, Int.reduceLT, Int.reduceNeg, valloc_std, noSB, ofVal_str, hlt']
    refine KD.ret d1 ?_
    by_cases h16 : 16 < w
    · have h16' : (16 : Int) < w := by omega
      simp only [k15_a, WK, vop, evAll, evOpt, evParts, vbuiltin, vun, vextract, Nat.reduceLT, Nat.reduceEqDiff, ↓reduceIte, reduceCtorEq, Nat.reduceAdd, Int.reduceLT, Int.reduceNeg, valloc_std, noSB, ofVal_str, FL1, hL.at, wsub, h16']
      refine KD.pan (fail_does _ n 3 σ) ?_
      simp only [WK, vop, evAll, evOpt, evParts, vbuiltin, vun, vextract, Nat.reduceLT, Nat.reduceEqDiff, ↓reduceIte, reduceCtorEq, Nat.reduceAdd, Int.reduceLT, Int.reduceNeg, valloc_std, noSB]
      exact ⟨KeepM.refl _ _ _, by rw [if_pos h16]; rfl⟩
    · have h16' : ¬ (16 : Int) < w := by omega
      obtain ⟨q, s6, d6, k6, r6⟩ := add_does h hl 1 ((s.drop n).take w) 0 0 (n + w)
      have hone : OneR p m s n toks (if 16 < w then .bad 0 3 else .ok 1 ((s.drop n).take w) 0 w) σ q s6 := by rw [if_neg h16]; exact ⟨k6, r6⟩
      simp only [k15_a, WK, vop, evAll, evOpt, evParts, vbuiltin, vun, vextract, Nat.reduceLT, Nat.reduceEqDiff, ↓reduceIte, reduceCtorEq, Nat.reduceAdd, Int.reduceLT, Int.reduceNeg, valloc_std, noSB, ofVal_str, FL0, FL1, hL.str, hL.at, wsub, h16', T9, hsl, BK2]
      cases q with
      | ret u =>
        have := hone.unit
        subst this
        refine KD.ret d6 ?_
        simp only [k15_a, WK, vop, evAll, evOpt, evParts, vbuiltin, vun, vextract, Nat.reduceLT, Nat.reduceEqDiff, ↓reduceIte, reduceCtorEq, Nat.reduceAdd, Int.reduceLT, Int.reduceNeg, valloc_std, noSB, FL0, FL1, hL.str, hL.at]
        exact hone
      | pan u =>
        refine KD.pan d6 ?_
        simp only [k15_a, WK, vop, evAll, evOpt, evParts, vbuiltin, vun, vextract, Nat.reduceLT, Nat.reduceEqDiff, ↓reduceIte, reduceCtorEq, Nat.reduceAdd, Int.reduceLT, Int.reduceNeg, valloc_std, noSB, FL0, FL1, hL.str, hL.at]
        exact hone
  · have hlf : isLt c = false := by simpa using hlt
    have hlt' : ¬ (0 : Int) ≤ Lib.indexByte lettersB c := of_decide_eq_false ((in_letters c).trans hlf)
    simp only [k15_a, WK, vop, evAll, evOpt, evParts, vbuiltin, vun, vextract, Nat.reduceLT, Nat.reduceEqDiff, ↓reduceIte, reduceCtorEq, Nat.reduceAdd, Int.reduceLT, Int.reduceNeg, valloc_std, noSB, ofVal_str, hlt']
    refine KD.ret dd ?_
    by_cases hdg : isDg c = true
    · have hdg' : (0 : Int) ≤ Lib.indexByte digitsB c := of_decide_eq_true ((in_digits c).trans hdg)
      have hR : nextR (s.drop n) = numR (s.drop n) := by rw [hcr]; simp only [nextR]; rw [if_neg hlt, if_pos hdg]
      obtain ⟨q, s6, d6, hone⟩ := number_does h hn hs hl hcr hdg
      rw [hR]
      simp only [k15_a, WK, vop, evAll, evOpt, evParts, vbuiltin, vun, vextract, Nat.reduceLT, Nat.reduceEqDiff, ↓reduceIte, reduceCtorEq, Nat.reduceAdd, Int.reduceLT, Int.reduceNeg, valloc_std, noSB, hdg']
      cases q with
      | ret u =>
        have := hone.unit
        subst this
        refine KD.ret d6 ?_
        simp only [k15_a, WK, vop, evAll, evOpt, evParts, vbuiltin, vun, vextract, Nat.reduceLT, Nat.reduceEqDiff, ↓reduceIte, reduceCtorEq, Nat.reduceAdd, Int.reduceLT, Int.reduceNeg, valloc_std, noSB]
        exact hone
      | pan u =>
        refine KD.pan d6 ?_
        simp only [k15_a, WK, vop, evAll, evOpt, evParts, vbuiltin, vun, vextract, Nat.reduceLT, Nat.reduceEqDiff, ↓reduceIte, reduceCtorEq, Nat.reduceAdd, Int.reduceLT, Int.reduceNeg, valloc_std, noSB]
        exact hone
    · have hdf : isDg c = false := by simpa using hdg
      have hdg' : ¬ (0 : Int) ≤ Lib.indexByte digitsB c := of_decide_eq_false ((in_digits c).trans hdf)
      by_cases h34 : c = 34
      · have e34 : ((c.toNat : Int) = 34) = True := eq_true (by rw [h34]; rfl)
        have hR : nextR (s.drop n) = txtR (s.drop (n + 1)) [] 1 := by rw [hcr, hr1]; simp only [nextR]; rw [if_neg hlt, if_neg hdg, if_pos h34]
        obtain ⟨q, s6, d6, hone⟩ := text_does h hn hs hl
        rw [hR]
        simp only [k15_a, WK, vop, evAll, evOpt, evParts, vbuiltin, vun, vextract, Nat.reduceLT, Nat.reduceEqDiff, ↓reduceIte, reduceCtorEq, Nat.reduceAdd, Int.reduceLT, Int.reduceNeg, valloc_std, noSB, hdg', e34]
        cases q with
        | ret u =>
          have := hone.unit
          subst this
          refine KD.ret d6 ?_
          simp only [k15_a, WK, vop, evAll, evOpt, evParts, vbuiltin, vun, vextract, Nat.reduceLT, Nat.reduceEqDiff, ↓reduceIte, reduceCtorEq, Nat.reduceAdd, Int.reduceLT, Int.reduceNeg, valloc_std, noSB]
          exact hone
        | pan u =>
          refine KD.pan d6 ?_
          simp only [k15_a, WK, vop, evAll, evOpt, evParts, vbuiltin, vun, vextract, Nat.reduceLT, Nat.reduceEqDiff, ↓reduceIte, reduceCtorEq, Nat.reduceAdd, Int.reduceLT, Int.reduceNeg, valloc_std, noSB]
          exact hone
      · have e34 : ((c.toNat : Int) = 34) = False := eq_false (by rw [show (34 : Int) = ((34 : Nat) : Int) from rfl, u8n (by decide)]; exact h34)
        have hR : nextR (s.drop n) = markR (s.drop n) := by rw [hcr]; simp only [nextR]; rw [if_neg hlt, if_neg hdg, if_neg h34]
        rw [hR]
        simp only [k15_a, WK, vop, evAll, evOpt, evParts, vbuiltin, vun, vextract, Nat.reduceLT, Nat.reduceEqDiff, ↓reduceIte, reduceCtorEq, Nat.reduceAdd, Int.reduceLT, Int.reduceNeg, valloc_std, noSB, hdg', e34]
        refine KD.ret (doubles_does σ) ?_
        have hlen6 : vlen Try.prog 48 (.slice .exact 1 (dbl.map V.str) 6) = some (.int .i64 6) := by simp [vlen, TS]
        simp only [k15_a, WK, vop, evAll, evOpt, evParts, vbuiltin, vun, vextract, Nat.reduceLT, Nat.reduceEqDiff, ↓reduceIte, reduceCtorEq, Nat.reduceAdd, Int.reduceLT, Int.reduceNeg, valloc_std, noSB, hlen6]
        refine Ev.loopF (fun i e σ' => e 61 = .int .i64 (i : Nat) ∧ i ≤ 6 ∧ (∀ j (hj : j < 6), j < i → (s.drop n).take 2 ≠ dbl[j]'hj) ∧ σ' = σ) (fun i => 6 - i) 0 ⟨by simp [upd_some], by omega, fun j hj h => by omega, rfl⟩ ?_
        rintro i e σ' ⟨h61, hi, hno, rfl⟩ hf
        have h0 : e 0 = .optr p 0 := (hf 0 (by decide)).trans (by simp [upd_some])
        have h2 : e 2 = .int .u8 (c.toNat : Int) := (hf 2 (by decide)).trans (by simp [upd_some])
        have h59 : e 59 = .slice .exact 1 (dbl.map V.str) 6 := (hf 59 (by decide)).trans (by simp [upd_some])
        have h60 : e 60 = .int .i64 6 := (hf 60 (by decide)).trans (by simp [upd_some])
        clear hf
        by_cases hi6 : i < 6
        · have hi6' : (i : Int) < 6 := by omega
          have dh := hasprefix_does (s.drop n) (dbl[i]'hi6) σ'
          rw [dbl_two hi6] at dh
          simp only [k15_a, WK, vop, evAll, evOpt, evParts, vbuiltin, vun, vextract, Nat.reduceLT, Nat.reduceEqDiff, ↓reduceIte, reduceCtorEq, Nat.reduceAdd, Int.reduceLT, Int.reduceNeg, valloc_std, noSB, h0, h2, h59, h60, h61, hi6', dbl_at hi6, dbl_load hi6, FL0, FL1, hL.str, hL.at, T9, drop0]
          refine KD.ret dh ?_
          by_cases hm : (s.drop n).take 2 = dbl[i]'hi6
          · have hR2 : markR (s.drop n) = .ok 4 (dbl[i]'hi6) 0 2 := by
              unfold markR
              rw [if_pos (by rw [hm]; exact List.getElem_mem _), hm]
            have hn2 : n + 2 ≤ s.length := by
              have := congrArg List.length hm
              rw [dbl_two hi6, List.length_take, List.length_drop] at this
              omega
            have w2 : IntKind.i64.wrap ((n : Int) + 2) = ((n + 2 : Nat) : Int) := by rw [wrap_i64 (by omega) (by omega)]; omega
            obtain ⟨q, s6, d6, k6, r6⟩ := add_does h hl 4 (dbl[i]'hi6) 0 0 (n + 2)
            have hone : OneR p m s n toks (markR (s.drop n)) σ' q s6 := by rw [hR2]; exact ⟨k6, r6⟩
            have dm : decide ((s.drop n).take 2 = dbl[i]'hi6) = true := decide_eq_true hm
            simp only [k15_a, WK, vop, evAll, evOpt, evParts, vbuiltin, vun, vextract, Nat.reduceLT, Nat.reduceEqDiff, ↓reduceIte, reduceCtorEq, Nat.reduceAdd, Int.reduceLT, Int.reduceNeg, valloc_std, noSB, h0, h2, h59, h60, h61, dm, FL1, hL.at, w2, BK2]
            cases q with
            | ret u =>
              have := hone.unit
              subst this
              refine KD.ret d6 ?_
              simp only [k15_a, WK, vop, evAll, evOpt, evParts, vbuiltin, vun, vextract, Nat.reduceLT, Nat.reduceEqDiff, ↓reduceIte, reduceCtorEq, Nat.reduceAdd, Int.reduceLT, Int.reduceNeg, valloc_std, noSB]
              exact hone
            | pan u =>
              refine KD.pan d6 ?_
              simp only [k15_a, WK, vop, evAll, evOpt, evParts, vbuiltin, vun, vextract, Nat.reduceLT, Nat.reduceEqDiff, ↓reduceIte, reduceCtorEq, Nat.reduceAdd, Int.reduceLT, Int.reduceNeg, valloc_std, noSB]
              exact hone
          · have dm : decide ((s.drop n).take 2 = dbl[i]'hi6) = false := decide_eq_false hm
            have w1 := idx_wrap (i := i) (by omega)
            simp only [k15_a, WK, vop, evAll, evOpt, evParts, vbuiltin, vun, vextract, Nat.reduceLT, Nat.reduceEqDiff, ↓reduceIte, reduceCtorEq, Nat.reduceAdd, Int.reduceLT, Int.reduceNeg, valloc_std, noSB, h0, h2, h59, h60, h61, dm, w1]
            refine ⟨i + 1, ⟨by simp [upd_some], by omega, fun j hj hji => ?_⟩, by omega⟩
            rcases Nat.lt_or_ge j i with h1 | h1
            · exact hno j hj h1
            · have : j = i := by omega
              subst this
              exact hm
        · have hi6' : ¬ (i : Int) < 6 := by omega
          have hnd : (s.drop n).take 2 ∉ dbl := by
            intro hmem
            obtain ⟨j, hj, hje⟩ := List.mem_iff_getElem.1 hmem
            exact hno j hj (by have : j < 6 := hj; omega) hje.symm
          simp only [k15_a, WK, vop, evAll, evOpt, evParts, vbuiltin, vun, vextract, Nat.reduceLT, Nat.reduceEqDiff, ↓reduceIte, reduceCtorEq, Nat.reduceAdd, Int.reduceLT, Int.reduceNeg, valloc_std, noSB, ofVal_str, h0, h2, h59, h60, h61, hi6']
          refine KD.ret ds ?_
          by_cases hsg : c ∈ sgl
          · have hsg' : ¬ Lib.indexByte sgl c < 0 := by
              have := (in_singles c).trans (decide_eq_true hsg)
              have := of_decide_eq_true this
              omega
            have hR2 : markR (s.drop n) = .ok 4 [c] 0 1 := by
              unfold markR
              rw [if_neg hnd, hcr]
              simp only
              rw [if_pos hsg]
            have hcv : vconv Try.prog 5 9 (.int .u8 (c.toNat : Int)) = some (.str [c]) := by simp [vconv, T5, T9, sgl_str c hsg]
            have w1 := idx_wrap (i := n) (by omega)
            obtain ⟨q, s6, d6, k6, r6⟩ := add_does h hl 4 [c] 0 0 (n + 1)
            have hone : OneR p m s n toks (markR (s.drop n)) σ' q s6 := by rw [hR2]; exact ⟨k6, r6⟩
            simp only [k15_a, WK, vop, evAll, evOpt, evParts, vbuiltin, vun, vextract, Nat.reduceLT, Nat.reduceEqDiff, ↓reduceIte, reduceCtorEq, Nat.reduceAdd, Int.reduceLT, Int.reduceNeg, valloc_std, noSB, h0, h2, hsg', hcv, FL1, hL.at, w1, BK2]
            cases q with
            | ret u =>
              have := hone.unit
              subst this
              refine KD.ret d6 ?_
              simp only [k15_a, WK, vop, evAll, evOpt, evParts, vbuiltin, vun, vextract, Nat.reduceLT, Nat.reduceEqDiff, ↓reduceIte, reduceCtorEq, Nat.reduceAdd, Int.reduceLT, Int.reduceNeg, valloc_std, noSB]
              exact hone
            | pan u =>
              refine KD.pan d6 ?_
              simp only [k15_a, WK, vop, evAll, evOpt, evParts, vbuiltin, vun, vextract, Nat.reduceLT, Nat.reduceEqDiff, ↓reduceIte, reduceCtorEq, Nat.reduceAdd, Int.reduceLT, Int.reduceNeg, valloc_std, noSB]
              exact hone
          · have hsg' : Lib.indexByte sgl c < 0 := by
              have := (in_singles c).trans (decide_eq_false hsg)
              have := of_decide_eq_false this
              omega
            have hR2 : markR (s.drop n) = .bad 0 30 := by
              unfold markR
              rw [if_neg hnd, hcr]
              simp only
              rw [if_neg hsg]
            simp only [k15_a, WK, vop, evAll, evOpt, evParts, vbuiltin, vun, vextract, Nat.reduceLT, Nat.reduceEqDiff, ↓reduceIte, reduceCtorEq, Nat.reduceAdd, Int.reduceLT, Int.reduceNeg, valloc_std, noSB, h0, h2, hsg', FL1, hL.at]
            refine KD.pan (fail_does _ n 30 σ') ?_
            simp only [WK, vop, evAll, evOpt, evParts, vbuiltin, vun, vextract, Nat.reduceLT, Nat.reduceEqDiff, ↓reduceIte, reduceCtorEq, Nat.reduceAdd, Int.reduceLT, Int.reduceNeg, valloc_std, noSB]
            exact ⟨KeepM.refl _ _ _, by rw [hR2]; rfl⟩
end Go.Proofs.Ytodcajpeilgfgaa.Q
