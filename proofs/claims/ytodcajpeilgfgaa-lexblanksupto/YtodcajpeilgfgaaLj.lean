import Derived.Test.YtodcajpeilgfgaaLi
import Derived.Test.YtodcajpeilgfgaaQs
set_option linter.unusedVariables false
set_option linter.unusedSimpArgs false
namespace Go.Proofs.Ytodcajpeilgfgaa.Q
open Go Go.RowKit Go.Proofs

/-! ### The document's Next -/
theorem Keep.len {σ σ' : St} (h : Keep σ σ') : σ.objs.length ≤ σ'.objs.length := by
  rcases Nat.eq_zero_or_pos σ.objs.length with h0 | h0
  · omega
  · have := (List.getElem?_eq_some_iff.1 (h.1 (σ.objs.length - 1) _ (List.getElem?_eq_getElem (by omega)))).1
    omega
theorem nextT_form (n : Nat) (r : NR) : ∃ c p e, nextT n r = .tuple [.agg c, .int .i64 p, .int .i64 e] ∧ c.length = 4 ∧ c.all one = true := by
  cases r with
  | bad off e => exact ⟨_, _, _, rfl, rfl, rfl⟩
  | ok k t nm w => exact ⟨_, _, _, rfl, rfl, rfl⟩
theorem isNm_or (c : UInt8) : isNm c = (isLt c || isDg c) := rfl

set_option maxRecDepth 100000 in
theorem refnext_does {s : List UInt8} {n : Nat} (hn : n < s.length) (hs : s.length ≤ 1000000) (σ : St) :
    ∃ q σ', Does Try.prog prims 12 [.str s, .int .i64 (n : Int)] σ q σ' ∧ q = .ret (nextT n (nextR (s.drop n))) ∧ Keep σ σ' := by
  apply k12_is.does (by simp)
  obtain ⟨s1, hs1, k1, q1⟩ := tokvar σ
  obtain ⟨c, r, hcr⟩ : ∃ c r, s.drop n = c :: r := ⟨_, _, List.drop_eq_getElem_cons hn⟩
  have hc : s[n]? = some c := by have := congrArg (·[0]?) hcr; simpa using this
  have hr : s.drop (n + 1) = r := by rw [← List.drop_drop, hcr]; rfl
  simp only [k12_a, WK, vop, evAll, evOpt, evParts, vbuiltin, vun, vextract, Nat.reduceLT, Nat.reduceEqDiff, ↓reduceIte, reduceCtorEq, Nat.reduceAdd, Int.reduceLT, Int.reduceNeg, valloc_std, noSB, ZK, vbox, vcells, ← hs1, str_at hc]
  refine KD.ret (refletter_does c s1) ?_
  by_cases hl : isLt c = true
  · obtain ⟨w, hw⟩ : ∃ w, w = spanL isNm (s.drop n) := ⟨_, rfl⟩
    have hwl := spanL_le isNm (s.drop n)
    rw [← hw, List.length_drop] at hwl
    have hR : nextR (s.drop n) = if 16 < w then .bad 0 3 else .ok 1 ((s.drop n).take w) 0 w := by
      rw [hcr]; simp only [nextR, hl, if_true]; rw [← hcr]; unfold nameR; rw [← hw]
    simp only [k12_a, WK, vop, evAll, evOpt, evParts, vbuiltin, vun, vextract, Nat.reduceLT, Nat.reduceEqDiff, ↓reduceIte, reduceCtorEq, Nat.reduceAdd, Int.reduceLT, Int.reduceNeg, valloc_std, noSB, hl]
    refine Ev.loopF (fun i e σ' => e 8 = .int .i64 (i : Nat) ∧ n ≤ i ∧ i ≤ s.length ∧ i + spanL isNm (s.drop i) = n + w ∧ σ' = s1) (fun i => s.length - i) n ⟨by simp [upd_some], Nat.le_refl _, by omega, by rw [hw], rfl⟩ ?_
    rintro i e σ' ⟨h8, hni, hi, hsp, rfl⟩ hf
    have h0 : e 0 = .str s := (hf 0 (by decide)).trans (by simp [upd_some])
    have h1 : e 1 = .int .i64 n := (hf 1 (by decide)).trans (by simp [upd_some])
    have h4 : e 4 = .optr σ.objs.length 0 := (hf 4 (by decide)).trans (by simp [upd_some])
    clear hf
    have tail : ∀ (X : CC) (e2 : Nat → V), e2 8 = .int .i64 ((n + w : Nat) : Int) → e2 0 = .str s → e2 1 = .int .i64 n → e2 4 = .optr σ.objs.length 0 →
        Ev Try.prog prims 68 (.seq (.seq (.region k12_r6) (.cond (.tmp 36) (.seq (.region k12_r7) .ret) .skip)) (.seq (.region k12_r8) .ret)) e2 σ' (seqC Try.prog prims 68 X (fnK Try.prog 68 [.cell 4 32, .tmp 5, .tmp 6] fun q σ' => q = .ret (nextT n (nextR (s.drop n))) ∧ Keep σ σ')) := by
      intro X e2 g8 g0 g1 g4
      have w1 : IntKind.i64.wrap (((n + w : Nat) : Int) - (n : Int)) = (w : Int) := by rw [wrap_i64 (by omega) (by omega)]; omega
      rw [hR]
      by_cases hb : 16 < w
      · have hb' : (16 : Int) < w := by omega
        obtain ⟨s2, st2, ld2, k2, _⟩ := tokcell q1 rfl (show tok0C.length = 4 from rfl) rfl
        simp only [k12_a, WK, vop, evAll, evOpt, evParts, vbuiltin, vun, vextract, Nat.reduceLT, Nat.reduceEqDiff, ↓reduceIte, reduceCtorEq, Nat.reduceAdd, Int.reduceLT, Int.reduceNeg, valloc_std, noSB, g8, g0, g1, g4, w1, hb', BK0, st2, ld2]
        rw [if_pos hb]
        exact ⟨rfl, k1.viaX' k2 (Nat.le_refl _)⟩
      · have hb' : ¬ (16 : Int) < w := by omega
        have hsl := str_lohi (s := s) (n := n) (m := n + w) (by omega) (by omega) (k := .i64) (k' := .i64)
        rw [List.drop_take, show n + w - n = w by omega] at hsl
        obtain ⟨s3, st3, ld3, k3, _⟩ := tokcell q1 rfl (show ([.int .i64 1, .str ((s.drop n).take w), .int .i64 0, .int .i64 (n : Int)] : List V).length = 4 from rfl) rfl
        simp only [k12_a, WK, vop, evAll, evOpt, evParts, vbuiltin, vun, vextract, Nat.reduceLT, Nat.reduceEqDiff, ↓reduceIte, reduceCtorEq, Nat.reduceAdd, Int.reduceLT, Int.reduceNeg, valloc_std, noSB, g8, g0, g1, g4, w1, hb', T9, hsl, BK13, st3, ld3]
        rw [if_neg hb]
        exact ⟨rfl, k1.viaX' k3 (Nat.le_refl _)⟩
    simp only [WK, vop, evAll, evOpt, evParts, vbuiltin, vun, vextract, Nat.reduceLT, Nat.reduceEqDiff, ↓reduceIte, reduceCtorEq, Nat.reduceAdd, Int.reduceLT, Int.reduceNeg, valloc_std, noSB] at tail
    by_cases hlt : i < s.length
    · have hlt' : (i : Int) < s.length := by omega
      obtain ⟨d, r2, hdr⟩ : ∃ d r2, s.drop i = d :: r2 := ⟨_, _, List.drop_eq_getElem_cons hlt⟩
      have hd : s[i]? = some d := by have := congrArg (·[0]?) hdr; simpa using this
      have hr2 : s.drop (i + 1) = r2 := by rw [← List.drop_drop, hdr]; rfl
      have hwi := idx_wrap (i := i) (by omega)
      simp only [k12_l0_e, k12_r4_e, WK, vop, evAll, evOpt, evParts, vbuiltin, vun, vextract, Nat.reduceLT, Nat.reduceEqDiff, ↓reduceIte, reduceCtorEq, Nat.reduceAdd, Int.reduceLT, Int.reduceNeg, valloc_std, noSB, h0, h1, h8, vlen_str T9, hlt', str_at hd]
      refine KD.ret (refletter_does d σ') ?_
      by_cases hd1 : isLt d = true
      · have hnm : isNm d = true := by rw [isNm_or, hd1]; rfl
        simp only [k12_r5_e, WK, vop, evAll, evOpt, evParts, vbuiltin, vun, vextract, Nat.reduceLT, Nat.reduceEqDiff, ↓reduceIte, reduceCtorEq, Nat.reduceAdd, Int.reduceLT, Int.reduceNeg, valloc_std, noSB, h0, h1, h8, hd1, hwi]
        refine ⟨i + 1, ⟨by simp [upd_some], by omega, hlt, ?_⟩, by omega⟩
        rw [← hsp, hdr, spanL_cons hnm, hr2]
        omega
      · have hd1f : isLt d = false := by simpa using hd1
        simp only [k12_r5_e, WK, vop, evAll, evOpt, evParts, vbuiltin, vun, vextract, Nat.reduceLT, Nat.reduceEqDiff, ↓reduceIte, reduceCtorEq, Nat.reduceAdd, Int.reduceLT, Int.reduceNeg, valloc_std, noSB, h0, h1, h8, hd1f, str_at hd]
        refine KD.ret (refdigit_does d σ') ?_
        by_cases hd2 : isDg d = true
        · have hnm : isNm d = true := by rw [isNm_or, hd2, Bool.or_true]
          simp only [k12_r5_e, WK, vop, evAll, evOpt, evParts, vbuiltin, vun, vextract, Nat.reduceLT, Nat.reduceEqDiff, ↓reduceIte, reduceCtorEq, Nat.reduceAdd, Int.reduceLT, Int.reduceNeg, valloc_std, noSB, h0, h1, h8, hd2, hwi]
          refine ⟨i + 1, ⟨by simp [upd_some], by omega, hlt, ?_⟩, by omega⟩
          rw [← hsp, hdr, spanL_cons hnm, hr2]
          omega
        · have hd2f : isDg d = false := by simpa using hd2
          have hnm : isNm d = false := by rw [isNm_or, hd1f, hd2f]; rfl
          have hiw : i = n + w := by rw [← hsp, hdr, spanL_stop hnm]; rfl
          simp only [WK, vop, evAll, evOpt, evParts, vbuiltin, vun, vextract, Nat.reduceLT, Nat.reduceEqDiff, ↓reduceIte, reduceCtorEq, Nat.reduceAdd, Int.reduceLT, Int.reduceNeg, valloc_std, noSB, h0, h1, h8, hd2f]
          exact tail _ _ (by simp [upd_some, h8, hiw]) (by simp [upd_some, h0]) (by simp [upd_some, h1]) (by simp [upd_some, h4])
    · have hlt' : ¬ (i : Int) < s.length := by omega
      have hiw : i = n + w := by rw [← hsp, List.drop_of_length_le (by omega)]; rfl
      simp only [k12_l0_e, k12_r4_e, WK, vop, evAll, evOpt, evParts, vbuiltin, vun, vextract, Nat.reduceLT, Nat.reduceEqDiff, ↓reduceIte, reduceCtorEq, Nat.reduceAdd, Int.reduceLT, Int.reduceNeg, valloc_std, noSB, h0, h1, h8, vlen_str T9, hlt']
      exact tail _ _ (by simp [upd_some, h8, hiw]) (by simp [upd_some, h0]) (by simp [upd_some, h1]) (by simp [upd_some, h4])
  · have hlf : isLt c = false := by simpa using hl
    simp only [k12_a, WK, vop, evAll, evOpt, evParts, vbuiltin, vun, vextract, Nat.reduceLT, Nat.reduceEqDiff, ↓reduceIte, reduceCtorEq, Nat.reduceAdd, Int.reduceLT, Int.reduceNeg, valloc_std, noSB, hlf]
    refine KD.ret (refdigit_does c s1) ?_
    by_cases hdg : isDg c = true
    · have hR : nextR (s.drop n) = numR (s.drop n) := by rw [hcr]; simp only [nextR, hlf, hdg, if_true, Bool.false_eq_true, if_false]
      obtain ⟨q, s2, d2, rfl, k2⟩ := refnumber_does hn hs hcr hdg s1
      obtain ⟨cc, p, er, hT, hc4, hc1⟩ := nextT_form n (numR (s.drop n))
      rw [hR, hT]
      rw [hT] at d2
      obtain ⟨s3, st3, ld3, k3, _⟩ := tokcell (k2.1 _ _ q1) rfl hc4 hc1
      simp only [k12_a, WK, vop, evAll, evOpt, evParts, vbuiltin, vun, vextract, Nat.reduceLT, Nat.reduceEqDiff, ↓reduceIte, reduceCtorEq, Nat.reduceAdd, Int.reduceLT, Int.reduceNeg, valloc_std, noSB, hdg]
      refine KD.ret d2 ?_
      simp only [k12_a, WK, vop, evAll, evOpt, evParts, vbuiltin, vun, vextract, Nat.reduceLT, Nat.reduceEqDiff, ↓reduceIte, reduceCtorEq, Nat.reduceAdd, Int.reduceLT, Int.reduceNeg, valloc_std, noSB, st3, ld3]
      exact (k1.trans k2).viaX' k3 (Nat.le_refl _)
    · have hdf : isDg c = false := by simpa using hdg
      by_cases h34 : c = 34
      · have hR : nextR (s.drop n) = txtR (s.drop (n + 1)) [] 1 := by rw [hr, hcr]; simp only [nextR, hlf, hdf, h34, if_true, Bool.false_eq_true, if_false]; first | rfl | (rw [h34] at hlf hdf; simp [hlf, hdf])
        have e34 : ((c.toNat : Int) = 34) = True := eq_true (by rw [h34]; rfl)
        obtain ⟨q, s2, d2, rfl, k2⟩ := reftext_does hn hs s1
        obtain ⟨cc, p, er, hT, hc4, hc1⟩ := nextT_form n (txtR (s.drop (n + 1)) [] 1)
        rw [hR, hT]
        rw [hT] at d2
        obtain ⟨s3, st3, ld3, k3, _⟩ := tokcell (k2.1 _ _ q1) rfl hc4 hc1
        simp only [k12_a, WK, vop, evAll, evOpt, evParts, vbuiltin, vun, vextract, Nat.reduceLT, Nat.reduceEqDiff, ↓reduceIte, reduceCtorEq, Nat.reduceAdd, Int.reduceLT, Int.reduceNeg, valloc_std, noSB, hdf, e34]
        refine KD.ret d2 ?_
        simp only [k12_a, WK, vop, evAll, evOpt, evParts, vbuiltin, vun, vextract, Nat.reduceLT, Nat.reduceEqDiff, ↓reduceIte, reduceCtorEq, Nat.reduceAdd, Int.reduceLT, Int.reduceNeg, valloc_std, noSB, st3, ld3]
        exact (k1.trans k2).viaX' k3 (Nat.le_refl _)
      · have hR : nextR (s.drop n) = markR (s.drop n) := by
          rw [hcr]; simp only [nextR, hlf, hdf, Bool.false_eq_true, if_false]; rw [if_neg h34]
        have e34 : ((c.toNat : Int) = 34) = False := eq_false (by rw [show (34 : Int) = ((34 : Nat) : Int) from rfl, u8n (by decide)]; exact h34)
        obtain ⟨q, s2, d2, rfl, k2⟩ := refmark_does hn hs s1
        obtain ⟨cc, p, er, hT, hc4, hc1⟩ := nextT_form n (markR (s.drop n))
        rw [hR, hT]
        rw [hT] at d2
        obtain ⟨s3, st3, ld3, k3, _⟩ := tokcell (k2.1 _ _ q1) rfl hc4 hc1
        simp only [k12_a, WK, vop, evAll, evOpt, evParts, vbuiltin, vun, vextract, Nat.reduceLT, Nat.reduceEqDiff, ↓reduceIte, reduceCtorEq, Nat.reduceAdd, Int.reduceLT, Int.reduceNeg, valloc_std, noSB, hdf, e34]
        refine KD.ret d2 ?_
        simp only [k12_a, WK, vop, evAll, evOpt, evParts, vbuiltin, vun, vextract, Nat.reduceLT, Nat.reduceEqDiff, ↓reduceIte, reduceCtorEq, Nat.reduceAdd, Int.reduceLT, Int.reduceNeg, valloc_std, noSB, st3, ld3]
        exact (k1.trans k2).viaX' k3 (Nat.le_refl _)

/-! ### The document's Lex -/
theorem lexGo_le : ∀ {f : Nat} {s : List UInt8} {a : Nat} {toks : List Tok}, toks.length ≤ 4096 → (lexGo s f a toks).1.length ≤ 4096
  | 0, s, a, toks, h => by simp [lexGo]
  | f + 1, s, a, toks, h => by
    by_cases hlt : a < s.length
    · cases hn : nextR (s.drop a) with
      | bad off e => rw [lexGo_bad hlt hn]; simp
      | ok k t n w =>
        rw [lexGo_ok hlt hn]
        split
        · simp
        · exact lexGo_le (by simp; omega)
    · rw [lexGo_end hlt]
      split
      · simp
      · simp; omega

theorem txtR_bad : ∀ (N : Nat) (l acc : List UInt8) (off : Nat), l.length ≤ N → ∀ {o : Nat} {e : Int}, txtR l acc off = .bad o e → (e = 30 ∨ e = 3) ∧ o ≤ off + l.length
  | _, [], acc, off, _, o, e, h => by rw [txtR_nil] at h; injection h with h1 h2; exact ⟨.inl h2.symm, by omega⟩
  | 0, c :: l, acc, off, hN, o, e, h => by simp at hN
  | N + 1, c :: l, acc, off, hN, o, e, h => by
    rw [txtR_cons] at h
    simp only [List.length_cons] at hN ⊢
    split at h
    · split at h
      · injection h with h1 h2; exact ⟨.inr h2.symm, by omega⟩
      · cases h
    split at h
    · injection h with h1 h2; exact ⟨.inl h2.symm, by omega⟩
    split at h
    · cases l with
      | nil => injection h with h1 h2; exact ⟨.inl h2.symm, by omega⟩
      | cons d l' =>
        simp only at h
        split at h
        · injection h with h1 h2; exact ⟨.inl h2.symm, by omega⟩
        · have := txtR_bad N l' _ _ (by simp at hN; omega) h
          simp only [List.length_cons]
          exact ⟨this.1, by omega⟩
    · have := txtR_bad N l _ _ (by omega) h
      exact ⟨this.1, by omega⟩
theorem nextR_bad {c : UInt8} {r : List UInt8} {o : Nat} {e : Int} (h : nextR (c :: r) = .bad o e) : (e = 30 ∨ e = 3) ∧ o ≤ r.length + 1 := by
  simp only [nextR] at h
  split at h
  · unfold nameR at h
    split at h
    · injection h with h1 h2; exact ⟨.inr h2.symm, by omega⟩
    · cases h
  split at h
  · unfold numR at h
    split at h
    · injection h with h1 h2; exact ⟨.inl h2.symm, by omega⟩
    split at h
    · injection h with h1 h2; exact ⟨.inr h2.symm, by omega⟩
    · cases h
  split at h
  · have := txtR_bad r.length r [] 1 (Nat.le_refl _) h
    exact ⟨this.1, by omega⟩
  · unfold markR at h
    split at h
    · cases h
    · simp only at h
      split at h
      · cases h
      · injection h with h1 h2; exact ⟨.inl h2.symm, by omega⟩

set_option maxRecDepth 100000 in
theorem reflex_key (s : List UInt8) (hs : s.length ≤ 4294967296) (σ : St) : ∃ q σ', Does Try.prog prims 9 [.str s] σ q σ' ∧ ∃ w, q = .ret (.tuple [w, .int .i64 ((lexS s).2.1 : Nat), .int .i64 (lexS s).2.2]) ∧ TokRow w (lexS s).1 ∧ Keep σ σ' := by
  apply k9_is.does (by simp)
  by_cases hbig : 16384 < s.length
  · have hbig' : (16384 : Int) < s.length := by omega
    have hR : lexS s = ([], 16384, 3) := by unfold lexS; rw [if_pos hbig]
    simp only [k9_a, WK, vop, evAll, evOpt, evParts, vbuiltin, vun, vextract, Nat.reduceLT, Nat.reduceEqDiff, ↓reduceIte, reduceCtorEq, Nat.reduceAdd, Int.reduceLT, Int.reduceNeg, valloc_std, noSB, vlen_str T9, hbig', ofVal_nil]
    rw [hR]
    exact ⟨.nils, rfl, RowV.nil 4, Keep.refl σ⟩
  · have hbig' : ¬ (16384 : Int) < s.length := by omega
    have hlS : lexS s = lexGo s (s.length + 1) (skipL s) [] := by unfold lexS; rw [if_neg hbig]
    have dsk := refskip_does s 0 (by omega) (by omega) σ
    rw [Nat.zero_add, List.drop_zero] at dsk
    simp only [k9_a, WK, vop, evAll, evOpt, evParts, vbuiltin, vun, vextract, Nat.reduceLT, Nat.reduceEqDiff, ↓reduceIte, reduceCtorEq, Nat.reduceAdd, Int.reduceLT, Int.reduceNeg, valloc_std, noSB, vlen_str T9, hbig', ofVal_nil]
    refine KD.ret dsk ?_
    simp only [k9_a, WK, vop, evAll, evOpt, evParts, vbuiltin, vun, vextract, Nat.reduceLT, Nat.reduceEqDiff, ↓reduceIte, reduceCtorEq, Nat.reduceAdd, Int.reduceLT, Int.reduceNeg, valloc_std, noSB]
    have hsk := skipL_le s
    refine Ev.loopF (fun i e σ' => ∃ toks f, e 6 = .int .i64 (i : Nat) ∧ OwnR 32 4 σ.toks.length σ' (e 5) (toks.flatMap tokC) toks.length ∧ toks.length ≤ 4096 ∧ i ≤ s.length ∧ lexGo s f i toks = lexS s ∧ s.length < i + f ∧ Keep σ σ') (fun i => s.length - i) (skipL s) ⟨[], s.length + 1, by simp [upd_some], by simpa [upd_some] using OwnR.nil, by simp, hsk, hlS.symm, by omega, Keep.refl σ⟩ ?_
    rintro i e σ' ⟨toks, f, h6, hO, htl, hi, hgo, hf1, hk⟩ hf
    have h0 : e 0 = .str s := (hf 0 (by decide)).trans (by simp [upd_some])
    clear hf
    have hlen := hO.row.len (t := 23) TT
    cases f with
    | zero => omega
    | succ f =>
    by_cases hlt : i < s.length
    · have hlt' : (i : Int) < s.length := by omega
      obtain ⟨q, s2, d2, rfl, k2⟩ := refnext_does hlt (by omega) σ'
      simp only [k9_a, WK, vop, evAll, evOpt, evParts, vbuiltin, vun, vextract, Nat.reduceLT, Nat.reduceEqDiff, ↓reduceIte, reduceCtorEq, Nat.reduceAdd, Int.reduceLT, Int.reduceNeg, valloc_std, noSB, h0, h6, vlen_str T9, hlt']
      refine KD.ret d2 ?_
      have hO2 := hO.keep k2.2.2
      have hk2 := hk.trans k2
      cases hn : nextR (s.drop i) with
      | bad off er =>
        rw [lexGo_bad hlt hn] at hgo
        obtain ⟨c, r, hcr⟩ : ∃ c r, s.drop i = c :: r := ⟨_, _, List.drop_eq_getElem_cons hlt⟩
        have her : (er = 0) = False := eq_false fun h => by
          have := (nextR_bad (by rw [← hcr]; exact hn)).1
          omega
        obtain ⟨s3, hs3, k3, q3⟩ := tokvar s2
        obtain ⟨s4, st4, ld4, k4, _⟩ := tokcell q3 rfl (show tok0C.length = 4 from rfl) rfl
        simp only [k9_a, WK, vop, evAll, evOpt, evParts, vbuiltin, vun, vextract, Nat.reduceLT, Nat.reduceEqDiff, ↓reduceIte, reduceCtorEq, Nat.reduceAdd, Int.reduceLT, Int.reduceNeg, valloc_std, noSB, nextT, ZK, vbox, vcells, ← hs3, st4, her, ofVal_nil]
        rw [← hgo]
        exact ⟨.nils, rfl, RowV.nil 4, (hk2.trans k3).viaX' k4 (Keep.len hk2)⟩
      | ok k t nm w =>
        rw [lexGo_ok hlt hn] at hgo
        have hw := nextR_w hn
        rw [List.length_drop] at hw
        obtain ⟨s3, hs3, k3, q3⟩ := tokvar s2
        obtain ⟨s4, st4, ld4, k4, _⟩ := tokcell q3 rfl (show (tokC ⟨k, t, nm, i⟩).length = 4 from rfl) rfl
        have hk4 : Keep σ s4 := (hk2.trans k3).viaX' k4 (Keep.len hk2)
        have hO4 := (hO2.keep k3.2.2).keep k4.2.2
        by_cases h4096 : 4096 ≤ toks.length
        · rw [if_pos h4096] at hgo
          have h4' : (4096 : Int) ≤ toks.length := by omega
          simp only [k9_a, WK, vop, evAll, evOpt, evParts, vbuiltin, vun, vextract, Nat.reduceLT, Nat.reduceEqDiff, ↓reduceIte, reduceCtorEq, Nat.reduceAdd, Int.reduceLT, Int.reduceNeg, valloc_std, noSB, nextT, ZK, vbox, vcells, ← hs3, st4, ofVal_nil, h6, hlen, h4']
          rw [← hgo]
          exact ⟨.nils, rfl, RowV.nil 4, hk4⟩
        · rw [if_neg h4096] at hgo
          have h4' : ¬ (4096 : Int) ≤ toks.length := by omega
          obtain ⟨v5, s5, ha5, hO5, hk5, _⟩ := hO4.append TRT rfl hk4 (t2 := 23) (y := .slice .exact 4 (tokC ⟨k, t, nm, i⟩) 1) (ys := tokC ⟨k, t, nm, i⟩) (l := 1) (by simp [vnews, TT]) rfl rfl (by omega) (by omega)
          have dsk2 := refskip_does s (i + w) (by omega) (by omega) s5
          have hsk2 := skipL_le (s.drop (i + w))
          rw [List.length_drop] at hsk2
          simp only [k9_a, WK, vop, evAll, evOpt, evParts, vbuiltin, vun, vextract, Nat.reduceLT, Nat.reduceEqDiff, ↓reduceIte, reduceCtorEq, Nat.reduceAdd, Int.reduceLT, Int.reduceNeg, valloc_std, noSB, nextT, ZK, vbox, vcells, ← hs3, st4, ld4, h0, h6, hlen, h4', build1T (tokC_len ⟨k, t, nm, i⟩), ha5]
          refine KD.ret dsk2 ?_
          simp only [k9_a, WK, vop, evAll, evOpt, evParts, vbuiltin, vun, vextract, Nat.reduceLT, Nat.reduceEqDiff, ↓reduceIte, reduceCtorEq, Nat.reduceAdd, Int.reduceLT, Int.reduceNeg, valloc_std, noSB]
          have hfl : (toks ++ [(⟨k, t, nm, i⟩ : Tok)]).flatMap tokC = toks.flatMap tokC ++ tokC ⟨k, t, nm, i⟩ := by simp
          refine ⟨i + w + skipL (s.drop (i + w)), ⟨toks ++ [⟨k, t, nm, i⟩], f, by simp [upd_some], ?_, by simp; omega, by omega, hgo, by omega, hk5⟩, by omega⟩
          rw [hfl, List.length_append, List.length_singleton]
          simpa [upd_some] using hO5
    · have hlt' : ¬ (i : Int) < s.length := by omega
      rw [lexGo_end hlt] at hgo
      by_cases h4096 : 4096 ≤ toks.length
      · rw [if_pos h4096] at hgo
        have h4' : (4096 : Int) ≤ toks.length := by omega
        simp only [k9_a, WK, vop, evAll, evOpt, evParts, vbuiltin, vun, vextract, Nat.reduceLT, Nat.reduceEqDiff, ↓reduceIte, reduceCtorEq, Nat.reduceAdd, Int.reduceLT, Int.reduceNeg, valloc_std, noSB, h0, h6, vlen_str T9, hlt', hlen, h4', ofVal_nil]
        rw [← hgo]
        exact ⟨.nils, rfl, RowV.nil 4, hk⟩
      · rw [if_neg h4096] at hgo
        have h4' : ¬ (4096 : Int) ≤ toks.length := by omega
        obtain ⟨v5, s5, ha5, hO5, hk5, _⟩ := hO.append TRT rfl hk (t2 := 23) (y := .slice .exact 4 [.int .i64 5, .str [], .int .i64 0, .int .i64 (i : Int)] 1) (ys := [.int .i64 5, .str [], .int .i64 0, .int .i64 (i : Int)]) (l := 1) (by simp [vnews, TT]) rfl rfl (by omega) (by omega)
        simp only [k9_a, WK, vop, evAll, evOpt, evParts, vbuiltin, vun, vextract, Nat.reduceLT, Nat.reduceEqDiff, ↓reduceIte, reduceCtorEq, Nat.reduceAdd, Int.reduceLT, Int.reduceNeg, valloc_std, noSB, h0, h6, vlen_str T9, hlt', hlen, h4', BK03, build1T (show ([.int .i64 5, .str [], .int .i64 0, .int .i64 (i : Int)] : List V).length = 4 from rfl), ha5]
        rw [← hgo]
        refine ⟨v5, rfl, ?_, hk5⟩
        have hfl : (toks ++ [(⟨5, [], 0, i⟩ : Tok)]).flatMap tokC = toks.flatMap tokC ++ [.int .i64 5, .str [], .int .i64 0, .int .i64 (i : Int)] := by simp [tokC]
        unfold TokRow
        rw [hfl, List.length_append, List.length_singleton]
        exact hO5.row

/-! ### Same -/
theorem FOK : fieldsOf Try.prog 32 = [(3, 0), (9, 1), (3, 2), (3, 3)] := by kernel_rfl
theorem EGK : Try.prog.eqGuardType Try.prog.depth 32 = false := by kernel_rfl
theorem tok_eq (x y : Tok) : aggEq Try.prog 10000 32 (.agg (tokC x)) (.agg (tokC y)) = some (decide (x = y)) := by
  have h3 := fun (a b : Int) => aggEq_int (P := Try.prog) (d := 9998) (a := a) (b := b) T3
  have h9 := fun (a b : List UInt8) => aggEq_str (P := Try.prog) (d := 9998) (a := a) (b := b) T9
  have p0 : ∀ x : Tok, (tokC x)[0]? = some (.int .i64 x.kind) := fun x => rfl
  have p1 : ∀ x : Tok, (tokC x)[1]? = some (.str x.text) := fun x => rfl
  have p2 : ∀ x : Tok, (tokC x)[2]? = some (.int .i64 (x.num : Int)) := fun x => rfl
  have p3 : ∀ x : Tok, (tokC x)[3]? = some (.int .i64 (x.pos : Int)) := fun x => rfl
  rw [aggEq_fields FOK]
  simp only [allEq, vpart_one G3, vpart_one G9, p0, p1, p2, p3, h3, h9, Int.natCast_inj]
  obtain ⟨a, b, c, e⟩ := x
  obtain ⟨a', b', c', e'⟩ := y
  simp only [Tok.mk.injEq]
  by_cases q1 : a = a' <;> simp [q1]
  by_cases q2 : b = b' <;> simp [q2]
  by_cases q3 : c = c' <;> simp [q3]
  by_cases q4 : e = e' <;> simp [q4]
theorem tok_neq {xo yo : Operand} (x y : Tok) : vbin Try.prog .neq 32 xo yo (.agg (tokC x)) (.agg (tokC y)) = some (.bool (!decide (x = y))) := vbin_aggneq EGK (tok_eq x y)
theorem tok_eql {xo yo : Operand} (x y : Tok) : vbin Try.prog .eql 32 xo yo (.agg (tokC x)) (.agg (tokC y)) = some (.bool (decide (x = y))) := vbin_aggeql EGK (tok_eq x y)
theorem TokRow.addr {w : V} {l : List Tok} (h : TokRow w l) {i : Nat} (hi : i < l.length) : vindexAddr Try.prog 23 w (.int .i64 (i : Int)) = some (.eptr (l.flatMap tokC) (i * 4)) := by
  have := RowV.addr h (t := 23) TT SK (by omega) (kk := .i64) (i := (i : Int)) (by omega) (by omega)
  rwa [Int.toNat_natCast] at this
theorem tok_load {l : List Tok} {i : Nat} (hi : i < l.length) {objs : List Ob} : vload Try.prog objs 32 (.eptr (l.flatMap tokC) (i * 4)) = some (.agg (tokC l[i])) := load_part tokC_len hi GK SK
theorem TokRow.len {w : V} {l : List Tok} (h : TokRow w l) : vlen Try.prog 23 w = some (.int .i64 (l.length : Nat)) := RowV.len h TT

theorem samerow_does {v w : V} {l m : List Tok} (hv : TokRow v l) (hw : TokRow w m) (hl : l.length ≤ 1000000) (σ : St) : Does Try.prog prims 10 [v, w] σ (.ret (.bool (decide (l = m)))) σ := by
  apply k10_is.ret (by simp)
  by_cases hlen : (l.length : Int) = (m.length : Int)
  · simp only [k10_a, WK, vop, evAll, evOpt, evParts, vbuiltin, vun, vextract, Nat.reduceLT, Nat.reduceEqDiff, ↓reduceIte, reduceCtorEq, Nat.reduceAdd, Int.reduceLT, Int.reduceNeg, valloc_std, noSB, List.getD_cons_zero, List.getD_cons_succ, hv.len, hw.len, hlen]
    refine Ev.loopF (fun (i : Nat) e σ' => e 13 = .int .i64 (i : Nat) ∧ i ≤ l.length ∧ l.take i = m.take i ∧ σ' = σ) (fun i => l.length - i) 0 ⟨by simp [upd_some], by simp, by simp, rfl⟩ ?_
    rintro i e σ2 ⟨h13, hi, ht, rfl⟩ hf
    have h12 : e 12 = .int .i64 m.length := (hf 12 (by decide)).trans (by simp [upd_some])
    have h0 : e 0 = v := (hf 0 (by decide)).trans (by simp [upd_some])
    have h1 : e 1 = w := (hf 1 (by decide)).trans (by simp [upd_some])
    clear hf
    by_cases hlt : i < l.length
    · have hlt' : (i : Int) < (m.length : Int) := by omega
      have hltm : i < m.length := by omega
      have hwi : IntKind.i64.wrap ((i : Int) + 1) = ((i + 1 : Nat) : Int) := by rw [show ((i : Int) + 1) = ((i + 1 : Nat) : Int) from by omega]; exact wrap_nat (by omega)
      have hne := fun (xo yo : Operand) => tok_neq (xo := xo) (yo := yo) l[i] m[i]
      by_cases hx : l[i] = m[i]
      · have hdx : decide (l[i] = m[i]) = true := decide_eq_true hx
        rw [hdx] at hne
        simp only [k10_a, WK, vop, evAll, evOpt, evParts, vbuiltin, vun, vextract, Nat.reduceLT, Nat.reduceEqDiff, ↓reduceIte, reduceCtorEq, Nat.reduceAdd, Int.reduceLT, Int.reduceNeg, valloc_std, noSB, h0, h1, h12, h13, hlt', hv.addr hlt, hw.addr hltm, tok_load hlt, tok_load hltm, hne, hwi]
        refine ⟨i + 1, ⟨by simp [upd_some], hlt, ?_⟩, by omega⟩
        rw [List.take_succ_eq_append_getElem hlt, List.take_succ_eq_append_getElem hltm, ht, hx]
      · have hdx : decide (l[i] = m[i]) = false := decide_eq_false hx
        rw [hdx] at hne
        simp only [k10_a, WK, vop, evAll, evOpt, evParts, vbuiltin, vun, vextract, Nat.reduceLT, Nat.reduceEqDiff, ↓reduceIte, reduceCtorEq, Nat.reduceAdd, Int.reduceLT, Int.reduceNeg, valloc_std, noSB, h0, h1, h12, h13, hlt', hv.addr hlt, hw.addr hltm, tok_load hlt, tok_load hltm, hne]
        have : decide (l = m) = false := decide_eq_false (fun h => hx (by subst h; rfl))
        rw [this]
    · have hlt' : ¬ (i : Int) < (m.length : Int) := by omega
      simp only [k10_a, WK, vop, evAll, evOpt, evParts, vbuiltin, vun, vextract, Nat.reduceLT, Nat.reduceEqDiff, ↓reduceIte, reduceCtorEq, Nat.reduceAdd, Int.reduceLT, Int.reduceNeg, valloc_std, noSB, h0, h1, h12, h13, hlt']
      have e1 : l.take i = l := List.take_of_length_le (by omega)
      have e2 : m.take i = m := List.take_of_length_le (by omega)
      rw [e1, e2] at ht
      subst ht
      simp
  · simp only [k10_a, WK, vop, evAll, evOpt, evParts, vbuiltin, vun, vextract, Nat.reduceLT, Nat.reduceEqDiff, ↓reduceIte, reduceCtorEq, Nat.reduceAdd, Int.reduceLT, Int.reduceNeg, valloc_std, noSB, List.getD_cons_zero, List.getD_cons_succ, hv.len, hw.len, hlen]
    have : decide (l = m) = false := decide_eq_false (fun h => hlen (by rw [h]))
    rw [this]
end Go.Proofs.Ytodcajpeilgfgaa.Q
