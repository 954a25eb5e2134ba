import Derived.Test.YtodcajpeilgfgaaLg
set_option linter.unusedVariables false
set_option linter.unusedSimpArgs false
namespace Go.Proofs.Ytodcajpeilgfgaa.Q
open Go Go.RowKit Go.Proofs

/-! ### The document's tokens -/
def nextT (n : Nat) : NR → V
  | .bad off e => .tuple [.agg tok0C, .int .i64 ((n + off : Nat) : Int), .int .i64 e]
  | .ok k t nm w => .tuple [.agg (tokC ⟨k, t, nm, n⟩), .int .i64 ((n + w : Nat) : Int), .int .i64 0]
theorem tokcell {σ : St} {q : Nat} {c0 c : List V} (h : σ.objs[q]? = some (.cells c0)) (h0 : c0.length = 4) (hc : c.length = 4) (h1 : c.all one = true) : ∃ s2, vstore Try.prog σ 32 (.optr q 0) (.agg c) = some s2 ∧ vload Try.prog s2.objs 32 (.optr q 0) = some (.agg c) ∧ KeepX q σ s2 ∧ s2.objs[q]? = some (.cells c) ∧ s2.toks = σ.toks := by
  obtain ⟨s2, e⟩ : ∃ s2 : St, s2 = ⟨σ.objs.set q (.cells c), σ.toks⟩ := ⟨_, rfl⟩
  obtain ⟨k, hk⟩ := KeepX.set_eq h e
  exact ⟨s2, by rw [vstore_agg h (by rw [hc]; exact SK) (by rw [hc, h0]) h1, e], vload_agg hk GK (by rw [hc]; exact SK), k, hk, by rw [e]⟩
theorem BK0 : vbuild Try.prog 32 [] = some (.agg tok0C) := by kernel_rfl
theorem BK4 (k : Int) (t : List UInt8) (n p : Int) : vbuild Try.prog 32 [(0, .int .i64 k), (1, .str t), (2, .int .i64 n), (3, .int .i64 p)] = some (.agg [.int .i64 k, .str t, .int .i64 n, .int .i64 p]) := by kernel_rfl
theorem BK13 (k : Int) (t : List UInt8) (p : Int) : vbuild Try.prog 32 [(0, .int .i64 k), (1, .str t), (3, .int .i64 p)] = some (.agg [.int .i64 k, .str t, .int .i64 0, .int .i64 p]) := by kernel_rfl
theorem BK03 (k : Int) (p : Int) : vbuild Try.prog 32 [(0, .int .i64 k), (3, .int .i64 p)] = some (.agg [.int .i64 k, .str [], .int .i64 0, .int .i64 p]) := by kernel_rfl
theorem wrap_u64 {x : Int} (h1 : 0 ≤ x) (h2 : x < 18446744073709551616) : IntKind.u64.wrap x = x := by
  unfold IntKind.wrap
  simp [IntKind.bits, IntKind.signed, IntKind.max, IntKind.min]
  omega
theorem T51 : Try.prog.underlying 51 = some (.int .u64) := by kernel_rfl

/-- A result's variable at the start. -/
theorem tokvar (σ : St) : ∃ s1 : St, s1 = ⟨σ.objs ++ [Ob.cells tok0C], σ.toks⟩ ∧ Keep σ s1 ∧ s1.objs[σ.objs.length]? = some (.cells tok0C) := ⟨_, rfl, (Keep.refl σ).push _, push_new _ _⟩

set_option maxRecDepth 100000 in
theorem refnumber_does {s : List UInt8} {n : Nat} (hn : n < s.length) (hs : s.length ≤ 1000000) {c : UInt8} {r : List UInt8} (hcr : s.drop n = c :: r) (hdg : isDg c = true) (σ : St) :
    ∃ q σ', Does Try.prog prims 20 [.str s, .int .i64 (n : Int)] σ q σ' ∧ q = .ret (nextT n (numR (s.drop n))) ∧ Keep σ σ' := by
  apply k20_is.does (by simp)
  obtain ⟨s1, hs1, k1, q1⟩ := tokvar σ
  have hc : s[n]? = some c := by have := congrArg (·[0]?) hcr; simpa using this
  obtain ⟨w, hw⟩ : ∃ w, w = spanL isDg (s.drop n) := ⟨_, rfl⟩
  have hwl := spanL_le isDg (s.drop n)
  rw [← hw, List.length_drop] at hwl
  have hw0 : 0 < w := by rw [hw, hcr, spanL_cons hdg]; omega
  obtain ⟨tx, htx⟩ : ∃ tx, tx = (s.drop n).take w := ⟨_, rfl⟩
  have hsl := str_lohi (s := s) (n := n) (m := n + w) (by omega) (by omega) (k := .i64) (k' := .i64)
  rw [List.drop_take, show n + w - n = w by omega, ← htx] at hsl
  have htl : tx.length = w := by rw [htx, List.length_take, List.length_drop]; omega
  have htd : ∀ (i : Nat) (hi : i < tx.length), isDg tx[i] = true := by
    intro i hi
    have h2 : i < (s.drop n).length := by rw [List.length_drop]; omega
    have := span_all (p := isDg) (l := s.drop n) (i := i) h2 (by rw [← hw]; omega)
    simp only [htx, List.getElem_take]
    exact this
  have hts : ∀ (i : Nat) (hi : i < tx.length), s[n + i]? = some tx[i] := by
    intro i hi
    have h2 : i < (s.drop n).length := by rw [List.length_drop]; omega
    simp only [htx, List.getElem_take, List.getElem_drop]
    exact List.getElem?_eq_getElem _
  have hhead : (s.drop n).head? = some c := by rw [hcr]; rfl
  have hR : numR (s.drop n) = if 1 < w ∧ c = 48 then .bad 0 30 else if 9223372036854775808 ≤ decV tx then .bad 0 3 else .ok 2 tx (decV tx) w := by
    unfold numR; rw [← hw, ← htx, hhead]
    simp only [Option.some.injEq]
  rw [hR]
  have c48 : ((c.toNat : Int) = 48) = (c = 48) := by rw [show (48 : Int) = ((48 : Nat) : Int) from rfl, u8n (by decide)]; rfl
  simp only [k20_a, WK, vop, evAll, evOpt, evParts, vbuiltin, vun, vextract, Nat.reduceLT, Nat.reduceEqDiff, ↓reduceIte, reduceCtorEq, Nat.reduceAdd, Int.reduceLT, Int.reduceNeg, valloc_std, noSB, ZK, vbox, vcells, ← hs1]
  refine Ev.loopF (fun i e σ' => e 7 = .int .i64 (i : Nat) ∧ n ≤ i ∧ i ≤ s.length ∧ i + spanL isDg (s.drop i) = n + w ∧ σ' = s1) (fun i => s.length - i) n ⟨by simp [upd_some], Nat.le_refl _, by omega, by rw [hw], rfl⟩ ?_
  rintro i e σ' ⟨h7, hni, hi, hsp, rfl⟩ hf
  have h0 : e 0 = .str s := (hf 0 (by decide)).trans (by simp [upd_some])
  have h1 : e 1 = .int .i64 n := (hf 1 (by decide)).trans (by simp [upd_some])
  have h4 : e 4 = .optr σ.objs.length 0 := (hf 4 (by decide)).trans (by simp [upd_some])
  clear hf
  have tail : ∀ (e2 : Nat → V), e2 7 = .int .i64 ((n + w : Nat) : Int) → e2 0 = .str s → e2 1 = .int .i64 n → e2 4 = .optr σ.objs.length 0 →
      Ev Try.prog prims 66 (.seq (.seq (.region k20_r4) (.cond (.tmp 32) (.seq (.region k20_r5) .ret) .skip)) (.seq (.region k20_r6) (.seq (.seq (.region k20_r7) (.block 2 (.loop k20_l1))) (.seq (.seq (.region k20_r13) (.cond (.tmp 54) (.seq (.region k20_r14) .ret) .skip)) (.seq (.region k20_r15) .ret))))) e2 σ' (fnK Try.prog 66 [.cell 4 32, .tmp 5, .tmp 6] fun q σ' => q = .ret (nextT n (if 1 < w ∧ c = 48 then .bad 0 30 else if 9223372036854775808 ≤ decV tx then .bad 0 3 else .ok 2 tx (decV tx) w)) ∧ Keep σ σ') := by
    intro e2 g7 g0 g1 g4
    have w1 : IntKind.i64.wrap (((n + w : Nat) : Int) - (n : Int)) = (w : Int) := by rw [wrap_i64 (by omega) (by omega)]; omega
    obtain ⟨s2, st2, ld2, k2, _⟩ := tokcell q1 rfl (show tok0C.length = 4 from rfl) rfl
    by_cases hz : 1 < w ∧ c = 48
    · have hw1 : (1 : Int) < w := by omega
      have e48 : ((c.toNat : Int) = 48) = True := by rw [c48]; exact eq_true hz.2
      simp only [k20_a, WK, vop, evAll, evOpt, evParts, vbuiltin, vun, vextract, Nat.reduceLT, Nat.reduceEqDiff, ↓reduceIte, reduceCtorEq, Nat.reduceAdd, Int.reduceLT, Int.reduceNeg, valloc_std, noSB, g7, g0, g1, g4, w1, hw1, str_at hc, e48, BK0, st2, ld2]
      rw [if_pos hz]
      exact ⟨rfl, k1.viaX' k2 (Nat.le_refl _)⟩
    · rw [if_neg hz]
      have rest : ∀ (e3 : Nat → V), e3 7 = .int .i64 ((n + w : Nat) : Int) → e3 0 = .str s → e3 1 = .int .i64 n → e3 4 = .optr σ.objs.length 0 →
          Ev Try.prog prims 66 (.seq (.region k20_r6) (.seq (.seq (.region k20_r7) (.block 2 (.loop k20_l1))) (.seq (.seq (.region k20_r13) (.cond (.tmp 54) (.seq (.region k20_r14) .ret) .skip)) (.seq (.region k20_r15) .ret)))) e3 σ' (fnK Try.prog 66 [.cell 4 32, .tmp 5, .tmp 6] fun q σ' => q = .ret (nextT n (if 9223372036854775808 ≤ decV tx then .bad 0 3 else .ok 2 tx (decV tx) w)) ∧ Keep σ σ') := by
        intro e3 g7 g0 g1 g4
        simp only [k20_a, WK, vop, evAll, evOpt, evParts, vbuiltin, vun, vextract, Nat.reduceLT, Nat.reduceEqDiff, ↓reduceIte, reduceCtorEq, Nat.reduceAdd, Int.reduceLT, Int.reduceNeg, valloc_std, noSB, g1]
        refine Ev.loopF (fun j e4 σ4 => e4 9 = .int .i64 ((n + j : Nat) : Int) ∧ j ≤ w ∧ e4 8 = .int .u64 ((decV (tx.take j) : Nat) : Int) ∧ decV (tx.take j) < 18446744073709551616 ∧ σ4 = σ') (fun j => w - j) 0 ⟨by simp [upd_some], by omega, by simp [upd_some, decV], by simp [decV], rfl⟩ ?_
        rintro j e4 σ4 ⟨h9, hj, h8, hlt, rfl⟩ hf
        have g7 : e4 7 = .int .i64 ((n + w : Nat) : Int) := (hf 7 (by decide)).trans (by simp [upd_some, g7])
        have g0 : e4 0 = .str s := (hf 0 (by decide)).trans (by simp [upd_some, g0])
        have g1 : e4 1 = .int .i64 n := (hf 1 (by decide)).trans (by simp [upd_some, g1])
        have g4 : e4 4 = .optr σ.objs.length 0 := (hf 4 (by decide)).trans (by simp [upd_some, g4])
        clear hf
        by_cases hjw : j < w
        · have hjw' : ((n + j : Nat) : Int) < ((n + w : Nat) : Int) := by omega
          have hjt : j < tx.length := by omega
          have hdgj := htd j hjt
          obtain ⟨cj, hcj⟩ : ∃ cj, cj = tx[j] := ⟨_, rfl⟩
          have hat := str_at (hts j hjt) (k := .i64)
          rw [← hcj] at hat hdgj
          simp only [isDg, Bool.and_eq_true, decide_eq_true_eq] at hdgj
          have hsx := decV_succ hjt
          rw [← hcj] at hsx
          unfold decF at hsx
          obtain ⟨x, hx⟩ : ∃ x, x = decV (tx.take j) := ⟨_, rfl⟩
          rw [← hx] at h8 hlt hsx
          have w2 : IntKind.u8.wrap ((cj.toNat : Int) - 48) = ((cj.toNat - 48 : Nat) : Int) := by rw [wrap_u8 (by omega) (by omega)]; omega
          obtain ⟨dg, hdg'⟩ : ∃ dg, dg = cj.toNat - 48 := ⟨_, rfl⟩
          rw [← hdg'] at w2 hsx
          have w3 : IntKind.u64.wrap (dg : Int) = (dg : Int) := wrap_u64 (by omega) (by omega)
          by_cases hbig : 1152921504606846976 < x
          · have hbig' : (1152921504606846976 : Int) < (x : Int) := by omega
            have hover : 9223372036854775808 ≤ decV tx := by
              have := decV_le tx (j + 1)
              omega
            simp only [k20_a, WK, vop, evAll, evOpt, evParts, vbuiltin, vun, vextract, Nat.reduceLT, Nat.reduceEqDiff, ↓reduceIte, reduceCtorEq, Nat.reduceAdd, Int.reduceLT, Int.reduceNeg, valloc_std, noSB, g7, g0, g1, g4, h8, h9, hjw', hbig', BK0, st2, ld2]
            rw [if_pos hover]
            exact ⟨rfl, k1.viaX' k2 (Nat.le_refl _)⟩
          · have hbig' : ¬ (1152921504606846976 : Int) < (x : Int) := by omega
            have w4 : IntKind.u64.wrap ((x : Int) * 10) = ((x * 10 : Nat) : Int) := by rw [wrap_u64 (by omega) (by omega)]; omega
            have w5 : IntKind.u64.wrap (((x * 10 : Nat) : Int) + (dg : Int)) = ((x * 10 + dg : Nat) : Int) := by rw [wrap_u64 (by omega) (by omega)]; omega
            have w6 : IntKind.i64.wrap (((n + j : Nat) : Int) + 1) = ((n + (j + 1) : Nat) : Int) := by rw [show (((n + j : Nat) : Int) + 1) = ((n + (j + 1) : Nat) : Int) from by omega]; exact wrap_nat (by omega)
            simp only [k20_a, WK, vop, evAll, evOpt, evParts, vbuiltin, vun, vextract, Nat.reduceLT, Nat.reduceEqDiff, ↓reduceIte, reduceCtorEq, Nat.reduceAdd, Int.reduceLT, Int.reduceNeg, valloc_std, noSB, g7, g0, g1, g4, h8, h9, hjw', hbig', hat, w2, w3, w4, w5, w6, vconv, T5, T51]
            exact ⟨j + 1, ⟨by simp [upd_some], by omega, by simp [upd_some, hsx], by omega⟩, by omega⟩
        · have hjw' : ¬ ((n + j : Nat) : Int) < ((n + w : Nat) : Int) := by omega
          have htt : tx.take j = tx := List.take_of_length_le (by omega)
          rw [htt] at h8 hlt
          by_cases hbig : 9223372036854775808 ≤ decV tx
          · have hbig' : (9223372036854775807 : Int) < (decV tx : Nat) := by omega
            simp only [k20_a, WK, vop, evAll, evOpt, evParts, vbuiltin, vun, vextract, Nat.reduceLT, Nat.reduceEqDiff, ↓reduceIte, reduceCtorEq, Nat.reduceAdd, Int.reduceLT, Int.reduceNeg, valloc_std, noSB, g7, g0, g1, g4, h8, h9, hjw', hbig', BK0, st2, ld2]
            rw [if_pos hbig]
            exact ⟨rfl, k1.viaX' k2 (Nat.le_refl _)⟩
          · have hbig' : ¬ (9223372036854775807 : Int) < (decV tx : Nat) := by omega
            have w7 : IntKind.i64.wrap ((decV tx : Nat) : Int) = ((decV tx : Nat) : Int) := wrap_nat (by omega)
            obtain ⟨s3, st3, ld3, k3, _⟩ := tokcell q1 rfl (show (tokC ⟨2, tx, decV tx, n⟩).length = 4 from rfl) rfl
            simp only [tokC] at st3 ld3
            simp only [k20_a, WK, vop, evAll, evOpt, evParts, vbuiltin, vun, vextract, Nat.reduceLT, Nat.reduceEqDiff, ↓reduceIte, reduceCtorEq, Nat.reduceAdd, Int.reduceLT, Int.reduceNeg, valloc_std, noSB, g7, g0, g1, g4, h8, h9, hjw', hbig', T9, hsl, w7, BK4, vconv, T3, T51, st3, ld3]
            rw [if_neg hbig]
            exact ⟨rfl, k1.viaX' k3 (Nat.le_refl _)⟩
      simp only [WK, vop, evAll, evOpt, evParts, vbuiltin, vun, vextract, Nat.reduceLT, Nat.reduceEqDiff, ↓reduceIte, reduceCtorEq, Nat.reduceAdd, Int.reduceLT, Int.reduceNeg, valloc_std, noSB] at rest
      by_cases hw1 : (1 : Int) < w
      · have e48 : ((c.toNat : Int) = 48) = False := by rw [c48]; exact eq_false fun e => hz ⟨by omega, e⟩
        simp only [k20_r4_e, k20_r5_e, WK, vop, evAll, evOpt, evParts, vbuiltin, vun, vextract, Nat.reduceLT, Nat.reduceEqDiff, ↓reduceIte, reduceCtorEq, Nat.reduceAdd, Int.reduceLT, Int.reduceNeg, valloc_std, noSB, g7, g0, g1, g4, w1, hw1, str_at hc, e48]
        exact rest _ (by simp [upd_some, g7]) (by simp [upd_some, g0]) (by simp [upd_some, g1]) (by simp [upd_some, g4])
      · simp only [k20_r4_e, k20_r5_e, WK, vop, evAll, evOpt, evParts, vbuiltin, vun, vextract, Nat.reduceLT, Nat.reduceEqDiff, ↓reduceIte, reduceCtorEq, Nat.reduceAdd, Int.reduceLT, Int.reduceNeg, valloc_std, noSB, g7, g0, g1, g4, w1, hw1]
        exact rest _ (by simp [upd_some, g7]) (by simp [upd_some, g0]) (by simp [upd_some, g1]) (by simp [upd_some, g4])
  simp only [WK, vop, evAll, evOpt, evParts, vbuiltin, vun, vextract, Nat.reduceLT, Nat.reduceEqDiff, ↓reduceIte, reduceCtorEq, Nat.reduceAdd, Int.reduceLT, Int.reduceNeg, valloc_std, noSB] at tail
  by_cases hlt : i < s.length
  · have hlt' : (i : Int) < s.length := by omega
    obtain ⟨d, r2, hdr⟩ : ∃ d r2, s.drop i = d :: r2 := ⟨_, _, List.drop_eq_getElem_cons hlt⟩
    have hd : s[i]? = some d := by have := congrArg (·[0]?) hdr; simpa using this
    have hr2 : s.drop (i + 1) = r2 := by rw [← List.drop_drop, hdr]; rfl
    have hwi := idx_wrap (i := i) (by omega)
    simp only [k20_l0_e, k20_r2_e, WK, vop, evAll, evOpt, evParts, vbuiltin, vun, vextract, Nat.reduceLT, Nat.reduceEqDiff, ↓reduceIte, reduceCtorEq, Nat.reduceAdd, Int.reduceLT, Int.reduceNeg, valloc_std, noSB, h0, h1, h7, vlen_str T9, hlt', str_at hd]
    refine KD.ret (refdigit_does d σ') ?_
    by_cases hdd : isDg d = true
    · simp only [k20_r3_e, WK, vop, evAll, evOpt, evParts, vbuiltin, vun, vextract, Nat.reduceLT, Nat.reduceEqDiff, ↓reduceIte, reduceCtorEq, Nat.reduceAdd, Int.reduceLT, Int.reduceNeg, valloc_std, noSB, h0, h1, h7, hdd, hwi]
      refine ⟨i + 1, ⟨by simp [upd_some], by omega, hlt, ?_⟩, by omega⟩
      rw [← hsp, hdr, spanL_cons hdd, hr2]
      omega
    · have hdf : isDg d = false := by simpa using hdd
      have hiw : i = n + w := by rw [← hsp, hdr, spanL_stop hdf]; rfl
      simp only [WK, vop, evAll, evOpt, evParts, vbuiltin, vun, vextract, Nat.reduceLT, Nat.reduceEqDiff, ↓reduceIte, reduceCtorEq, Nat.reduceAdd, Int.reduceLT, Int.reduceNeg, valloc_std, noSB, h0, h1, h7, hdf]
      exact tail _ (by simp [upd_some, h7, hiw]) (by simp [upd_some, h0]) (by simp [upd_some, h1]) (by simp [upd_some, h4])
  · have hlt' : ¬ (i : Int) < s.length := by omega
    have hiw : i = n + w := by rw [← hsp, List.drop_of_length_le (by omega)]; rfl
    simp only [k20_l0_e, k20_r2_e, WK, vop, evAll, evOpt, evParts, vbuiltin, vun, vextract, Nat.reduceLT, Nat.reduceEqDiff, ↓reduceIte, reduceCtorEq, Nat.reduceAdd, Int.reduceLT, Int.reduceNeg, valloc_std, noSB, h0, h1, h7, vlen_str T9, hlt']
    exact tail _ (by simp [upd_some, h7, hiw]) (by simp [upd_some, h0]) (by simp [upd_some, h1]) (by simp [upd_some, h4])
end Go.Proofs.Ytodcajpeilgfgaa.Q
