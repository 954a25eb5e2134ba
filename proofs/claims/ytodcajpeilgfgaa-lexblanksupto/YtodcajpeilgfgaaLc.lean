import Derived.Test.YtodcajpeilgfgaaLb
set_option linter.unusedVariables false
set_option linter.unusedSimpArgs false
namespace Go.Proofs.Ytodcajpeilgfgaa.Q
open Go Go.RowKit Go.Proofs

/-! ### Numbers -/
theorem decV_append (a b : List UInt8) : decV (a ++ b) = b.foldl decF (decV a) := by unfold decV; rw [List.foldl_append]
theorem foldl_ge (n : Nat) : ∀ (l : List UInt8), n ≤ l.foldl decF n
  | [] => Nat.le_refl _
  | c :: l => by
    rw [List.foldl_cons]
    have h1 : n ≤ decF n c := by unfold decF; omega
    exact Nat.le_trans h1 (foldl_ge _ l)
theorem decV_le (l : List UInt8) (i : Nat) : decV (l.take i) ≤ decV l := by
  have h := decV_append (l.take i) (l.drop i)
  rw [List.take_append_drop] at h
  rw [h]; exact foldl_ge _ _
theorem decV_succ {l : List UInt8} {i : Nat} (h : i < l.length) : decV (l.take (i + 1)) = decF (decV (l.take i)) l[i] := by
  rw [List.take_succ_eq_append_getElem h, decV_append]; rfl
theorem span_all {p : UInt8 → Bool} : ∀ {l : List UInt8} {i : Nat} (h : i < l.length), i < spanL p l → p l[i] = true
  | c :: l, i, h, hi => by
    by_cases hc : p c = true
    · rw [spanL_cons hc] at hi
      cases i with
      | zero => exact hc
      | succ i =>
        have := span_all (p := p) (l := l) (i := i) (by simpa using h) (by omega)
        simpa using this
    · rw [Bool.not_eq_true] at hc
      rw [spanL_stop hc] at hi
      omega
theorem decV_one (c : UInt8) : decV [c] = c.toNat - 48 := by simp [decV, decF]

def OneR (p m : Nat) (s : List UInt8) (n : Nat) (toks : List Tok) (r : NR) (σ : St) (q : VRes) (σ' : St) : Prop :=
  KeepM p m σ σ' ∧ match r with
  | .bad off e => q = .pan (faultV (n + off) e)
  | .ok k t nm w => if 4096 ≤ toks.length then q = .pan (faultV n 36) else q = .ret (.tuple []) ∧ LexR σ' p s (n + w) (toks ++ [⟨k, t, nm, n⟩]) m
theorem BK3 (k n : Int) (t : List UInt8) : vbuild Try.prog 32 [(0, .int .i64 k), (1, .str t), (2, .int .i64 n)] = some (.agg [.int .i64 k, .str t, .int .i64 n, .int .i64 0]) := by kernel_rfl
theorem BK2 (k : Int) (t : List UInt8) : vbuild Try.prog 32 [(0, .int .i64 k), (1, .str t)] = some (.agg [.int .i64 k, .str t, .int .i64 0, .int .i64 0]) := by kernel_rfl
theorem BK1 (k : Int) : vbuild Try.prog 32 [(0, .int .i64 k)] = some (.agg [.int .i64 k, .str [], .int .i64 0, .int .i64 0]) := by kernel_rfl
theorem sb1 (s : List UInt8) : vconv Try.prog 9 29 (.str s) = none := by simp [vconv, T9, T22]
theorem sb2 {s : List UInt8} (h : s.length ≤ 140737488355328) : strShort (.str s) = true := by simp [strShort, h]
theorem sb3 (s : List UInt8) : vbytes Try.prog 9 29 (.str s) = some (.slice .ro 1 (s.map byteV) s.length) := by simp [vbytes, T9, T22, T5, isU8]

set_option maxRecDepth 100000 in
theorem number_does {σ : St} {p : Nat} {s : List UInt8} {n : Nat} {toks : List Tok} {m : Nat} (h : LexR σ p s n toks m) (hn : n < s.length) (hs : s.length ≤ 1000000) (hl : toks.length ≤ 4096) {c : UInt8} {r : List UInt8} (hcr : s.drop n = c :: r) (hdg : isDg c = true) :
    ∃ q σ', Does Try.prog prims 26 [.optr p 0] σ q σ' ∧ OneR p m s n toks (numR (s.drop n)) σ q σ' := by
  apply k26_is.does (by simp)
  obtain ⟨v, hL⟩ := h.at
  obtain ⟨w, hw⟩ : ∃ w, w = spanL isDg (s.drop n) := ⟨_, rfl⟩
  have hwl := spanL_le isDg (s.drop n)
  rw [← hw, List.length_drop] at hwl
  have hw0 : 0 < w := by rw [hw, hcr, spanL_cons hdg]; omega
  have d1 := run_does hL (by omega) (by omega) in_digits
  rw [← hw] at d1
  obtain ⟨tx, htx⟩ : ∃ tx, tx = (s.drop n).take w := ⟨_, rfl⟩
  have hsl := str_lohi (s := s) (n := n) (m := n + w) (by omega) (by omega) (k := .i64) (k' := .i64)
  rw [List.drop_take, show n + w - n = w by omega, ← htx] at hsl
  have htl : tx.length = w := by rw [htx, List.length_take, List.length_drop]; omega
  have htd : ∀ (i : Nat) (hi : i < tx.length), isDg tx[i] = true := by
    intro i hi
    have h2 : i < (s.drop n).length := by rw [List.length_drop]; omega
    have := span_all (p := isDg) (l := s.drop n) (i := i) h2 (by rw [← hw]; omega)
    simp only [htx, List.getElem_take]
    exact this
  have hhd : tx[0]? = some c := by rw [htx, hcr, List.getElem?_take_of_lt hw0]; rfl
  have hhead : (s.drop n).head? = some c := by rw [hcr]; rfl
  have hR : numR (s.drop n) = if 1 < w ∧ c = 48 then .bad 0 30 else if 9223372036854775808 ≤ decV tx then .bad 0 3 else .ok 2 tx (decV tx) w := by
    unfold numR; rw [← hw, ← htx, hhead]
    simp only [Option.some.injEq]
  rw [hR]
  simp only [k26_a, WK, vop, evAll, evOpt, evParts, vbuiltin, vun, vextract, Nat.reduceLT, Nat.reduceEqDiff, ↓reduceIte, reduceCtorEq, Nat.reduceAdd, Int.reduceLT, Int.reduceNeg, valloc_std, noSB, ofVal_str]
  refine KD.ret d1 ?_
  have c48 : ((c.toNat : Int) = 48) = (c = 48) := by
    apply propext
    constructor
    · intro e; rw [← UInt8.ofNat_toNat (x := c), show c.toNat = 48 by omega]; rfl
    · rintro rfl; rfl
  by_cases h1 : 1 < w ∧ c = 48
  · have h1' : (1 : Int) < tx.length := by omega
    have hi0 := str_at hhd (k := .i64)
    rw [h1.2] at hi0
    simp only [Int.ofNat_zero, Int.natCast_zero, Int.cast_ofNat_Int] at hi0
    have h48 : ((48 : UInt8).toNat : Int) = 48 := rfl
    rw [h48] at hi0
    simp only [k26_a, WK, vop, evAll, evOpt, evParts, vbuiltin, vun, vextract, Nat.reduceLT, Nat.reduceEqDiff, ↓reduceIte, reduceCtorEq, Nat.reduceAdd, Int.reduceLT, Int.reduceNeg, valloc_std, noSB, FL0, FL1, hL.str, hL.at, T9, hsl, vlen_str T9, h1', hi0]
    refine KD.pan (fail_does _ n 30 σ) ?_
    simp only [WK, vop, evAll, evOpt, evParts, vbuiltin, vun, vextract, Nat.reduceLT, Nat.reduceEqDiff, ↓reduceIte, reduceCtorEq, Nat.reduceAdd, Int.reduceLT, Int.reduceNeg, valloc_std, noSB]
    exact ⟨KeepM.refl _ _ _, by rw [if_pos h1]; rfl⟩
  · rw [if_neg h1]
    have hno : ∀ {Q : Prop}, ((1 : Int) < tx.length → ((c.toNat : Int) = 48) = False → Q) → (¬ (1 : Int) < tx.length → Q) → Q := by
      intro Q h2 h3
      by_cases hb : (1 : Int) < tx.length
      · exact h2 hb (eq_false (by rw [c48]; exact fun e => h1 ⟨by omega, e⟩))
      · exact h3 hb
    have hi0 := str_at hhd (k := .i64)
    simp only [Int.ofNat_zero, Int.natCast_zero, Int.cast_ofNat_Int] at hi0
    have loop : ∀ (e : Nat → V) (Q : VX → (Nat → V) → St → Prop), e 0 = .optr p 0 → e 2 = .int .i64 ((n + w : Nat) : Int) → e 3 = .str tx → (∀ q σ', OneR p m s n toks (if 9223372036854775808 ≤ decV tx then .bad 0 3 else .ok 2 tx (decV tx) w) σ q σ' → (match q with | .ret _ => ∀ e', Q .normal e' σ' | .pan v => ∀ e', Q (.pan v) e' σ')) →
        Ev Try.prog prims 66 (.seq (.region k26_r4) (.seq (.seq (.region k26_r5) (.block 0 (.loop k26_l0))) (.region k26_r13))) e σ Q := by
      intro e Q g0 g2 g3 hQ
      simp only [k26_a, WK, vop, evAll, evOpt, evParts, vbuiltin, vun, vextract, Nat.reduceLT, Nat.reduceEqDiff, ↓reduceIte, reduceCtorEq, Nat.reduceAdd, Int.reduceLT, Int.reduceNeg, valloc_std, noSB, g3, sb1, sb2 (show tx.length ≤ 140737488355328 by omega), sb3]
      have hbt : BtsV (.slice .ro 1 (tx.map byteV) tx.length) tx := .inr ⟨_, rfl⟩
      simp only [WK, vop, evAll, evOpt, evParts, vbuiltin, vun, vextract, Nat.reduceLT, Nat.reduceEqDiff, ↓reduceIte, reduceCtorEq, Nat.reduceAdd, Int.reduceLT, Int.reduceNeg, valloc_std, noSB, hbt.len T22]
      refine Ev.loopF (fun i e' σ' => e' 37 = .int .i64 (i : Nat) ∧ i ≤ w ∧ e' 4 = .int .i64 ((decV (tx.take i) : Nat) : Int) ∧ decV (tx.take i) < 9223372036854775808 ∧ σ' = σ) (fun i => w - i) 0 ⟨by simp [upd_some], by omega, by simp [upd_some, decV], by simp [decV], rfl⟩ ?_
      rintro i e' σ' ⟨h37, hi, h4, hlt, rfl⟩ hf
      have h0 : e' 0 = .optr p 0 := (hf 0 (by decide)).trans (by simp [upd_some, g0])
      have h2 : e' 2 = .int .i64 ((n + w : Nat) : Int) := (hf 2 (by decide)).trans (by simp [upd_some, g2])
      have h3 : e' 3 = .str tx := (hf 3 (by decide)).trans (by simp [upd_some, g3])
      have h35 : e' 35 = .slice .ro 1 (tx.map byteV) tx.length := (hf 35 (by decide)).trans (by simp [upd_some])
      have h36 : e' 36 = .int .i64 tx.length := (hf 36 (by decide)).trans (by simp [upd_some])
      clear hf
      by_cases hiw : i < w
      · have hiw' : (i : Int) < tx.length := by omega
        have hit : i < tx.length := by omega
        have hdgi := htd i hit
        obtain ⟨ci, hci⟩ : ∃ ci, ci = tx[i] := ⟨_, rfl⟩
        have hld := BtsV.load (bs := tx) G5 (objs := σ'.objs) hit
        rw [← hci] at hld hdgi
        simp only [isDg, Bool.and_eq_true, decide_eq_true_eq] at hdgi
        have hs := decV_succ hit
        rw [← hci] at hs
        unfold decF at hs
        obtain ⟨x, hx⟩ : ∃ x, x = decV (tx.take i) := ⟨_, rfl⟩
        rw [← hx] at h4 hlt hs
        have w1 : IntKind.u8.wrap ((ci.toNat : Int) - 48) = ((ci.toNat - 48 : Nat) : Int) := by rw [wrap_u8 (by omega) (by omega)]; omega
        have w2 : IntKind.i64.wrap ((ci.toNat - 48 : Nat) : Int) = ((ci.toNat - 48 : Nat) : Int) := wrap_nat (by omega)
        obtain ⟨dg, hdg'⟩ : ∃ dg, dg = ci.toNat - 48 := ⟨_, rfl⟩
        rw [← hdg'] at w1 w2 hs
        have w3 : IntKind.i64.wrap (9223372036854775807 - (dg : Int)) = ((9223372036854775807 - dg : Nat) : Int) := by rw [wrap_i64 (by omega) (by omega)]; omega
        have w4 : IntKind.i64.wrap (Int.tdiv ((9223372036854775807 - dg : Nat) : Int) 10) = (((9223372036854775807 - dg) / 10 : Nat) : Int) := by
          rw [Int.tdiv_eq_ediv_of_nonneg (by omega), wrap_i64 (by omega) (by omega)]; omega
        have e10 : ((10 : Int) = 0) = False := eq_false (by decide)
        by_cases hbig : (9223372036854775807 - dg) / 10 < x
        · have hbig' : (((9223372036854775807 - dg) / 10 : Nat) : Int) < (x : Int) := by omega
          have hover : 9223372036854775808 ≤ decV tx := by
            have := decV_le tx (i + 1)
            omega
          simp only [k26_a, WK, vop, evAll, evOpt, evParts, vbuiltin, vun, vextract, Nat.reduceLT, Nat.reduceEqDiff, ↓reduceIte, reduceCtorEq, Nat.reduceAdd, Int.reduceLT, Int.reduceNeg, valloc_std, noSB, h0, h4, h35, h36, h37, hiw', hbt.addr T22 S5 (Int.natCast_nonneg i) hiw', Int.toNat_natCast, hld, w1, w2, w3, w4, e10, hbig', vconv, T3, T5, FL1, hL.at]
          refine KD.pan (fail_does _ n 3 σ') ?_
          simp only [WK, vop, evAll, evOpt, evParts, vbuiltin, vun, vextract, Nat.reduceLT, Nat.reduceEqDiff, ↓reduceIte, reduceCtorEq, Nat.reduceAdd, Int.reduceLT, Int.reduceNeg, valloc_std, noSB]
          have := hQ (.pan (faultV n 3)) σ' ⟨KeepM.refl _ _ _, by rw [if_pos hover]; rfl⟩
          exact this _
        · have hbig' : ¬ (((9223372036854775807 - dg) / 10 : Nat) : Int) < (x : Int) := by omega
          have w5 : IntKind.i64.wrap ((x : Int) * 10) = ((x * 10 : Nat) : Int) := by rw [wrap_i64 (by omega) (by omega)]; omega
          have w6 : IntKind.i64.wrap (((x * 10 : Nat) : Int) + (dg : Int)) = ((x * 10 + dg : Nat) : Int) := by rw [wrap_i64 (by omega) (by omega)]; omega
          have w7 := idx_wrap (i := i) (by omega)
          simp only [k26_a, WK, vop, evAll, evOpt, evParts, vbuiltin, vun, vextract, Nat.reduceLT, Nat.reduceEqDiff, ↓reduceIte, reduceCtorEq, Nat.reduceAdd, Int.reduceLT, Int.reduceNeg, valloc_std, noSB, h0, h4, h35, h36, h37, hiw', hbt.addr T22 S5 (Int.natCast_nonneg i) hiw', Int.toNat_natCast, hld, w1, w2, w3, w4, w5, w6, w7, e10, hbig', vconv, T3, T5]
          refine ⟨i + 1, ⟨by simp [upd_some], by omega, by simp [upd_some, hs], by omega⟩, by omega⟩
      · have hiw' : ¬ (i : Int) < tx.length := by omega
        have hiw2 : tx.take i = tx := List.take_of_length_le (by omega)
        rw [hiw2] at h4 hlt
        obtain ⟨q, s9, d9, k9, r9⟩ := add_does (σ := σ') h hl 2 tx (decV tx) 0 (n + w)
        have hone : OneR p m s n toks (if 9223372036854775808 ≤ decV tx then .bad 0 3 else .ok 2 tx (decV tx) w) σ' q s9 := by
          rw [if_neg (by omega)]
          exact ⟨k9, r9⟩
        have hq := hQ q s9 hone
        simp only [k26_a, WK, vop, evAll, evOpt, evParts, vbuiltin, vun, vextract, Nat.reduceLT, Nat.reduceEqDiff, ↓reduceIte, reduceCtorEq, Nat.reduceAdd, Int.reduceLT, Int.reduceNeg, valloc_std, noSB, h0, h2, h3, h4, h36, h37, hiw', BK3]
        cases q with
        | ret v => 
          refine KD.ret d9 ?_
          simp only [WK, vop, evAll, evOpt, evParts, vbuiltin, vun, vextract, Nat.reduceLT, Nat.reduceEqDiff, ↓reduceIte, reduceCtorEq, Nat.reduceAdd, Int.reduceLT, Int.reduceNeg, valloc_std, noSB]
          exact hq _
        | pan v =>
          refine KD.pan d9 ?_
          exact hq _
    simp only [WK, vop, evAll, evOpt, evParts, vbuiltin, vun, vextract, Nat.reduceLT, Nat.reduceEqDiff, ↓reduceIte, reduceCtorEq, Nat.reduceAdd, Int.reduceLT, Int.reduceNeg, valloc_std, noSB] at loop
    have fin : ∀ q σ', OneR p m s n toks (if 9223372036854775808 ≤ decV tx then .bad 0 3 else .ok 2 tx (decV tx) w) σ q σ' → (match q with
        | .ret _ => ∀ e', fnK Try.prog 66 [] (fun q σ' => OneR p m s n toks (if 9223372036854775808 ≤ decV tx then .bad 0 3 else .ok 2 tx (decV tx) w) σ q σ') .normal e' σ'
        | .pan v => ∀ e', fnK Try.prog 66 [] (fun q σ' => OneR p m s n toks (if 9223372036854775808 ≤ decV tx then .bad 0 3 else .ok 2 tx (decV tx) w) σ q σ') (.pan v) e' σ') := by
      intro q σ' hq
      cases q with
      | ret u =>
        intro e'
        have hu : u = .tuple [] := by
          obtain ⟨_, h2⟩ := hq
          split at h2
          · cases h2
          · split at h2
            · cases h2
            · injection h2.1
        subst hu
        show fnK Try.prog 66 [] _ .normal e' σ'
        rw [fnK_normal, vresults_nil, KR_some, vtuple_0]
        exact hq
      | pan u => intro e'; exact hq
    refine hno (fun hb h48 => ?_) (fun hb => ?_)
    · simp only [k26_r1_e, k26_r2_e, k26_r3_e, WK, vop, evAll, evOpt, evParts, vbuiltin, vun, vextract, Nat.reduceLT, Nat.reduceEqDiff, ↓reduceIte, reduceCtorEq, Nat.reduceAdd, Int.reduceLT, Int.reduceNeg, valloc_std, noSB, FL0, FL1, hL.str, hL.at, T9, hsl, vlen_str T9, hb, hi0, h48]
      exact loop _ _ (by simp [upd_some]) (by simp [upd_some]) (by simp [upd_some]) fin
    · simp only [k26_r1_e, k26_r2_e, k26_r3_e, WK, vop, evAll, evOpt, evParts, vbuiltin, vun, vextract, Nat.reduceLT, Nat.reduceEqDiff, ↓reduceIte, reduceCtorEq, Nat.reduceAdd, Int.reduceLT, Int.reduceNeg, valloc_std, noSB, FL0, FL1, hL.str, hL.at, T9, hsl, vlen_str T9, hb]
      exact loop _ _ (by simp [upd_some]) (by simp [upd_some]) (by simp [upd_some]) fin
end Go.Proofs.Ytodcajpeilgfgaa.Q
