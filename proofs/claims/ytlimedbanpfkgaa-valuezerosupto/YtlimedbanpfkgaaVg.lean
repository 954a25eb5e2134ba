import Derived.Test.YtlimedbanpfkgaaVf
set_option linter.unusedVariables false
set_option linter.unusedSimpArgs false
namespace Go.Proofs.Ytlimedbanpfkgaa.Q
open Go Go.RowKit Go.Proofs

theorem ofVal_str {a : ByteArray} : ofVal (.string a) = some (.str a.data.toList) := rfl
theorem str_hi {s : List UInt8} {n : Nat} (h : n ≤ s.length) {k : IntKind} : vslice Try.prog 9 (.str s) none (some (.int k (n : Int))) none = some (.str (s.take n)) := by
  have := vbounds_hi (len := s.length) (k := k) (n := n) (by omega) (by omega)
  simp [vslice, T9, this]
theorem str_lo {s : List UInt8} {n : Nat} (h : n ≤ s.length) {k : IntKind} : vslice Try.prog 9 (.str s) (some (.int k (n : Int))) none none = some (.str (s.drop n)) := by
  have := vbounds_lo (len := s.length) (k := k) (n := n) (by omega) (by omega)
  have h2 : List.take (s.length - n) (List.drop n s) = List.drop n s := List.take_of_length_le (by rw [List.length_drop]; omega)
  simp [vslice, T9, this, h2]
theorem str_lohi {s : List UInt8} {n m : Nat} (h : n ≤ m) (hm : m ≤ s.length) {k k' : IntKind} : vslice Try.prog 9 (.str s) (some (.int k (n : Int))) (some (.int k' (m : Int))) none = some (.str ((s.take m).drop n)) := by
  have := vbounds_lohi (len := s.length) (k := k) (k' := k') (n := n) (m := m) (by omega) (by omega) (by omega)
  simp [vslice, T9, this, List.drop_take]
theorem str_at {s : List UInt8} {n : Nat} {c : UInt8} (h : s[n]? = some c) {k : IntKind} : vindex Try.prog 9 (.str s) (.int k (n : Int)) = some (.int .u8 (c.toNat : Int)) := by
  simp [vindex, T9, h]
theorem u8_eq {c d : UInt8} : decide ((c.toNat : Int) = (d.toNat : Int)) = decide (c = d) := by
  rw [decide_eq_decide]
  constructor
  · intro h; exact UInt8.toNat_inj.1 (by omega)
  · rintro rfl; rfl

theorem hasprefix_does (s p : List UInt8) (σ : St) : Does Try.prog prims 103 [.str s, .str p] σ (.ret (.bool (isPre p s))) σ := by
  apply k103_is.ret (by simp)
  unfold isPre
  by_cases h : (p.length : Int) ≤ s.length
  · have h' : p.length ≤ s.length := by omega
    simp only [k103_a, WK, vop, evAll, evOpt, evParts, vbuiltin, vun, vextract, Nat.reduceLT, Nat.reduceEqDiff, ↓reduceIte, reduceCtorEq, Nat.reduceAdd, Int.reduceLT, Int.reduceNeg, List.getD_cons_zero, List.getD_cons_succ, vlen_str T9, h, T9, str_hi h', strBin, h', Bool.true_and]
  · have h' : ¬ p.length ≤ s.length := by omega
    simp only [k103_a, WK, vop, evAll, evOpt, evParts, vbuiltin, vun, vextract, Nat.reduceLT, Nat.reduceEqDiff, ↓reduceIte, reduceCtorEq, Nat.reduceAdd, Int.reduceLT, Int.reduceNeg, List.getD_cons_zero, List.getD_cons_succ, vlen_str T9, h, h', Bool.false_and]

def cutS (s p : List UInt8) : List UInt8 := if isPre p s then s.drop p.length else s
theorem cut1_does (s p : List UInt8) (σ : St) : Does Try.prog prims 97 [.str s, .str p] σ (.ret (.tuple [.str (cutS s p), .bool (isPre p s)])) σ := by
  apply k97_is.ret (by simp)
  simp only [k97_a, WK, vop, evAll, evOpt, evParts, vbuiltin, vun, vextract, Nat.reduceLT, Nat.reduceEqDiff, ↓reduceIte, reduceCtorEq, Nat.reduceAdd, Int.reduceLT, Int.reduceNeg, ofVal_str, List.getD_cons_zero, List.getD_cons_succ]
  refine KD.ret (hasprefix_does s p σ) ?_
  unfold cutS
  cases h : isPre p s with
  | false => simp only [k97_a, WK, vop, evAll, evOpt, evParts, vbuiltin, vun, vextract, Nat.reduceLT, Nat.reduceEqDiff, ↓reduceIte, reduceCtorEq, Nat.reduceAdd, Int.reduceLT, Int.reduceNeg, List.getD_cons_zero, List.getD_cons_succ]
  | true =>
    have h' : p.length ≤ s.length := by
      simp only [isPre, Bool.and_eq_true, decide_eq_true_eq] at h
      exact h.1
    simp only [k97_a, WK, vop, evAll, evOpt, evParts, vbuiltin, vun, vextract, Nat.reduceLT, Nat.reduceEqDiff, ↓reduceIte, reduceCtorEq, Nat.reduceAdd, Int.reduceLT, Int.reduceNeg, List.getD_cons_zero, List.getD_cons_succ, vlen_str T9, T9, str_lo h']
theorem cut_does (s p : List UInt8) (σ : St) : Does Try.prog prims 90 [.str s, .str p] σ (.ret (.tuple [.str (cutS s p), .bool (isPre p s)])) σ := by
  apply k90_is.ret (by simp)
  simp only [k90_a, WK, vop, evAll, evOpt, evParts, vbuiltin, vun, vextract, Nat.reduceLT, Nat.reduceEqDiff, ↓reduceIte, reduceCtorEq, Nat.reduceAdd, Int.reduceLT, Int.reduceNeg, ofVal_str, List.getD_cons_zero, List.getD_cons_succ]
  refine KD.ret (cut1_does s p σ) ?_
  simp only [k90_a, WK, vop, evAll, evOpt, evParts, vbuiltin, vun, vextract, Nat.reduceLT, Nat.reduceEqDiff, ↓reduceIte, reduceCtorEq, Nat.reduceAdd, Int.reduceLT, Int.reduceNeg, List.getD_cons_zero, List.getD_cons_succ]

def strsV (l : List (List UInt8)) : List V := l.map .str
theorem TS98 : Try.prog.underlying 98 = some (.slice 9) := by kernel_rfl
theorem build2S (a b : List UInt8) : vbuildSlice Try.prog 98 2 [(0, .str a), (1, .str b)] = some (.slice .exact 1 [.str a, .str b] 2) := by kernel_rfl

theorem str2_addr0 (a b : List UInt8) : vindexAddr Try.prog 98 (.slice .exact 1 [.str a, .str b] 2) (.int .i64 ((0 : Nat) : Int)) = some (.eptr [.str a, .str b] 0) := by simp [vindexAddr, TS98, S9]
theorem str2_addr1 (a b : List UInt8) : vindexAddr Try.prog 98 (.slice .exact 1 [.str a, .str b] 2) (.int .i64 ((1 : Nat) : Int)) = some (.eptr [.str a, .str b] 1) := by simp [vindexAddr, TS98, S9]
theorem str2_load0 (a b : List UInt8) (objs : List Ob) : vload Try.prog objs 9 (.eptr [.str a, .str b] 0) = some (.str a) := by simp [vload, vcellsAt, vpart, G9]
theorem str2_load1 (a b : List UInt8) (objs : List Ob) : vload Try.prog objs 9 (.eptr [.str a, .str b] 1) = some (.str b) := by simp [vload, vcellsAt, vpart, G9]
theorem str2_len (a b : List UInt8) : vlen Try.prog 98 (.slice .exact 1 [.str a, .str b] 2) = some (.int .i64 2) := by simp [vlen, TS98]

set_option maxRecDepth 100000 in
set_option maxHeartbeats 1000000 in
theorem kind_does : ∀ (r : Nat), r ≤ 3 → ∀ (s : List UInt8) (σ : St), s.length ≤ 4294967296 → Does Try.prog prims 74 [.str s, .int .i64 ((4 - r : Nat) : Int)] σ (.ret (.bool (tyOf (r + 1) s).isSome)) σ := by
  intro r
  induction r with
  | zero =>
    intro hr s σ hl
    apply k74_is.ret (by simp)
    rw [tyOf]
    by_cases h1 : s = [105, 110, 116]
    · subst h1
      simp only [k74_a, WK, vop, evAll, evOpt, evParts, vbuiltin, vun, vextract, Nat.reduceLT, Nat.reduceEqDiff, ↓reduceIte, reduceCtorEq, Nat.reduceAdd, Int.reduceLT, Int.reduceNeg, List.getD_cons_zero, List.getD_cons_succ, ofVal_str, strBin, eq_self, Nat.sub_zero, Int.reduceLE, Int.cast_ofNat_Int, intB]
      rfl
    by_cases h2 : s = [98, 111, 111, 108]
    · subst h2
      simp only [k74_a, WK, vop, evAll, evOpt, evParts, vbuiltin, vun, vextract, Nat.reduceLT, Nat.reduceEqDiff, ↓reduceIte, reduceCtorEq, Nat.reduceAdd, Int.reduceLT, Int.reduceNeg, List.getD_cons_zero, List.getD_cons_succ, ofVal_str, strBin, h1, eq_self, Nat.sub_zero, Int.reduceLE, Int.cast_ofNat_Int, intB, boolB]
      rfl
    by_cases h3 : s = [116, 101, 120, 116]
    · subst h3
      simp only [k74_a, WK, vop, evAll, evOpt, evParts, vbuiltin, vun, vextract, Nat.reduceLT, Nat.reduceEqDiff, ↓reduceIte, reduceCtorEq, Nat.reduceAdd, Int.reduceLT, Int.reduceNeg, List.getD_cons_zero, List.getD_cons_succ, ofVal_str, strBin, h1, h2, eq_self, Nat.sub_zero, Int.reduceLE, Int.cast_ofNat_Int, intB, boolB, textB]
      rfl
    rw [if_neg (show ¬ s = intB from h1), if_neg (show ¬ s = boolB from h2), if_neg (show ¬ s = textB from h3), if_pos (.inr rfl)]
    by_cases hlen : (s.length : Int) < 2
    · simp only [k74_a, WK, vop, evAll, evOpt, evParts, vbuiltin, vun, vextract, Nat.reduceLT, Nat.reduceEqDiff, ↓reduceIte, reduceCtorEq, Nat.reduceAdd, Int.reduceLT, Int.reduceNeg, List.getD_cons_zero, List.getD_cons_succ, ofVal_str, strBin, h1, h2, h3, vlen_str T9, hlen, Option.isSome_none]
    · simp only [k74_a, WK, vop, evAll, evOpt, evParts, vbuiltin, vun, vextract, Nat.reduceLT, Nat.reduceEqDiff, ↓reduceIte, reduceCtorEq, Nat.reduceAdd, Int.reduceLT, Int.reduceNeg, List.getD_cons_zero, List.getD_cons_succ, ofVal_str, strBin, h1, h2, h3, vlen_str T9, hlen, Nat.sub_zero, Int.reduceLE, Int.cast_ofNat_Int, Option.isSome_none]
  | succ r ih =>
    intro hr s σ hl
    apply k74_is.ret (by simp)
    rw [tyOf]
    have hd4 : ((4 - (r + 1) : Nat) : Int) ≤ 4 := by omega
    have hd4' : ¬ (4 : Int) ≤ ((4 - (r + 1) : Nat) : Int) := by omega
    obtain ⟨d, hd⟩ : ∃ d : Int, d = ((4 - (r + 1) : Nat) : Int) := ⟨_, rfl⟩
    rw [← hd] at hd4 hd4' ⊢
    by_cases h1 : s = [105, 110, 116]
    · subst h1
      simp only [k74_a, WK, vop, evAll, evOpt, evParts, vbuiltin, vun, vextract, Nat.reduceLT, Nat.reduceEqDiff, ↓reduceIte, reduceCtorEq, Nat.reduceAdd, Int.reduceLT, Int.reduceNeg, List.getD_cons_zero, List.getD_cons_succ, ofVal_str, strBin, eq_self, hd4, intB]
      rfl
    by_cases h2 : s = [98, 111, 111, 108]
    · subst h2
      simp only [k74_a, WK, vop, evAll, evOpt, evParts, vbuiltin, vun, vextract, Nat.reduceLT, Nat.reduceEqDiff, ↓reduceIte, reduceCtorEq, Nat.reduceAdd, Int.reduceLT, Int.reduceNeg, List.getD_cons_zero, List.getD_cons_succ, ofVal_str, strBin, h1, eq_self, hd4, intB, boolB]
      rfl
    by_cases h3 : s = [116, 101, 120, 116]
    · subst h3
      simp only [k74_a, WK, vop, evAll, evOpt, evParts, vbuiltin, vun, vextract, Nat.reduceLT, Nat.reduceEqDiff, ↓reduceIte, reduceCtorEq, Nat.reduceAdd, Int.reduceLT, Int.reduceNeg, List.getD_cons_zero, List.getD_cons_succ, ofVal_str, strBin, h1, h2, eq_self, hd4, intB, boolB, textB]
      rfl
    rw [if_neg (show ¬ s = intB from h1), if_neg (show ¬ s = boolB from h2), if_neg (show ¬ s = textB from h3)]
    by_cases hlen : (s.length : Int) < 2
    · rw [if_pos (.inl (by omega))]
      simp only [k74_a, WK, vop, evAll, evOpt, evParts, vbuiltin, vun, vextract, Nat.reduceLT, Nat.reduceEqDiff, ↓reduceIte, reduceCtorEq, Nat.reduceAdd, Int.reduceLT, Int.reduceNeg, List.getD_cons_zero, List.getD_cons_succ, ofVal_str, strBin, h1, h2, h3, vlen_str T9, hlen, Option.isSome_none]
    rw [if_neg (by omega)]
    have w1 : IntKind.i64.wrap ((s.length : Int) - 1) = ((s.length - 1 : Nat) : Int) := by rw [wrap_i64 (by omega) (by omega)]; omega
    have w2 : IntKind.i64.wrap (d + 1) = ((4 - r : Nat) : Int) := by rw [wrap_i64 (by omega) (by omega)]; omega
    obtain ⟨c, hc⟩ : ∃ c, s[s.length - 1]? = some c := ⟨_, List.getElem?_eq_getElem (by omega)⟩
    have hg : s.getLast? = some c := by rw [List.getLast?_eq_getElem?]; exact hc
    have hdl : s.take (s.length - 1) = s.dropLast := (List.dropLast_eq_take).symm
    have c93 : decide ((c.toNat : Int) = 93) = decide (c = 93) := u8_eq (d := 93)
    have c125 : decide ((c.toNat : Int) = 125) = decide (c = 125) := u8_eq (d := 125)
    have ln : ∀ k, (mid k s).length ≤ 4294967296 := fun k => by unfold mid; rw [List.length_drop, List.length_dropLast]; omega
    have hsome : ∀ x : UInt8, (s.getLast? = some x) = (c = x) := fun x => by rw [hg, Option.some.injEq]
    simp only [hsome]
    simp only [k74_a, WK, vop, evAll, evOpt, evParts, vbuiltin, vun, vextract, Nat.reduceLT, Nat.reduceEqDiff, ↓reduceIte, reduceCtorEq, Nat.reduceAdd, Int.reduceLT, Int.reduceNeg, List.getD_cons_zero, List.getD_cons_succ, ofVal_str, strBin, h1, h2, h3, vlen_str T9, hlen, hd4', w1, T9, str_hi (show s.length - 1 ≤ s.length by omega), hdl]
    refine KD.ret (cut_does s.dropLast [91] σ) ?_
    cases hp : isPre [91] s.dropLast with
    | true =>
      have hcut : cutS s.dropLast [91] = mid 1 s := by unfold cutS; rw [if_pos hp]; rfl
      by_cases hcc : c = 93
      · have hb : decide ((c.toNat : Int) = 93) = true := by rw [c93]; exact decide_eq_true hcc
        have hcc' : (c = 93) = True := eq_true hcc
        simp only [k74_a, WK, vop, evAll, evOpt, evParts, vbuiltin, vun, vextract, Nat.reduceLT, Nat.reduceEqDiff, ↓reduceIte, reduceCtorEq, Nat.reduceAdd, Int.reduceLT, Int.reduceNeg, List.getD_cons_zero, List.getD_cons_succ, vlen_str T9, w1, w2, str_at hc, hb, hcc', hcut, eq_self, if_true]
        refine KD.ret (ih (by omega) (mid 1 s) σ (ln 1)) ?_
        simp only [k74_a, WK, vop, evAll, evOpt, evParts, vbuiltin, vun, vextract, Nat.reduceLT, Nat.reduceEqDiff, ↓reduceIte, reduceCtorEq, Nat.reduceAdd, Int.reduceLT, Int.reduceNeg, Option.isSome_map]
      · have hb : decide ((c.toNat : Int) = 93) = false := by rw [c93]; exact decide_eq_false hcc
        have hcc' : (c = 93) = False := eq_false hcc
        simp only [k74_a, WK, vop, evAll, evOpt, evParts, vbuiltin, vun, vextract, Nat.reduceLT, Nat.reduceEqDiff, ↓reduceIte, reduceCtorEq, Nat.reduceAdd, Int.reduceLT, Int.reduceNeg, List.getD_cons_zero, List.getD_cons_succ, vlen_str T9, w1, w2, str_at hc, hb, hcc', hcut, if_true, if_false, Option.isSome_none]
    | false =>
      simp only [k74_a, WK, vop, evAll, evOpt, evParts, vbuiltin, vun, vextract, Nat.reduceLT, Nat.reduceEqDiff, ↓reduceIte, reduceCtorEq, Nat.reduceAdd, Int.reduceLT, Int.reduceNeg, ofVal_str, build2S, str2_len, Bool.false_eq_true, if_false]
      refine Ev.loopF (fun i e σ' => e 49 = .int .i64 (i : Nat) ∧ i ≤ 2 ∧ (1 ≤ i → isPre mI s.dropLast = false) ∧ (2 ≤ i → isPre mT s.dropLast = false) ∧ σ' = σ) (fun i => 2 - i) 0 ?_ ?_
      · exact ⟨by simp [upd_some], by omega, fun h => by omega, fun h => by omega, rfl⟩
      rintro i e σ' ⟨h49, hi, hm1, hm2, hσ⟩ hf
      subst hσ
      have h47 : e 47 = .slice .exact 1 [.str mI, .str mT] 2 := (hf 47 (by decide)).trans (by simp [upd_some, mI, mT])
      have h48 : e 48 = .int .i64 2 := (hf 48 (by decide)).trans (by simp [upd_some])
      have h0 : e 0 = .str s := (hf 0 (by decide)).trans (by simp [upd_some])
      have he1 : e 1 = .int .i64 d := (hf 1 (by decide)).trans (by simp [upd_some])
      clear hf
      have i3 : i = 0 ∨ i = 1 ∨ i = 2 := by omega
      rcases i3 with rfl | rfl | rfl
      · have hlt : ((0 : Nat) : Int) < 2 := by omega
        have hwi : IntKind.i64.wrap (((0 : Nat) : Int) + 1) = ((1 : Nat) : Int) := by rw [wrap_i64 (by omega) (by omega)]; omega
        simp only [k74_a, WK, vop, evAll, evOpt, evParts, vbuiltin, vun, vextract, Nat.reduceLT, Nat.reduceEqDiff, ↓reduceIte, reduceCtorEq, Nat.reduceAdd, Int.reduceLT, Int.reduceNeg, h0, he1, h47, h48, h49, hlt, str2_addr0, str2_load0, vlen_str T9, w1, T9, str_hi (show s.length - 1 ≤ s.length by omega), hdl]
        refine KD.ret (cut_does s.dropLast mI σ') ?_
        cases hp2 : isPre mI s.dropLast with
        | true =>
          have hcut : cutS s.dropLast mI = mid 5 s := by unfold cutS; rw [if_pos hp2]; rfl
          by_cases hcc : c = 125
          · have hb : decide ((c.toNat : Int) = 125) = true := by rw [c125]; exact decide_eq_true hcc
            have hcc' : (c = 125) = True := eq_true hcc
            simp only [k74_a, WK, vop, evAll, evOpt, evParts, vbuiltin, vun, vextract, Nat.reduceLT, Nat.reduceEqDiff, ↓reduceIte, reduceCtorEq, Nat.reduceAdd, Int.reduceLT, Int.reduceNeg, h0, he1, h49, vlen_str T9, w1, w2, str_at hc, hb, hcc', hcut, eq_self, if_true]
            refine KD.ret (ih (by omega) (mid 5 s) σ' (ln 5)) ?_
            simp only [k74_a, WK, vop, evAll, evOpt, evParts, vbuiltin, vun, vextract, Nat.reduceLT, Nat.reduceEqDiff, ↓reduceIte, reduceCtorEq, Nat.reduceAdd, Int.reduceLT, Int.reduceNeg, Option.isSome_map]
          · have hb : decide ((c.toNat : Int) = 125) = false := by rw [c125]; exact decide_eq_false hcc
            have hcc' : (c = 125) = False := eq_false hcc
            simp only [k74_a, WK, vop, evAll, evOpt, evParts, vbuiltin, vun, vextract, Nat.reduceLT, Nat.reduceEqDiff, ↓reduceIte, reduceCtorEq, Nat.reduceAdd, Int.reduceLT, Int.reduceNeg, h0, he1, h49, vlen_str T9, w1, w2, str_at hc, hb, hcc', hcut, if_true, if_false, Option.isSome_none]
        | false =>
          simp only [k74_a, WK, vop, evAll, evOpt, evParts, vbuiltin, vun, vextract, Nat.reduceLT, Nat.reduceEqDiff, ↓reduceIte, reduceCtorEq, Nat.reduceAdd, Int.reduceLT, Int.reduceNeg, h49, hwi]
          exact ⟨1, ⟨by simp [upd_some], by omega, fun _ => by first | exact hp2 | exact trivial, fun h => by omega⟩, by omega⟩
      · have hlt : ((1 : Nat) : Int) < 2 := by omega
        have hwi : IntKind.i64.wrap (((1 : Nat) : Int) + 1) = ((2 : Nat) : Int) := by rw [wrap_i64 (by omega) (by omega)]; omega
        have hp1 := hm1 (by omega)
        simp only [k74_a, WK, vop, evAll, evOpt, evParts, vbuiltin, vun, vextract, Nat.reduceLT, Nat.reduceEqDiff, ↓reduceIte, reduceCtorEq, Nat.reduceAdd, Int.reduceLT, Int.reduceNeg, h0, he1, h47, h48, h49, hlt, str2_addr1, str2_load1, vlen_str T9, w1, T9, str_hi (show s.length - 1 ≤ s.length by omega), hdl]
        refine KD.ret (cut_does s.dropLast mT σ') ?_
        simp only [hp1, Bool.false_eq_true, if_false]
        cases hp2 : isPre mT s.dropLast with
        | true =>
          have hcut : cutS s.dropLast mT = mid 6 s := by unfold cutS; rw [if_pos hp2]; rfl
          by_cases hcc : c = 125
          · have hb : decide ((c.toNat : Int) = 125) = true := by rw [c125]; exact decide_eq_true hcc
            have hcc' : (c = 125) = True := eq_true hcc
            simp only [k74_a, WK, vop, evAll, evOpt, evParts, vbuiltin, vun, vextract, Nat.reduceLT, Nat.reduceEqDiff, ↓reduceIte, reduceCtorEq, Nat.reduceAdd, Int.reduceLT, Int.reduceNeg, h0, he1, h49, vlen_str T9, w1, w2, str_at hc, hb, hcc', hcut, eq_self, if_true]
            refine KD.ret (ih (by omega) (mid 6 s) σ' (ln 6)) ?_
            simp only [k74_a, WK, vop, evAll, evOpt, evParts, vbuiltin, vun, vextract, Nat.reduceLT, Nat.reduceEqDiff, ↓reduceIte, reduceCtorEq, Nat.reduceAdd, Int.reduceLT, Int.reduceNeg, Option.isSome_map]
          · have hb : decide ((c.toNat : Int) = 125) = false := by rw [c125]; exact decide_eq_false hcc
            have hcc' : (c = 125) = False := eq_false hcc
            simp only [k74_a, WK, vop, evAll, evOpt, evParts, vbuiltin, vun, vextract, Nat.reduceLT, Nat.reduceEqDiff, ↓reduceIte, reduceCtorEq, Nat.reduceAdd, Int.reduceLT, Int.reduceNeg, h0, he1, h49, vlen_str T9, w1, w2, str_at hc, hb, hcc', hcut, if_true, if_false, Option.isSome_none]
        | false =>
          simp only [k74_a, WK, vop, evAll, evOpt, evParts, vbuiltin, vun, vextract, Nat.reduceLT, Nat.reduceEqDiff, ↓reduceIte, reduceCtorEq, Nat.reduceAdd, Int.reduceLT, Int.reduceNeg, h49, hwi]
          exact ⟨2, ⟨by simp [upd_some], by omega, fun _ => by first | exact hp1 | exact trivial, fun _ => by first | exact hp2 | exact trivial⟩, by omega⟩
      · have hlt : ¬ ((2 : Nat) : Int) < 2 := by omega
        have hp1 := hm1 (by omega)
        have hp2 := hm2 (by omega)
        simp only [k74_a, WK, vop, evAll, evOpt, evParts, vbuiltin, vun, vextract, Nat.reduceLT, Nat.reduceEqDiff, ↓reduceIte, reduceCtorEq, Nat.reduceAdd, Int.reduceLT, Int.reduceNeg, h47, h48, h49, hlt, hp1, hp2, Bool.false_eq_true, if_false, Option.isSome_none]

/-- The type that a text is. -/
def tyS (s : List UInt8) : Option Ty := tyOf 4 s
theorem type_does (s : List UInt8) (hl : s.length ≤ 4294967296) (σ : St) : Does Try.prog prims 52 [.str s] σ (.ret (.bool (tyS s).isSome)) σ := by
  apply k52_is.ret (by simp)
  simp only [k52_a, WK, vop, evAll, evOpt, evParts, vbuiltin, vun, vextract, Nat.reduceLT, Nat.reduceEqDiff, ↓reduceIte, reduceCtorEq, Nat.reduceAdd, Int.reduceLT, Int.reduceNeg, List.getD_cons_zero, List.getD_cons_succ]
  refine KD.ret (kind_does 3 (by omega) s σ hl) ?_
  simp only [k52_a, WK, vop, evAll, evOpt, evParts, vbuiltin, vun, vextract, Nat.reduceLT, Nat.reduceEqDiff, ↓reduceIte, reduceCtorEq, Nat.reduceAdd, Int.reduceLT, Int.reduceNeg]
  rfl
end Go.Proofs.Ytlimedbanpfkgaa.Q
