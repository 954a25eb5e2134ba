/- A part of the proof: Vg, Vh, Vi, Ve, Vj, Vk, Vl, Tq, Vm, Vn, Ce, Cf, Cg, Ch, Ci, Cj, Ck, Cl, Cm, Cn, Co, Cp, Cq, Tl, Tr, Td, Tf, Tg, Vo. -/
import Derived.Test.YtplhelapcpcncaaMd5
set_option linter.unusedVariables false
set_option linter.unusedSimpArgs false
namespace Go.Proofs.Ytplhelapcpcncaa.Q
open Go Go.RowKit Go.Proofs
theorem ofVal_str {a : ByteArray} : ofVal (.string a) = some (.str a.data.toList) := rfl
theorem str_hi {s : List UInt8} {n : Nat} (h : n ≤ s.length) {k : IntKind} : vslice Try.prog 9 (.str s) none (some (.int k (n : Int))) none = some (.str (s.take n)) := by
  have := vbounds_hi (len := s.length) (k := k) (n := n) (by omega) (by omega)
  simp [vslice, T9, this]
theorem str_lo {s : List UInt8} {n : Nat} (h : n ≤ s.length) {k : IntKind} : vslice Try.prog 9 (.str s) (some (.int k (n : Int))) none none = some (.str (s.drop n)) := by
  have := vbounds_lo (len := s.length) (k := k) (n := n) (by omega) (by omega)
  have h2 : List.take (s.length - n) (List.drop n s) = List.drop n s := List.take_of_length_le (by rw [List.length_drop]; omega)
  simp [vslice, T9, this, h2]
theorem str_lohi {s : List UInt8} {n m : Nat} (h : n ≤ m) (hm : m ≤ s.length) {k k' : IntKind} : vslice Try.prog 9 (.str s) (some (.int k (n : Int))) (some (.int k' (m : Int))) none = some (.str ((s.take m).drop n)) := by
  have := vbounds_lohi (len := s.length) (k := k) (k' := k') (n := n) (m := m) (by omega) (by omega) (by omega)
  simp [vslice, T9, this, List.drop_take]
theorem str_at {s : List UInt8} {n : Nat} {c : UInt8} (h : s[n]? = some c) {k : IntKind} : vindex Try.prog 9 (.str s) (.int k (n : Int)) = some (.int .u8 (c.toNat : Int)) := by
  simp [vindex, T9, h]
theorem u8_eq {c d : UInt8} : decide ((c.toNat : Int) = (d.toNat : Int)) = decide (c = d) := by
  rw [decide_eq_decide]
  constructor
  · intro h; exact UInt8.toNat_inj.1 (by omega)
  · rintro rfl; rfl
theorem hasprefix_does (s p : List UInt8) (σ : St) : Does Try.prog prims 80 [.str s, .str p] σ (.ret (.bool (isPre p s))) σ := by
  apply k80_is.ret (by simp)
  unfold isPre
  by_cases h : (p.length : Int) ≤ s.length
  · have h' : p.length ≤ s.length := by omega
    simp only [k80_a, WK, vop, evAll, evOpt, evParts, vbuiltin, vun, vextract, Nat.reduceLT, Nat.reduceEqDiff, ↓reduceIte, reduceCtorEq, Nat.reduceAdd, Int.reduceLT, Int.reduceNeg, valloc_std, noSB, vhot, List.getD_cons_zero, List.getD_cons_succ, vlen_str T9, h, T9, str_hi h', strBin, h', Bool.true_and]
  · have h' : ¬ p.length ≤ s.length := by omega
    simp only [k80_a, WK, vop, evAll, evOpt, evParts, vbuiltin, vun, vextract, Nat.reduceLT, Nat.reduceEqDiff, ↓reduceIte, reduceCtorEq, Nat.reduceAdd, Int.reduceLT, Int.reduceNeg, valloc_std, noSB, vhot, List.getD_cons_zero, List.getD_cons_succ, vlen_str T9, h, h', Bool.false_and]
def cutS (s p : List UInt8) : List UInt8 := if isPre p s then s.drop p.length else s
theorem cut1_does (s p : List UInt8) (σ : St) : Does Try.prog prims 76 [.str s, .str p] σ (.ret (.tuple [.str (cutS s p), .bool (isPre p s)])) σ := by
  apply k76_is.ret (by simp)
  simp only [k76_a, WK, vop, evAll, evOpt, evParts, vbuiltin, vun, vextract, Nat.reduceLT, Nat.reduceEqDiff, ↓reduceIte, reduceCtorEq, Nat.reduceAdd, Int.reduceLT, Int.reduceNeg, valloc_std, noSB, vhot, ofVal_str, List.getD_cons_zero, List.getD_cons_succ]
  refine KD.ret (hasprefix_does s p σ) ?_
  unfold cutS
  cases h : isPre p s with
  | false => simp only [k76_a, WK, vop, evAll, evOpt, evParts, vbuiltin, vun, vextract, Nat.reduceLT, Nat.reduceEqDiff, ↓reduceIte, reduceCtorEq, Nat.reduceAdd, Int.reduceLT, Int.reduceNeg, valloc_std, noSB, vhot, List.getD_cons_zero, List.getD_cons_succ]
  | true =>
    have h' : p.length ≤ s.length := by
      simp only [isPre, Bool.and_eq_true, decide_eq_true_eq] at h
      exact h.1
    simp only [k76_a, WK, vop, evAll, evOpt, evParts, vbuiltin, vun, vextract, Nat.reduceLT, Nat.reduceEqDiff, ↓reduceIte, reduceCtorEq, Nat.reduceAdd, Int.reduceLT, Int.reduceNeg, valloc_std, noSB, vhot, List.getD_cons_zero, List.getD_cons_succ, vlen_str T9, T9, str_lo h']
theorem cut_does (s p : List UInt8) (σ : St) : Does Try.prog prims 69 [.str s, .str p] σ (.ret (.tuple [.str (cutS s p), .bool (isPre p s)])) σ := by
  apply k69_is.ret (by simp)
  simp only [k69_a, WK, vop, evAll, evOpt, evParts, vbuiltin, vun, vextract, Nat.reduceLT, Nat.reduceEqDiff, ↓reduceIte, reduceCtorEq, Nat.reduceAdd, Int.reduceLT, Int.reduceNeg, valloc_std, noSB, vhot, ofVal_str, List.getD_cons_zero, List.getD_cons_succ]
  refine KD.ret (cut1_does s p σ) ?_
  simp only [k69_a, WK, vop, evAll, evOpt, evParts, vbuiltin, vun, vextract, Nat.reduceLT, Nat.reduceEqDiff, ↓reduceIte, reduceCtorEq, Nat.reduceAdd, Int.reduceLT, Int.reduceNeg, valloc_std, noSB, vhot, List.getD_cons_zero, List.getD_cons_succ]
def strsV (l : List (List UInt8)) : List V := l.map .str
theorem TS98 : Try.prog.underlying 49 = some (.slice 9) := by kernel_rfl
theorem build2S (a b : List UInt8) : vbuildSlice Try.prog 49 2 [(0, .str a), (1, .str b)] = some (.slice .exact 1 [.str a, .str b] 2) := by kernel_rfl
theorem str2_addr0 (a b : List UInt8) : vindexAddr Try.prog 49 (.slice .exact 1 [.str a, .str b] 2) (.int .i64 ((0 : Nat) : Int)) = some (.eptr [.str a, .str b] 0) := by simp [vindexAddr, TS98, S9]
theorem str2_addr1 (a b : List UInt8) : vindexAddr Try.prog 49 (.slice .exact 1 [.str a, .str b] 2) (.int .i64 ((1 : Nat) : Int)) = some (.eptr [.str a, .str b] 1) := by simp [vindexAddr, TS98, S9]
theorem str2_load0 (a b : List UInt8) (objs : List Ob) : vload Try.prog objs 9 (.eptr [.str a, .str b] 0) = some (.str a) := by simp [vload, vcellsAt, vpart, G9]
theorem str2_load1 (a b : List UInt8) (objs : List Ob) : vload Try.prog objs 9 (.eptr [.str a, .str b] 1) = some (.str b) := by simp [vload, vcellsAt, vpart, G9]
theorem str2_len (a b : List UInt8) : vlen Try.prog 49 (.slice .exact 1 [.str a, .str b] 2) = some (.int .i64 2) := by simp [vlen, TS98]
set_option maxRecDepth 100000 in
set_option maxHeartbeats 1000000 in
theorem kind_does : ∀ (r : Nat), r ≤ 3 → ∀ (s : List UInt8) (σ : St), s.length ≤ 4294967296 → Does Try.prog prims 57 [.str s, .int .i64 ((4 - r : Nat) : Int)] σ (.ret (.bool (tyOf (r + 1) s).isSome)) σ := by
  intro r
  induction r with
  | zero =>
    intro hr s σ hl
    apply k57_is.ret (by simp)
    rw [tyOf]
    by_cases h1 : s = [105, 110, 116]
    · subst h1
      simp only [k57_a, WK, vop, evAll, evOpt, evParts, vbuiltin, vun, vextract, Nat.reduceLT, Nat.reduceEqDiff, ↓reduceIte, reduceCtorEq, Nat.reduceAdd, Int.reduceLT, Int.reduceNeg, valloc_std, noSB, vhot, List.getD_cons_zero, List.getD_cons_succ, ofVal_str, strBin, eq_self, Nat.sub_zero, Int.reduceLE, Int.cast_ofNat_Int, intB]
      rfl
    by_cases h2 : s = [98, 111, 111, 108]
    · subst h2
      simp only [k57_a, WK, vop, evAll, evOpt, evParts, vbuiltin, vun, vextract, Nat.reduceLT, Nat.reduceEqDiff, ↓reduceIte, reduceCtorEq, Nat.reduceAdd, Int.reduceLT, Int.reduceNeg, valloc_std, noSB, vhot, List.getD_cons_zero, List.getD_cons_succ, ofVal_str, strBin, h1, eq_self, Nat.sub_zero, Int.reduceLE, Int.cast_ofNat_Int, intB, boolB]
      rfl
    by_cases h3 : s = [116, 101, 120, 116]
    · subst h3
      simp only [k57_a, WK, vop, evAll, evOpt, evParts, vbuiltin, vun, vextract, Nat.reduceLT, Nat.reduceEqDiff, ↓reduceIte, reduceCtorEq, Nat.reduceAdd, Int.reduceLT, Int.reduceNeg, valloc_std, noSB, vhot, List.getD_cons_zero, List.getD_cons_succ, ofVal_str, strBin, h1, h2, eq_self, Nat.sub_zero, Int.reduceLE, Int.cast_ofNat_Int, intB, boolB, textB]
      rfl
    rw [if_neg (show ¬ s = intB from h1), if_neg (show ¬ s = boolB from h2), if_neg (show ¬ s = textB from h3), if_pos (.inr rfl)]
    by_cases hlen : (s.length : Int) < 2
    · simp only [k57_a, WK, vop, evAll, evOpt, evParts, vbuiltin, vun, vextract, Nat.reduceLT, Nat.reduceEqDiff, ↓reduceIte, reduceCtorEq, Nat.reduceAdd, Int.reduceLT, Int.reduceNeg, valloc_std, noSB, vhot, List.getD_cons_zero, List.getD_cons_succ, ofVal_str, strBin, h1, h2, h3, vlen_str T9, hlen, Option.isSome_none]
    · simp only [k57_a, WK, vop, evAll, evOpt, evParts, vbuiltin, vun, vextract, Nat.reduceLT, Nat.reduceEqDiff, ↓reduceIte, reduceCtorEq, Nat.reduceAdd, Int.reduceLT, Int.reduceNeg, valloc_std, noSB, vhot, List.getD_cons_zero, List.getD_cons_succ, ofVal_str, strBin, h1, h2, h3, vlen_str T9, hlen, Nat.sub_zero, Int.reduceLE, Int.cast_ofNat_Int, Option.isSome_none]
  | succ r ih =>
    intro hr s σ hl
    apply k57_is.ret (by simp)
    rw [tyOf]
    have hd4 : ((4 - (r + 1) : Nat) : Int) ≤ 4 := by omega
    have hd4' : ¬ (4 : Int) ≤ ((4 - (r + 1) : Nat) : Int) := by omega
    obtain ⟨d, hd⟩ : ∃ d : Int, d = ((4 - (r + 1) : Nat) : Int) := ⟨_, rfl⟩
    rw [← hd] at hd4 hd4' ⊢
    by_cases h1 : s = [105, 110, 116]
    · subst h1
      simp only [k57_a, WK, vop, evAll, evOpt, evParts, vbuiltin, vun, vextract, Nat.reduceLT, Nat.reduceEqDiff, ↓reduceIte, reduceCtorEq, Nat.reduceAdd, Int.reduceLT, Int.reduceNeg, valloc_std, noSB, vhot, List.getD_cons_zero, List.getD_cons_succ, ofVal_str, strBin, eq_self, hd4, intB]
      rfl
    by_cases h2 : s = [98, 111, 111, 108]
    · subst h2
      simp only [k57_a, WK, vop, evAll, evOpt, evParts, vbuiltin, vun, vextract, Nat.reduceLT, Nat.reduceEqDiff, ↓reduceIte, reduceCtorEq, Nat.reduceAdd, Int.reduceLT, Int.reduceNeg, valloc_std, noSB, vhot, List.getD_cons_zero, List.getD_cons_succ, ofVal_str, strBin, h1, eq_self, hd4, intB, boolB]
      rfl
    by_cases h3 : s = [116, 101, 120, 116]
    · subst h3
      simp only [k57_a, WK, vop, evAll, evOpt, evParts, vbuiltin, vun, vextract, Nat.reduceLT, Nat.reduceEqDiff, ↓reduceIte, reduceCtorEq, Nat.reduceAdd, Int.reduceLT, Int.reduceNeg, valloc_std, noSB, vhot, List.getD_cons_zero, List.getD_cons_succ, ofVal_str, strBin, h1, h2, eq_self, hd4, intB, boolB, textB]
      rfl
    rw [if_neg (show ¬ s = intB from h1), if_neg (show ¬ s = boolB from h2), if_neg (show ¬ s = textB from h3)]
    by_cases hlen : (s.length : Int) < 2
    · rw [if_pos (.inl (by omega))]
      simp only [k57_a, WK, vop, evAll, evOpt, evParts, vbuiltin, vun, vextract, Nat.reduceLT, Nat.reduceEqDiff, ↓reduceIte, reduceCtorEq, Nat.reduceAdd, Int.reduceLT, Int.reduceNeg, valloc_std, noSB, vhot, List.getD_cons_zero, List.getD_cons_succ, ofVal_str, strBin, h1, h2, h3, vlen_str T9, hlen, Option.isSome_none]
    rw [if_neg (by omega)]
    have w1 : IntKind.i64.wrap ((s.length : Int) - 1) = ((s.length - 1 : Nat) : Int) := by rw [wrap_i64 (by omega) (by omega)]; omega
    have w2 : IntKind.i64.wrap (d + 1) = ((4 - r : Nat) : Int) := by rw [wrap_i64 (by omega) (by omega)]; omega
    obtain ⟨c, hc⟩ : ∃ c, s[s.length - 1]? = some c := ⟨_, List.getElem?_eq_getElem (by omega)⟩
    have hg : s.getLast? = some c := by rw [List.getLast?_eq_getElem?]; exact hc
    have hdl : s.take (s.length - 1) = s.dropLast := (List.dropLast_eq_take).symm
    have c93 : decide ((c.toNat : Int) = 93) = decide (c = 93) := u8_eq (d := 93)
    have c125 : decide ((c.toNat : Int) = 125) = decide (c = 125) := u8_eq (d := 125)
    have ln : ∀ k, (mid k s).length ≤ 4294967296 := fun k => by unfold mid; rw [List.length_drop, List.length_dropLast]; omega
    have hsome : ∀ x : UInt8, (s.getLast? = some x) = (c = x) := fun x => by rw [hg, Option.some.injEq]
    simp only [hsome]
    simp only [k57_a, WK, vop, evAll, evOpt, evParts, vbuiltin, vun, vextract, Nat.reduceLT, Nat.reduceEqDiff, ↓reduceIte, reduceCtorEq, Nat.reduceAdd, Int.reduceLT, Int.reduceNeg, valloc_std, noSB, vhot, List.getD_cons_zero, List.getD_cons_succ, ofVal_str, strBin, h1, h2, h3, vlen_str T9, hlen, hd4', w1, T9, str_hi (show s.length - 1 ≤ s.length by omega), hdl]
    refine KD.ret (cut_does s.dropLast [91] σ) ?_
    cases hp : isPre [91] s.dropLast with
    | true =>
      have hcut : cutS s.dropLast [91] = mid 1 s := by unfold cutS; rw [if_pos hp]; rfl
      by_cases hcc : c = 93
      · have hb : decide ((c.toNat : Int) = 93) = true := by rw [c93]; exact decide_eq_true hcc
        have hcc' : (c = 93) = True := eq_true hcc
        simp only [k57_a, WK, vop, evAll, evOpt, evParts, vbuiltin, vun, vextract, Nat.reduceLT, Nat.reduceEqDiff, ↓reduceIte, reduceCtorEq, Nat.reduceAdd, Int.reduceLT, Int.reduceNeg, valloc_std, noSB, vhot, List.getD_cons_zero, List.getD_cons_succ, vlen_str T9, w1, w2, str_at hc, hb, hcc', hcut, eq_self, if_true]
        refine KD.ret (ih (by omega) (mid 1 s) σ (ln 1)) ?_
        simp only [k57_a, WK, vop, evAll, evOpt, evParts, vbuiltin, vun, vextract, Nat.reduceLT, Nat.reduceEqDiff, ↓reduceIte, reduceCtorEq, Nat.reduceAdd, Int.reduceLT, Int.reduceNeg, valloc_std, noSB, vhot, Option.isSome_map]
      · have hb : decide ((c.toNat : Int) = 93) = false := by rw [c93]; exact decide_eq_false hcc
        have hcc' : (c = 93) = False := eq_false hcc
        simp only [k57_a, WK, vop, evAll, evOpt, evParts, vbuiltin, vun, vextract, Nat.reduceLT, Nat.reduceEqDiff, ↓reduceIte, reduceCtorEq, Nat.reduceAdd, Int.reduceLT, Int.reduceNeg, valloc_std, noSB, vhot, List.getD_cons_zero, List.getD_cons_succ, vlen_str T9, w1, w2, str_at hc, hb, hcc', hcut, if_true, if_false, Option.isSome_none]
    | false =>
      simp only [k57_a, WK, vop, evAll, evOpt, evParts, vbuiltin, vun, vextract, Nat.reduceLT, Nat.reduceEqDiff, ↓reduceIte, reduceCtorEq, Nat.reduceAdd, Int.reduceLT, Int.reduceNeg, valloc_std, noSB, vhot, ofVal_str, build2S, str2_len, Bool.false_eq_true, if_false]
      refine Ev.loopF (fun i e σ' => e 49 = .int .i64 (i : Nat) ∧ i ≤ 2 ∧ (1 ≤ i → isPre mI s.dropLast = false) ∧ (2 ≤ i → isPre mT s.dropLast = false) ∧ σ' = σ) (fun i => 2 - i) 0 ?_ ?_
      · exact ⟨by simp [upd_some], by omega, fun h => by omega, fun h => by omega, rfl⟩
      rintro i e σ' ⟨h49, hi, hm1, hm2, hσ⟩ hf
      subst hσ
      have h47 : e 47 = .slice .exact 1 [.str mI, .str mT] 2 := (hf 47 (by decide)).trans (by simp [upd_some, mI, mT])
      have h48 : e 48 = .int .i64 2 := (hf 48 (by decide)).trans (by simp [upd_some])
      have h0 : e 0 = .str s := (hf 0 (by decide)).trans (by simp [upd_some])
      have he1 : e 1 = .int .i64 d := (hf 1 (by decide)).trans (by simp [upd_some])
      clear hf
      have i3 : i = 0 ∨ i = 1 ∨ i = 2 := by omega
      rcases i3 with rfl | rfl | rfl
      · have hlt : ((0 : Nat) : Int) < 2 := by omega
        have hwi : IntKind.i64.wrap (((0 : Nat) : Int) + 1) = ((1 : Nat) : Int) := by rw [wrap_i64 (by omega) (by omega)]; omega
        simp only [k57_a, WK, vop, evAll, evOpt, evParts, vbuiltin, vun, vextract, Nat.reduceLT, Nat.reduceEqDiff, ↓reduceIte, reduceCtorEq, Nat.reduceAdd, Int.reduceLT, Int.reduceNeg, valloc_std, noSB, vhot, h0, he1, h47, h48, h49, hlt, str2_addr0, str2_load0, vlen_str T9, w1, T9, str_hi (show s.length - 1 ≤ s.length by omega), hdl]
        refine KD.ret (cut_does s.dropLast mI σ') ?_
        cases hp2 : isPre mI s.dropLast with
        | true =>
          have hcut : cutS s.dropLast mI = mid 5 s := by unfold cutS; rw [if_pos hp2]; rfl
          by_cases hcc : c = 125
          · have hb : decide ((c.toNat : Int) = 125) = true := by rw [c125]; exact decide_eq_true hcc
            have hcc' : (c = 125) = True := eq_true hcc
            simp only [k57_a, WK, vop, evAll, evOpt, evParts, vbuiltin, vun, vextract, Nat.reduceLT, Nat.reduceEqDiff, ↓reduceIte, reduceCtorEq, Nat.reduceAdd, Int.reduceLT, Int.reduceNeg, valloc_std, noSB, vhot, h0, he1, h49, vlen_str T9, w1, w2, str_at hc, hb, hcc', hcut, eq_self, if_true]
            refine KD.ret (ih (by omega) (mid 5 s) σ' (ln 5)) ?_
            simp only [k57_a, WK, vop, evAll, evOpt, evParts, vbuiltin, vun, vextract, Nat.reduceLT, Nat.reduceEqDiff, ↓reduceIte, reduceCtorEq, Nat.reduceAdd, Int.reduceLT, Int.reduceNeg, valloc_std, noSB, vhot, Option.isSome_map]
          · have hb : decide ((c.toNat : Int) = 125) = false := by rw [c125]; exact decide_eq_false hcc
            have hcc' : (c = 125) = False := eq_false hcc
            simp only [k57_a, WK, vop, evAll, evOpt, evParts, vbuiltin, vun, vextract, Nat.reduceLT, Nat.reduceEqDiff, ↓reduceIte, reduceCtorEq, Nat.reduceAdd, Int.reduceLT, Int.reduceNeg, valloc_std, noSB, vhot, h0, he1, h49, vlen_str T9, w1, w2, str_at hc, hb, hcc', hcut, if_true, if_false, Option.isSome_none]
        | false =>
          simp only [k57_a, WK, vop, evAll, evOpt, evParts, vbuiltin, vun, vextract, Nat.reduceLT, Nat.reduceEqDiff, ↓reduceIte, reduceCtorEq, Nat.reduceAdd, Int.reduceLT, Int.reduceNeg, valloc_std, noSB, vhot, h49, hwi]
          exact ⟨1, ⟨by simp [upd_some], by omega, fun _ => by first | exact hp2 | exact trivial, fun h => by omega⟩, by omega⟩
      · have hlt : ((1 : Nat) : Int) < 2 := by omega
        have hwi : IntKind.i64.wrap (((1 : Nat) : Int) + 1) = ((2 : Nat) : Int) := by rw [wrap_i64 (by omega) (by omega)]; omega
        have hp1 := hm1 (by omega)
        simp only [k57_a, WK, vop, evAll, evOpt, evParts, vbuiltin, vun, vextract, Nat.reduceLT, Nat.reduceEqDiff, ↓reduceIte, reduceCtorEq, Nat.reduceAdd, Int.reduceLT, Int.reduceNeg, valloc_std, noSB, vhot, h0, he1, h47, h48, h49, hlt, str2_addr1, str2_load1, vlen_str T9, w1, T9, str_hi (show s.length - 1 ≤ s.length by omega), hdl]
        refine KD.ret (cut_does s.dropLast mT σ') ?_
        simp only [hp1, Bool.false_eq_true, if_false]
        cases hp2 : isPre mT s.dropLast with
        | true =>
          have hcut : cutS s.dropLast mT = mid 6 s := by unfold cutS; rw [if_pos hp2]; rfl
          by_cases hcc : c = 125
          · have hb : decide ((c.toNat : Int) = 125) = true := by rw [c125]; exact decide_eq_true hcc
            have hcc' : (c = 125) = True := eq_true hcc
            simp only [k57_a, WK, vop, evAll, evOpt, evParts, vbuiltin, vun, vextract, Nat.reduceLT, Nat.reduceEqDiff, ↓reduceIte, reduceCtorEq, Nat.reduceAdd, Int.reduceLT, Int.reduceNeg, valloc_std, noSB, vhot, h0, he1, h49, vlen_str T9, w1, w2, str_at hc, hb, hcc', hcut, eq_self, if_true]
            refine KD.ret (ih (by omega) (mid 6 s) σ' (ln 6)) ?_
            simp only [k57_a, WK, vop, evAll, evOpt, evParts, vbuiltin, vun, vextract, Nat.reduceLT, Nat.reduceEqDiff, ↓reduceIte, reduceCtorEq, Nat.reduceAdd, Int.reduceLT, Int.reduceNeg, valloc_std, noSB, vhot, Option.isSome_map]
          · have hb : decide ((c.toNat : Int) = 125) = false := by rw [c125]; exact decide_eq_false hcc
            have hcc' : (c = 125) = False := eq_false hcc
            simp only [k57_a, WK, vop, evAll, evOpt, evParts, vbuiltin, vun, vextract, Nat.reduceLT, Nat.reduceEqDiff, ↓reduceIte, reduceCtorEq, Nat.reduceAdd, Int.reduceLT, Int.reduceNeg, valloc_std, noSB, vhot, h0, he1, h49, vlen_str T9, w1, w2, str_at hc, hb, hcc', hcut, if_true, if_false, Option.isSome_none]
        | false =>
          simp only [k57_a, WK, vop, evAll, evOpt, evParts, vbuiltin, vun, vextract, Nat.reduceLT, Nat.reduceEqDiff, ↓reduceIte, reduceCtorEq, Nat.reduceAdd, Int.reduceLT, Int.reduceNeg, valloc_std, noSB, vhot, h49, hwi]
          exact ⟨2, ⟨by simp [upd_some], by omega, fun _ => by first | exact hp1 | exact trivial, fun _ => by first | exact hp2 | exact trivial⟩, by omega⟩
      · have hlt : ¬ ((2 : Nat) : Int) < 2 := by omega
        have hp1 := hm1 (by omega)
        have hp2 := hm2 (by omega)
        simp only [k57_a, WK, vop, evAll, evOpt, evParts, vbuiltin, vun, vextract, Nat.reduceLT, Nat.reduceEqDiff, ↓reduceIte, reduceCtorEq, Nat.reduceAdd, Int.reduceLT, Int.reduceNeg, valloc_std, noSB, vhot, h47, h48, h49, hlt, hp1, hp2, Bool.false_eq_true, if_false, Option.isSome_none]
/-- The type that a text is. -/
def tyS (s : List UInt8) : Option Ty := tyOf 4 s
theorem type_does (s : List UInt8) (hl : s.length ≤ 4294967296) (σ : St) : Does Try.prog prims 39 [.str s] σ (.ret (.bool (tyS s).isSome)) σ := by
  apply k39_is.ret (by simp)
  simp only [k39_a, WK, vop, evAll, evOpt, evParts, vbuiltin, vun, vextract, Nat.reduceLT, Nat.reduceEqDiff, ↓reduceIte, reduceCtorEq, Nat.reduceAdd, Int.reduceLT, Int.reduceNeg, valloc_std, noSB, vhot, List.getD_cons_zero, List.getD_cons_succ]
  refine KD.ret (kind_does 3 (by omega) s σ hl) ?_
  simp only [k39_a, WK, vop, evAll, evOpt, evParts, vbuiltin, vun, vextract, Nat.reduceLT, Nat.reduceEqDiff, ↓reduceIte, reduceCtorEq, Nat.reduceAdd, Int.reduceLT, Int.reduceNeg, valloc_std, noSB, vhot]
  rfl
end Go.Proofs.Ytplhelapcpcncaa.Q

set_option linter.unusedVariables false
set_option linter.unusedSimpArgs false
namespace Go.Proofs.Ytplhelapcpcncaa.Q
open Go Go.RowKit Go.Proofs
def is1 (s : List UInt8) : Bool := decide (2 < s.length) && (decide (s[0]? = some 91) && decide (s.getLast? = some 93))
def isM (k : Nat) (m s : List UInt8) : Bool := decide (k < s.length) && (decide (s.take m.length = m) && decide (s.getLast? = some 125))
def innerS (s : List UInt8) : Option (List UInt8) := if is1 s then some (mid 1 s) else if isM 6 mI s then some (mid 5 s) else if isM 7 mT s then some (mid 6 s) else none
def depF : Nat → List UInt8 → Nat
  | 0, _ => 0
  | n + 1, s => if s = intB ∨ s = boolB ∨ s = textB then 1 else match innerS s with
    | none => 0
    | some t => if 200 < s.length then 0 else if depF n t = 0 then 0 else depF n t + 1
theorem wrap_len {s : List UInt8} (h : 0 < s.length) (hl : s.length ≤ 4294967296) : IntKind.i64.wrap ((s.length : Int) - 1) = ((s.length - 1 : Nat) : Int) := by rw [wrap_i64 (by omega) (by omega)]; omega
theorem mid_slice {s : List UInt8} {k : Nat} (h : k ≤ s.length - 1) : vslice Try.prog 9 (.str s) (some (.int .i64 (k : Int))) (some (.int .i64 ((s.length - 1 : Nat) : Int))) none = some (.str (mid k s)) := by
  rw [str_lohi h (by omega)]
  unfold mid
  rw [List.dropLast_eq_take]
end Go.Proofs.Ytplhelapcpcncaa.Q

set_option linter.unusedVariables false
set_option linter.unusedSimpArgs false
namespace Go.Proofs.Ytplhelapcpcncaa.Q
open Go Go.RowKit Go.Proofs
/-! ### The two ways to tell a type are one -/
theorem mid_wrap (p t : List UInt8) (x : UInt8) : mid p.length (p ++ t ++ [x]) = t := by
  unfold mid
  rw [dropLast_snoc, List.drop_left]
theorem tyS_iff {s : List UInt8} {T : Ty} : tyS s = some T ↔ s = tyB T ∧ tyD T ≤ 4 := tyOf_iff
/-! ### What a type is made of -/
def listS (s : List UInt8) : List UInt8 := match tyS s with
  | some (.list e) => tyB e
  | _ => []
def isListS (s : List UInt8) : Bool := match tyS s with
  | some (.list e) => true
  | _ => false
def keyS (s : List UInt8) : List UInt8 := match tyS s with
  | some (.mapI e) => intB
  | some (.mapT e) => textB
  | _ => []
def valS (s : List UInt8) : List UInt8 := match tyS s with
  | some (.mapI e) => tyB e
  | some (.mapT e) => tyB e
  | _ => []
def isMapS (s : List UInt8) : Bool := match tyS s with
  | some (.mapI e) => true
  | some (.mapT e) => true
  | _ => false
def tyK : Ty → Int
  | .int => 1 | .bool => 2 | .text => 3 | .list _ => 4 | .mapI _ => 5 | .mapT _ => 5
def kindS (s : List UInt8) : Int := match tyS s with
  | some T => tyK T
  | none => 0
theorem tyB_first (T : Ty) : ∃ c, (tyB T)[0]? = some c ∧ ((c = 91) ↔ ∃ e, T = .list e) ∧ ((c = 123) ↔ (∃ e, T = .mapI e) ∨ ∃ e, T = .mapT e) := by
  cases T with
  | int => exact ⟨_, rfl, by simp, by simp⟩
  | bool => exact ⟨_, rfl, by simp, by simp⟩
  | text => exact ⟨_, rfl, by simp, by simp⟩
  | list e => exact ⟨_, rfl, by simp, by simp⟩
  | mapI e => exact ⟨_, rfl, by simp, by simp⟩
  | mapT e => exact ⟨_, rfl, by simp, by simp⟩
theorem vlist_does (s : List UInt8) (hl : s.length ≤ 4294967296) (σ : St) : Does Try.prog prims 58 [.str s] σ (.ret (.tuple [.str (listS s), .bool (isListS s)])) σ := by
  apply k58_is.ret (by simp)
  unfold listS isListS
  simp only [k58_a, WK, vop, evAll, evOpt, evParts, vbuiltin, vun, vextract, Nat.reduceLT, Nat.reduceEqDiff, ↓reduceIte, reduceCtorEq, Nat.reduceAdd, Int.reduceLT, Int.reduceNeg, valloc_std, noSB, vhot, List.getD_cons_zero, List.getD_cons_succ, ofVal_str]
  refine KD.ret (type_does s hl σ) ?_
  cases h : tyS s with
  | none => simp only [k58_a, WK, vop, evAll, evOpt, evParts, vbuiltin, vun, vextract, Nat.reduceLT, Nat.reduceEqDiff, ↓reduceIte, reduceCtorEq, Nat.reduceAdd, Int.reduceLT, Int.reduceNeg, valloc_std, noSB, vhot, List.getD_cons_zero, List.getD_cons_succ, ofVal_str, Option.isSome_none]
  | some T =>
    obtain ⟨rfl, h4⟩ := tyS_iff.1 h
    obtain ⟨c, hc, h1, _⟩ := tyB_first T
    have i0 : vindex Try.prog 9 (.str (tyB T)) (.int .i64 0) = some (.int .u8 (c.toNat : Int)) := str_at (n := 0) hc
    have c91 : decide ((c.toNat : Int) = 91) = decide (c = 91) := u8_eq (d := 91)
    by_cases hcc : c = 91
    · obtain ⟨e, rfl⟩ := h1.1 hcc
      have b : decide ((c.toNat : Int) = 91) = true := by rw [c91]; exact decide_eq_true hcc
      have w1 := wrap_len (s := tyB (.list e)) (by have := tyB_len (.list e); omega) hl
      have ms : vslice Try.prog 9 (.str (tyB (.list e))) (some (.int .i64 1)) (some (.int .i64 (((tyB (.list e)).length - 1 : Nat) : Int))) none = some (.str (mid 1 (tyB (.list e)))) := mid_slice (k := 1) (by have := tyB_len (.list e); omega)
      have hm : mid 1 (tyB (.list e)) = tyB e := mid_wrap [91] (tyB e) 93
      simp only [k58_a, WK, vop, evAll, evOpt, evParts, vbuiltin, vun, vextract, Nat.reduceLT, Nat.reduceEqDiff, ↓reduceIte, reduceCtorEq, Nat.reduceAdd, Int.reduceLT, Int.reduceNeg, valloc_std, noSB, vhot, List.getD_cons_zero, List.getD_cons_succ, ofVal_str, Option.isSome_some, i0, b, w1, ms, hm, T9, vlen_str T9]
    · have b : decide ((c.toNat : Int) = 91) = false := by rw [c91]; exact decide_eq_false hcc
      have hT : ∀ e, T ≠ .list e := fun e he => hcc (h1.2 ⟨e, he⟩)
      cases T with
      | list e => exact absurd rfl (hT e)
      | _ => simp only [k58_a, WK, vop, evAll, evOpt, evParts, vbuiltin, vun, vextract, Nat.reduceLT, Nat.reduceEqDiff, ↓reduceIte, reduceCtorEq, Nat.reduceAdd, Int.reduceLT, Int.reduceNeg, valloc_std, noSB, vhot, List.getD_cons_zero, List.getD_cons_succ, ofVal_str, Option.isSome_some, i0, b]
/-! ### strings.Cut at a colon -/
theorem indexByte_int (l : List UInt8) : Lib.indexByte ([105, 110, 116, 58] ++ l) 58 = 3 := by
  simp [Lib.indexByte]
theorem indexByte_text (l : List UInt8) : Lib.indexByte ([116, 101, 120, 116, 58] ++ l) 58 = 4 := by
  simp [Lib.indexByte]
theorem index_does (a : List UInt8) (n : Nat) (hn : Lib.indexByte a 58 = (n : Int)) (hl : 2 ≤ a.length) (σ : St) : Does Try.prog prims 81 [.str a, .str [58]] σ (.ret (.int .i64 (n : Int))) σ := by
  apply k81_is.ret (by simp)
  have i0 : vindex Try.prog 9 (.str [58]) (.int .i64 0) = some (.int .u8 58) := str_at (n := 0) (c := 58) rfl
  have l1 : vlen Try.prog 9 (.str [58]) = some (.int .i64 1) := vlen_str T9
  have hne : decide (([58] : List UInt8) = a) = false := by
    apply decide_eq_false
    rintro rfl
    simp at hl
  simp only [k81_a, WK, vop, evAll, evOpt, evParts, vbuiltin, vun, vextract, Nat.reduceLT, Nat.reduceEqDiff, ↓reduceIte, reduceCtorEq, Nat.reduceAdd, Int.reduceLT, Int.reduceNeg, valloc_std, noSB, vhot, List.getD_cons_zero, List.getD_cons_succ, ofVal_str, l1, T9, strBin, hne, i0, show decide ((1 : Int) = 0) = false from rfl, show decide ((1 : Int) = 1) = true from rfl]
  refine KD.ret (Does_indexByte a 58 σ) ?_
  have : Lib.indexByte a (58 : Int).toNat.toUInt8 = (n : Int) := hn
  simp only [k81_a, WK, vop, evAll, evOpt, evParts, vbuiltin, vun, vextract, Nat.reduceLT, Nat.reduceEqDiff, ↓reduceIte, reduceCtorEq, Nat.reduceAdd, Int.reduceLT, Int.reduceNeg, valloc_std, noSB, vhot, this]
theorem cut0_does (a : List UInt8) (n : Nat) (hn : Lib.indexByte a 58 = (n : Int)) (hl : 2 ≤ a.length) (h2 : n + 1 ≤ a.length) (hb : a.length ≤ 4294967296) (σ : St) : Does Try.prog prims 77 [.str a, .str [58]] σ (.ret (.tuple [.str (a.take n), .str (a.drop (n + 1)), .bool true])) σ := by
  apply k77_is.ret (by simp)
  simp only [k77_a, WK, vop, evAll, evOpt, evParts, vbuiltin, vun, vextract, Nat.reduceLT, Nat.reduceEqDiff, ↓reduceIte, reduceCtorEq, Nat.reduceAdd, Int.reduceLT, Int.reduceNeg, valloc_std, noSB, vhot, List.getD_cons_zero, List.getD_cons_succ, ofVal_str]
  refine KD.ret (index_does a n hn hl σ) ?_
  have l1 : vlen Try.prog 9 (.str [58]) = some (.int .i64 1) := vlen_str T9
  have hge : (0 : Int) ≤ (n : Int) := by omega
  have w1 : IntKind.i64.wrap ((n : Int) + 1) = ((n + 1 : Nat) : Int) := by rw [wrap_i64 (by omega) (by omega)]; omega
  have s1 : vslice Try.prog 9 (.str a) none (some (.int .i64 (n : Int))) none = some (.str (a.take n)) := str_hi (by omega)
  have s2 : vslice Try.prog 9 (.str a) (some (.int .i64 ((n + 1 : Nat) : Int))) none none = some (.str (a.drop (n + 1))) := str_lo (by omega)
  simp only [k77_a, WK, vop, evAll, evOpt, evParts, vbuiltin, vun, vextract, Nat.reduceLT, Nat.reduceEqDiff, ↓reduceIte, reduceCtorEq, Nat.reduceAdd, Int.reduceLT, Int.reduceNeg, valloc_std, noSB, vhot, List.getD_cons_zero, List.getD_cons_succ, ofVal_str, hge, l1, T9, w1, s1, s2]
theorem strcut_does (a : List UInt8) (n : Nat) (hn : Lib.indexByte a 58 = (n : Int)) (hl : 2 ≤ a.length) (h2 : n + 1 ≤ a.length) (hb : a.length ≤ 4294967296) (σ : St) : Does Try.prog prims 71 [.str a, .str [58]] σ (.ret (.tuple [.str (a.take n), .str (a.drop (n + 1)), .bool true])) σ := by
  apply k71_is.ret (by simp)
  simp only [k71_a, WK, vop, evAll, evOpt, evParts, vbuiltin, vun, vextract, Nat.reduceLT, Nat.reduceEqDiff, ↓reduceIte, reduceCtorEq, Nat.reduceAdd, Int.reduceLT, Int.reduceNeg, valloc_std, noSB, vhot, List.getD_cons_zero, List.getD_cons_succ, ofVal_str]
  refine KD.ret (cut0_does a n hn hl h2 hb σ) ?_
  simp only [k71_a, WK, vop, evAll, evOpt, evParts, vbuiltin, vun, vextract, Nat.reduceLT, Nat.reduceEqDiff, ↓reduceIte, reduceCtorEq, Nat.reduceAdd, Int.reduceLT, Int.reduceNeg, valloc_std, noSB, vhot, List.getD_cons_zero, List.getD_cons_succ]
theorem vmap_does (s : List UInt8) (hl : s.length ≤ 4294967296) (σ : St) : Does Try.prog prims 61 [.str s] σ (.ret (.tuple [.str (keyS s), .str (valS s), .bool (isMapS s)])) σ := by
  apply k61_is.ret (by simp)
  unfold keyS valS isMapS
  simp only [k61_a, WK, vop, evAll, evOpt, evParts, vbuiltin, vun, vextract, Nat.reduceLT, Nat.reduceEqDiff, ↓reduceIte, reduceCtorEq, Nat.reduceAdd, Int.reduceLT, Int.reduceNeg, valloc_std, noSB, vhot, List.getD_cons_zero, List.getD_cons_succ, ofVal_str]
  refine KD.ret (type_does s hl σ) ?_
  cases h : tyS s with
  | none => simp only [k61_a, WK, vop, evAll, evOpt, evParts, vbuiltin, vun, vextract, Nat.reduceLT, Nat.reduceEqDiff, ↓reduceIte, reduceCtorEq, Nat.reduceAdd, Int.reduceLT, Int.reduceNeg, valloc_std, noSB, vhot, List.getD_cons_zero, List.getD_cons_succ, ofVal_str, Option.isSome_none]
  | some T =>
    obtain ⟨rfl, h4⟩ := tyS_iff.1 h
    obtain ⟨c, hc, _, h1⟩ := tyB_first T
    have i0 : vindex Try.prog 9 (.str (tyB T)) (.int .i64 0) = some (.int .u8 (c.toNat : Int)) := str_at (n := 0) hc
    have c91 : decide ((c.toNat : Int) = 123) = decide (c = 123) := u8_eq (d := 123)
    by_cases hcc : c = 123
    · have b : decide ((c.toNat : Int) = 123) = true := by rw [c91]; exact decide_eq_true hcc
      rcases h1.1 hcc with ⟨e, rfl⟩ | ⟨e, rfl⟩
      · have w1 := wrap_len (s := tyB (.mapI e)) (by have := tyB_len (.mapI e); omega) hl
        have hlen : (tyB (.mapI e)).length = (tyB e).length + 6 := by simp [tyB, mI]
        have ms : vslice Try.prog 9 (.str (tyB (.mapI e))) (some (.int .i64 1)) (some (.int .i64 (((tyB (.mapI e)).length - 1 : Nat) : Int))) none = some (.str (mid 1 (tyB (.mapI e)))) := mid_slice (k := 1) (by omega)
        have hm : mid 1 (tyB (.mapI e)) = [105, 110, 116, 58] ++ tyB e := mid_wrap [123] ([105, 110, 116, 58] ++ tyB e) 125
        have hcut := strcut_does ([105, 110, 116, 58] ++ tyB e) 3 (indexByte_int _) (by simp) (by simp) (by simp; omega) σ
        simp only [k61_a, WK, vop, evAll, evOpt, evParts, vbuiltin, vun, vextract, Nat.reduceLT, Nat.reduceEqDiff, ↓reduceIte, reduceCtorEq, Nat.reduceAdd, Int.reduceLT, Int.reduceNeg, valloc_std, noSB, vhot, List.getD_cons_zero, List.getD_cons_succ, ofVal_str, Option.isSome_some, i0, b, w1, ms, hm, T9, vlen_str T9]
        refine KD.ret hcut ?_
        simp only [k61_a, WK, vop, evAll, evOpt, evParts, vbuiltin, vun, vextract, Nat.reduceLT, Nat.reduceEqDiff, ↓reduceIte, reduceCtorEq, Nat.reduceAdd, Int.reduceLT, Int.reduceNeg, valloc_std, noSB, vhot, List.getD_cons_zero, List.getD_cons_succ]
        rfl
      · have w1 := wrap_len (s := tyB (.mapT e)) (by have := tyB_len (.mapT e); omega) hl
        have hlen : (tyB (.mapT e)).length = (tyB e).length + 7 := by simp [tyB, mT]
        have ms : vslice Try.prog 9 (.str (tyB (.mapT e))) (some (.int .i64 1)) (some (.int .i64 (((tyB (.mapT e)).length - 1 : Nat) : Int))) none = some (.str (mid 1 (tyB (.mapT e)))) := mid_slice (k := 1) (by omega)
        have hm : mid 1 (tyB (.mapT e)) = [116, 101, 120, 116, 58] ++ tyB e := mid_wrap [123] ([116, 101, 120, 116, 58] ++ tyB e) 125
        have hcut := strcut_does ([116, 101, 120, 116, 58] ++ tyB e) 4 (indexByte_text _) (by simp) (by simp) (by simp; omega) σ
        simp only [k61_a, WK, vop, evAll, evOpt, evParts, vbuiltin, vun, vextract, Nat.reduceLT, Nat.reduceEqDiff, ↓reduceIte, reduceCtorEq, Nat.reduceAdd, Int.reduceLT, Int.reduceNeg, valloc_std, noSB, vhot, List.getD_cons_zero, List.getD_cons_succ, ofVal_str, Option.isSome_some, i0, b, w1, ms, hm, T9, vlen_str T9]
        refine KD.ret hcut ?_
        simp only [k61_a, WK, vop, evAll, evOpt, evParts, vbuiltin, vun, vextract, Nat.reduceLT, Nat.reduceEqDiff, ↓reduceIte, reduceCtorEq, Nat.reduceAdd, Int.reduceLT, Int.reduceNeg, valloc_std, noSB, vhot, List.getD_cons_zero, List.getD_cons_succ]
        rfl
    · have b : decide ((c.toNat : Int) = 123) = false := by rw [c91]; exact decide_eq_false hcc
      have hT : ∀ e, T ≠ .mapI e := fun e he => hcc (h1.2 (.inl ⟨e, he⟩))
      have hT' : ∀ e, T ≠ .mapT e := fun e he => hcc (h1.2 (.inr ⟨e, he⟩))
      cases T with
      | mapI e => exact absurd rfl (hT e)
      | mapT e => exact absurd rfl (hT' e)
      | _ => simp only [k61_a, WK, vop, evAll, evOpt, evParts, vbuiltin, vun, vextract, Nat.reduceLT, Nat.reduceEqDiff, ↓reduceIte, reduceCtorEq, Nat.reduceAdd, Int.reduceLT, Int.reduceNeg, valloc_std, noSB, vhot, List.getD_cons_zero, List.getD_cons_succ, ofVal_str, Option.isSome_some, i0, b]
end Go.Proofs.Ytplhelapcpcncaa.Q

set_option linter.unusedVariables false
set_option linter.unusedSimpArgs false
namespace Go.Proofs.Ytplhelapcpcncaa.Q
open Go Go.RowKit Go.Proofs
/-- One ahead of the rest. -/
def lex (x r : Int) : Int := if x = 0 then r else x
end Go.Proofs.Ytplhelapcpcncaa.Q

set_option linter.unusedVariables false
set_option linter.unusedSimpArgs false
namespace Go.Proofs.Ytplhelapcpcncaa.Q
open Go Go.RowKit Go.Proofs
/-! ### Values without parts -/
def flatV (k n : Int) (t : List UInt8) : Val := .mk k n t []
def flatC (k n : Int) (t : List UInt8) : List V := [.int .i64 k, .int .i64 n, .str t, .nils]
section
variable (σ : St)
/-! ### First values -/
def zeroS (s : List UInt8) : List V := flatC (kindS s) 0 []
end
end Go.Proofs.Ytplhelapcpcncaa.Q

set_option linter.unusedVariables false
set_option linter.unusedSimpArgs false
namespace Go.Proofs.Ytplhelapcpcncaa.Q
open Go Go.RowKit Go.Proofs
/-! ### Whether a value is one of a type -/
def fitInt : Val → Bool
  | .mk k n t l => decide (k = 1) && (decide (t = []) && decide ((l.length : Int) = 0))
def fitBool : Val → Bool
  | .mk k n t l => decide (k = 2) && ((decide (n = 0) || decide (n = 1)) && (decide (t = []) && decide ((l.length : Int) = 0)))
def fitText : Val → Bool
  | .mk k n t l => decide (n = 0) && (decide (k = 3) && (decide ((t.length : Int) ≤ 256) && decide ((l.length : Int) = 0)))
def fitList (f : Val → Bool) : Val → Bool
  | .mk k n t l => decide (n = 0) && (decide (t = []) && (decide (k = 4) && (decide ((l.length : Int) ≤ 64) && l.all f)))
def okAt (fk fv : Val → Bool) (l : List Val) (j : Nat) : Bool := match l[j]? with
  | none => true
  | some y => if j % 2 = 0 then fk y && (decide (j = 0) || match l[j - 2]? with
      | some x => decide (cmpV x y < 0)
      | none => true) else fv y
def okAll (fk fv : Val → Bool) (l : List Val) : Bool := (List.range l.length).all (okAt fk fv l)
def fitMap (fk fv : Val → Bool) : Val → Bool
  | .mk k n t l => decide (n = 0) && (decide (t = []) && (decide (k = 5) && (decide ((l.length : Int) % 2 = 0) && (decide ((l.length : Int) ≤ 128) && okAll fk fv l))))
def fitsT : Ty → Val → Bool
  | .int => fitInt
  | .bool => fitBool
  | .text => fitText
  | .list e => fitList (fitsT e)
  | .mapI e => fitMap fitInt (fitsT e)
  | .mapT e => fitMap fitText (fitsT e)
theorem okAll_true {fk fv : Val → Bool} {l : List Val} (h : ∀ j, j < l.length → okAt fk fv l j = true) : okAll fk fv l = true := by
  rw [okAll, List.all_eq_true]
  intro j hj
  exact h j (List.mem_range.1 hj)
theorem okAll_false {fk fv : Val → Bool} {l : List Val} {j : Nat} (hj : j < l.length) (h : okAt fk fv l j = false) : okAll fk fv l = false := by
  rw [← Bool.not_eq_true, okAll, List.all_eq_true]
  intro h2
  have := h2 j (List.mem_range.2 hj)
  rw [h] at this
  cases this
theorem okAt_even0 {fk fv : Val → Bool} {l : List Val} (h : 0 < l.length) : okAt fk fv l 0 = fk l[0] := by
  rw [okAt, List.getElem?_eq_getElem h]; simp
theorem okAt_even {fk fv : Val → Bool} {l : List Val} {j : Nat} (h : j < l.length) (he : j % 2 = 0) (h0 : 2 ≤ j) : okAt fk fv l j = (fk l[j] && decide (cmpV l[j - 2] l[j] < 0)) := by
  have : ¬ j = 0 := by omega
  rw [okAt, List.getElem?_eq_getElem h]
  simp only [he, if_true]
  rw [List.getElem?_eq_getElem (show j - 2 < l.length by omega)]
  simp [this]
theorem okAt_odd {fk fv : Val → Bool} {l : List Val} {j : Nat} (h : j < l.length) (he : j % 2 = 1) : okAt fk fv l j = fv l[j] := by
  rw [okAt, List.getElem?_eq_getElem h]
  simp only [he]
  rfl
/-- The function tells it of a type. -/
def FitOk (F : FuncId) (s : List UInt8) (f : Val → Bool) : Prop := ∀ (v : Val) (c : List V) (σ : St), weight v ≤ 4294967296 → ValC v c → ∃ σ', Does Try.prog prims F [.agg c, .str s] σ (.ret (.bool (f v))) σ' ∧ Keep σ σ'
section
variable {k n : Int} {t : List UInt8} {l : List Val} {w : V}
set_option maxRecDepth 100000
theorem fits_int : FitOk 41 intB fitInt := by
  intro v c σ hwt ha
  have key : ∃ q σ', Does Try.prog prims 41 [.agg c, .str intB] σ q σ' ∧ q = .ret (.bool (fitInt v)) ∧ Keep σ σ' := by
    obtain ⟨k, n, t, l, w, rfl, rfl, hw, ik, im⟩ := ha.inv
    apply k41_is.does (by simp)
    obtain ⟨σ2, hσ2⟩ : ∃ σ2 : St, σ2 = ⟨σ.objs ++ [Ob.cells [.int .i64 k, .int .i64 n, .str t, w]], σ.toks⟩ := ⟨_, rfl⟩
    have hk2 : Keep σ σ2 := by rw [hσ2]; exact (Keep.refl σ).push _
    have q2 : IsV σ2 σ.objs.length [.int .i64 k, .int .i64 n, .str t, w] := by rw [hσ2]; exact push_new _ _
    have b1 : decide (intB = [105, 110, 116]) = true := rfl
    unfold fitInt
    simp only [k41_a, WK, vop, evAll, evOpt, evParts, vbuiltin, vun, vextract, Nat.reduceLT, Nat.reduceEqDiff, ↓reduceIte, reduceCtorEq, Nat.reduceAdd, Int.reduceLT, Int.reduceNeg, valloc_std, noSB, vhot, List.getD_cons_zero, List.getD_cons_succ, vbox, vcells, ← hσ2, ofVal_str, strBin, b1, FV0, FV1, FV2, FV3, q2.kind, q2.num, q2.text, q2.list, hw.len]
    rcases (((Classical.em (k = 1)).elim (fun h0 => Or.inr ((Classical.em (t = [])).elim (fun h1 => Or.inr ((Classical.em ((l.length : Int) = 0)).elim (fun h2 => Or.inr (⟨h0, h1, h2⟩)) (fun h2 => Or.inl ⟨h0, h1, h2⟩))) (fun h1 => Or.inl ⟨h0, h1⟩))) (fun h0 => Or.inl h0)) : (¬ (k = 1) ∨ (k = 1) ∧ ¬ (t = []) ∨ (k = 1) ∧ (t = []) ∧ ¬ ((l.length : Int) = 0) ∨ (k = 1) ∧ (t = []) ∧ ((l.length : Int) = 0))) with h | h | h | h <;>
    · simp only [k41_a, WK, vop, evAll, evOpt, evParts, vbuiltin, vun, vextract, Nat.reduceLT, Nat.reduceEqDiff, ↓reduceIte, reduceCtorEq, Nat.reduceAdd, Int.reduceLT, Int.reduceNeg, valloc_std, noSB, vhot, List.getD_cons_zero, List.getD_cons_succ, ofVal_str, strBin, FV0, FV1, FV2, FV3, q2.kind, q2.num, q2.text, q2.list, hw.len, h, eq_self, Bool.true_and, Bool.false_and, Bool.and_true]
      exact hk2
  obtain ⟨q, σ', h1, rfl, h3⟩ := key
  exact ⟨σ', h1, h3⟩
theorem fits_bool : FitOk 41 boolB fitBool := by
  intro v c σ hwt ha
  have key : ∃ q σ', Does Try.prog prims 41 [.agg c, .str boolB] σ q σ' ∧ q = .ret (.bool (fitBool v)) ∧ Keep σ σ' := by
    obtain ⟨k, n, t, l, w, rfl, rfl, hw, ik, im⟩ := ha.inv
    apply k41_is.does (by simp)
    obtain ⟨σ2, hσ2⟩ : ∃ σ2 : St, σ2 = ⟨σ.objs ++ [Ob.cells [.int .i64 k, .int .i64 n, .str t, w]], σ.toks⟩ := ⟨_, rfl⟩
    have hk2 : Keep σ σ2 := by rw [hσ2]; exact (Keep.refl σ).push _
    have q2 : IsV σ2 σ.objs.length [.int .i64 k, .int .i64 n, .str t, w] := by rw [hσ2]; exact push_new _ _
    have b1 : decide (boolB = [105, 110, 116]) = false := rfl
    have b2 : decide (boolB = [98, 111, 111, 108]) = true := rfl
    have e10 : ((1 : Int) = 0) = False := eq_false (by decide)
    unfold fitBool
    simp only [k41_a, WK, vop, evAll, evOpt, evParts, vbuiltin, vun, vextract, Nat.reduceLT, Nat.reduceEqDiff, ↓reduceIte, reduceCtorEq, Nat.reduceAdd, Int.reduceLT, Int.reduceNeg, valloc_std, noSB, vhot, List.getD_cons_zero, List.getD_cons_succ, ofVal_str, strBin, FV0, FV1, FV2, FV3, q2.kind, q2.num, q2.text, q2.list, hw.len, vbox, vcells, ← hσ2, b1, b2]
    have hn : n = 0 ∨ (¬ n = 0 ∧ n = 1) ∨ (¬ n = 0 ∧ ¬ n = 1) := by omega
    rcases hn with hn | hn | hn <;>
    · rcases (((Classical.em (k = 2)).elim (fun h0 => Or.inr ((Classical.em (t = [])).elim (fun h1 => Or.inr ((Classical.em ((l.length : Int) = 0)).elim (fun h2 => Or.inr (⟨h0, h1, h2⟩)) (fun h2 => Or.inl ⟨h0, h1, h2⟩))) (fun h1 => Or.inl ⟨h0, h1⟩))) (fun h0 => Or.inl h0)) : (¬ (k = 2) ∨ (k = 2) ∧ ¬ (t = []) ∨ (k = 2) ∧ (t = []) ∧ ¬ ((l.length : Int) = 0) ∨ (k = 2) ∧ (t = []) ∧ ((l.length : Int) = 0))) with h | h | h | h <;>
      · simp only [k41_a, WK, vop, evAll, evOpt, evParts, vbuiltin, vun, vextract, Nat.reduceLT, Nat.reduceEqDiff, ↓reduceIte, reduceCtorEq, Nat.reduceAdd, Int.reduceLT, Int.reduceNeg, valloc_std, noSB, vhot, List.getD_cons_zero, List.getD_cons_succ, ofVal_str, strBin, FV0, FV1, FV2, FV3, q2.kind, q2.num, q2.text, q2.list, hw.len, h, hn, e10, eq_self, Bool.true_and, Bool.false_and, Bool.and_true, Bool.or_true, Bool.or_false, Bool.true_or, Bool.false_or]
        exact hk2
  obtain ⟨q, σ', h1, rfl, h3⟩ := key
  exact ⟨σ', h1, h3⟩
theorem fits_text : FitOk 41 textB fitText := by
  intro v c σ hwt ha
  have key : ∃ q σ', Does Try.prog prims 41 [.agg c, .str textB] σ q σ' ∧ q = .ret (.bool (fitText v)) ∧ Keep σ σ' := by
    obtain ⟨k, n, t, l, w, rfl, rfl, hw, ik, im⟩ := ha.inv
    apply k41_is.does (by simp)
    obtain ⟨σ2, hσ2⟩ : ∃ σ2 : St, σ2 = ⟨σ.objs ++ [Ob.cells [.int .i64 k, .int .i64 n, .str t, w]], σ.toks⟩ := ⟨_, rfl⟩
    have hk2 : Keep σ σ2 := by rw [hσ2]; exact (Keep.refl σ).push _
    have q2 : IsV σ2 σ.objs.length [.int .i64 k, .int .i64 n, .str t, w] := by rw [hσ2]; exact push_new _ _
    have b1 : decide (textB = [105, 110, 116]) = false := rfl
    have b2 : decide (textB = [98, 111, 111, 108]) = false := rfl
    have b3 : decide (textB = [116, 101, 120, 116]) = true := rfl
    unfold fitText
    simp only [k41_a, WK, vop, evAll, evOpt, evParts, vbuiltin, vun, vextract, Nat.reduceLT, Nat.reduceEqDiff, ↓reduceIte, reduceCtorEq, Nat.reduceAdd, Int.reduceLT, Int.reduceNeg, valloc_std, noSB, vhot, List.getD_cons_zero, List.getD_cons_succ, ofVal_str, strBin, FV0, FV1, FV2, FV3, q2.kind, q2.num, q2.text, q2.list, hw.len, vbox, vcells, ← hσ2, b1, b2, b3]
    rcases (((Classical.em (n = 0)).elim (fun h0 => Or.inr ((Classical.em (k = 3)).elim (fun h1 => Or.inr ((Classical.em ((t.length : Int) ≤ 256)).elim (fun h2 => Or.inr ((Classical.em ((l.length : Int) = 0)).elim (fun h3 => Or.inr (⟨h0, h1, h2, h3⟩)) (fun h3 => Or.inl ⟨h0, h1, h2, h3⟩))) (fun h2 => Or.inl ⟨h0, h1, h2⟩))) (fun h1 => Or.inl ⟨h0, h1⟩))) (fun h0 => Or.inl h0)) : (¬ (n = 0) ∨ (n = 0) ∧ ¬ (k = 3) ∨ (n = 0) ∧ (k = 3) ∧ ¬ ((t.length : Int) ≤ 256) ∨ (n = 0) ∧ (k = 3) ∧ ((t.length : Int) ≤ 256) ∧ ¬ ((l.length : Int) = 0) ∨ (n = 0) ∧ (k = 3) ∧ ((t.length : Int) ≤ 256) ∧ ((l.length : Int) = 0))) with h | h | h | h | h <;>
    · simp only [k41_a, WK, vop, evAll, evOpt, evParts, vbuiltin, vun, vextract, Nat.reduceLT, Nat.reduceEqDiff, ↓reduceIte, reduceCtorEq, Nat.reduceAdd, Int.reduceLT, Int.reduceNeg, valloc_std, noSB, vhot, List.getD_cons_zero, List.getD_cons_succ, ofVal_str, strBin, FV0, FV1, FV2, FV3, q2.kind, q2.num, q2.text, q2.list, hw.len, vlen_str T9, h, b1, b2, b3, eq_self, Bool.true_and, Bool.false_and, Bool.and_true]
      exact hk2
  obtain ⟨q, σ', h1, rfl, h3⟩ := key
  exact ⟨σ', h1, h3⟩
/-! ### All parts of a list -/
def IsS (σ : St) (p : Nat) (s : List UInt8) : Prop := σ.objs[p]? = some (.cells [.str s])
theorem IsS.load {σ : St} {p : Nat} {s : List UInt8} (h : IsS σ p s) : vload Try.prog σ.objs 9 (.optr p 0) = some (.str s) := by rw [vload_obj h G9]; rfl
theorem clos_does {s : List UInt8} {f : Val → Bool} (H : FitOk 41 s f) {v : Val} {c : List V} {σ : St} {p : Nat} (hp : IsS σ p s) (hwt : weight v ≤ 4294967296) (ha : ValC v c) : ∃ σ', Does Try.prog prims 60 [.agg c, .optr p 0] σ (.ret (.bool (!f v))) σ' ∧ Keep σ σ' := by
  obtain ⟨s1, hs1⟩ : ∃ s1 : St, s1 = ⟨σ.objs ++ [Ob.cells c], σ.toks⟩ := ⟨_, rfl⟩
  have k1 : Keep σ s1 := by rw [hs1]; exact (Keep.refl σ).push _
  have q1 : IsV s1 σ.objs.length c := by rw [hs1]; exact push_new _ _
  have p1 : IsS s1 p s := k1.1 _ _ hp
  obtain ⟨s2, d2, k2⟩ := H v c s1 hwt ha
  refine ⟨s2, ?_, k1.trans k2⟩
  apply k60_is.ret (by simp)
  simp only [k60_a, WK, vop, evAll, evOpt, evParts, vbuiltin, vun, vextract, Nat.reduceLT, Nat.reduceEqDiff, ↓reduceIte, reduceCtorEq, Nat.reduceAdd, Int.reduceLT, Int.reduceNeg, valloc_std, noSB, vhot, List.getD_cons_zero, List.getD_cons_succ, vbox, vcells, ← hs1, q1.load ha.len, p1.load]
  refine KD.ret d2 ?_
  simp only [k60_a, WK, vop, evAll, evOpt, evParts, vbuiltin, vun, vextract, Nat.reduceLT, Nat.reduceEqDiff, ↓reduceIte, reduceCtorEq, Nat.reduceAdd, Int.reduceLT, Int.reduceNeg, valloc_std, noSB, vhot]
def I92 (σ0 : St) (f : Val → Bool) (l : List Val) : Nat → (Nat → V) → St → Prop := fun i e σ => e 8 = .int .i64 i ∧ i ≤ l.length ∧ (l.take i).all f = true ∧ Keep σ0 σ
theorem all_take_succ {f : Val → Bool} {l : List Val} {i : Nat} (h : i < l.length) : (l.take (i + 1)).all f = ((l.take i).all f && f l[i]) := by
  rw [List.take_succ_eq_append_getElem h, List.all_append]
  simp
theorem all_false {f : Val → Bool} {l : List Val} {i : Nat} (h : i < l.length) (hf : f l[i] = false) : l.all f = false := by
  rw [← Bool.not_eq_true, List.all_eq_true]
  intro h2
  have := h2 _ (List.getElem_mem h)
  rw [hf] at this
  cases this
theorem indexfunc_does {s : List UInt8} {f : Val → Bool} (H : FitOk 41 s f) {σ : St} {p : Nat} (hp : IsS σ p s) (hwt : weights l ≤ 4294967296) (hw : ValsW l w) : ∃ (i : Int) (σ' : St), Does Try.prog prims 70 [w, .func 60 [.optr p 0]] σ (.ret (.int .i64 i)) σ' ∧ Keep σ σ' ∧ decide (0 ≤ i) = !(l.all f) := by
  have key : ∃ q σ', Does Try.prog prims 70 [w, .func 60 [.optr p 0]] σ q σ' ∧ ∃ i : Int, q = .ret (.int .i64 i) ∧ Keep σ σ' ∧ decide (0 ≤ i) = !(l.all f) := by
    apply k70_is.does (by simp)
    simp only [k70_a, WK, vop, evAll, evOpt, evParts, vbuiltin, vun, vextract, Nat.reduceLT, Nat.reduceEqDiff, ↓reduceIte, reduceCtorEq, Nat.reduceAdd, Int.reduceLT, Int.reduceNeg, valloc_std, noSB, vhot, List.getD_cons_zero, List.getD_cons_succ, hw.len]
    have hll := weights_len l
    refine Ev.loopF (I92 σ f l) (fun i => l.length - i) 0 ⟨by simp [upd_some], by simp, by simp, Keep.refl σ⟩ ?_
    rintro i e σ1 ⟨h8, hi, hall, hk⟩ hf
    have h7 : e 7 = .int .i64 l.length := (hf 7 (by decide)).trans (by simp [upd_some])
    have h0 : e 0 = w := (hf 0 (by decide)).trans (by simp [upd_some])
    have h1 : e 1 = .func 60 [.optr p 0] := (hf 1 (by decide)).trans (by simp [upd_some])
    clear hf
    by_cases hlt : i < l.length
    · have hlt' : (i : Int) < l.length := by omega
      have hwi : IntKind.i64.wrap ((i : Int) + 1) = ((i + 1 : Nat) : Int) := by rw [show ((i : Int) + 1) = ((i + 1 : Nat) : Int) from by omega]; exact wrap_nat (by omega)
      obtain ⟨cs, c, ha0, hld, hc⟩ := hw.get hlt
      have hmem := weights_mem (List.getElem_mem hlt)
      obtain ⟨s3, d3, k3⟩ := clos_does H (v := l[i]) (hk.1 _ _ hp) (by omega) hc
      simp only [k70_a, WK, vop, evAll, evOpt, evParts, vbuiltin, vun, vextract, Nat.reduceLT, Nat.reduceEqDiff, ↓reduceIte, reduceCtorEq, Nat.reduceAdd, Int.reduceLT, Int.reduceNeg, valloc_std, noSB, vhot, h0, h1, h7, h8, hlt', ha0, hld]
      refine KD.ret d3 ?_
      cases hfl : f l[i] with
      | true =>
        simp only [k70_a, WK, vop, evAll, evOpt, evParts, vbuiltin, vun, vextract, Nat.reduceLT, Nat.reduceEqDiff, ↓reduceIte, reduceCtorEq, Nat.reduceAdd, Int.reduceLT, Int.reduceNeg, valloc_std, noSB, vhot, h8, hwi]
        exact ⟨i + 1, ⟨by simp [upd_some], hlt, by rw [all_take_succ hlt, hall, hfl]; rfl, hk.trans k3⟩, by omega⟩
      | false =>
        simp only [k70_a, WK, vop, evAll, evOpt, evParts, vbuiltin, vun, vextract, Nat.reduceLT, Nat.reduceEqDiff, ↓reduceIte, reduceCtorEq, Nat.reduceAdd, Int.reduceLT, Int.reduceNeg, valloc_std, noSB, vhot, h8]
        exact ⟨_, rfl, hk.trans k3, by rw [all_false hlt hfl]; simp⟩
    · have hlt' : ¬ (i : Int) < l.length := by omega
      simp only [k70_a, WK, vop, evAll, evOpt, evParts, vbuiltin, vun, vextract, Nat.reduceLT, Nat.reduceEqDiff, ↓reduceIte, reduceCtorEq, Nat.reduceAdd, Int.reduceLT, Int.reduceNeg, valloc_std, noSB, vhot, h7, h8, hlt']
      rw [List.take_of_length_le (by omega)] at hall
      exact ⟨_, rfl, hk, by rw [hall]; rfl⟩
  obtain ⟨q, σ', h1, i, rfl, h3, h4⟩ := key
  exact ⟨i, σ', h1, h3, h4⟩
theorem containsfunc_does {s : List UInt8} {f : Val → Bool} (H : FitOk 41 s f) {σ : St} {p : Nat} (hp : IsS σ p s) (hwt : weights l ≤ 4294967296) (hw : ValsW l w) : ∃ (σ' : St), Does Try.prog prims 59 [w, .func 60 [.optr p 0]] σ (.ret (.bool (!(l.all f)))) σ' ∧ Keep σ σ' := by
  obtain ⟨i, s2, d2, k2, hi⟩ := indexfunc_does H hp hwt hw
  refine ⟨s2, ?_, k2⟩
  apply k59_is.ret (by simp)
  simp only [k59_a, WK, vop, evAll, evOpt, evParts, vbuiltin, vun, vextract, Nat.reduceLT, Nat.reduceEqDiff, ↓reduceIte, reduceCtorEq, Nat.reduceAdd, Int.reduceLT, Int.reduceNeg, valloc_std, noSB, vhot, List.getD_cons_zero, List.getD_cons_succ]
  refine KD.ret d2 ?_
  simp only [k59_a, WK, vop, evAll, evOpt, evParts, vbuiltin, vun, vextract, Nat.reduceLT, Nat.reduceEqDiff, ↓reduceIte, reduceCtorEq, Nat.reduceAdd, Int.reduceLT, Int.reduceNeg, valloc_std, noSB, vhot, hi]
theorem tyS_list {e : Ty} (h : tyD (.list e) ≤ 4) : listS (tyB (.list e)) = tyB e ∧ isListS (tyB (.list e)) = true := by
  have := tyS_iff.2 ⟨rfl, h⟩
  exact ⟨by rw [listS, this], by rw [isListS, this]⟩
theorem tyS_mapI {e : Ty} (h : tyD (.mapI e) ≤ 4) : listS (tyB (.mapI e)) = [] ∧ isListS (tyB (.mapI e)) = false ∧ keyS (tyB (.mapI e)) = intB ∧ valS (tyB (.mapI e)) = tyB e ∧ isMapS (tyB (.mapI e)) = true := by
  have := tyS_iff.2 ⟨rfl, h⟩
  exact ⟨by rw [listS, this], by rw [isListS, this], by rw [keyS, this], by rw [valS, this], by rw [isMapS, this]⟩
theorem tyS_mapT {e : Ty} (h : tyD (.mapT e) ≤ 4) : listS (tyB (.mapT e)) = [] ∧ isListS (tyB (.mapT e)) = false ∧ keyS (tyB (.mapT e)) = textB ∧ valS (tyB (.mapT e)) = tyB e ∧ isMapS (tyB (.mapT e)) = true := by
  have := tyS_iff.2 ⟨rfl, h⟩
  exact ⟨by rw [listS, this], by rw [isListS, this], by rw [keyS, this], by rw [valS, this], by rw [isMapS, this]⟩
theorem ZS9 : zeroT Try.prog 9 = some (.str []) := by kernel_rfl
theorem fits_list {e : Ty} (hT : tyD (.list e) ≤ 4) (H : FitOk 41 (tyB e) (fitsT e)) : FitOk 41 (tyB (.list e)) (fitList (fitsT e)) := by
  intro v c σ hwt ha
  have key : ∃ q σ', Does Try.prog prims 41 [.agg c, .str (tyB (.list e))] σ q σ' ∧ q = .ret (.bool (fitList (fitsT e) v)) ∧ Keep σ σ' := by
    obtain ⟨k, n, t, l, w, rfl, rfl, hw, ik, im⟩ := ha.inv
    apply k41_is.does (by simp)
    obtain ⟨σ2, hσ2⟩ : ∃ σ2 : St, σ2 = ⟨σ.objs ++ [Ob.cells [.int .i64 k, .int .i64 n, .str t, w]], σ.toks⟩ := ⟨_, rfl⟩
    have hk2 : Keep σ σ2 := by rw [hσ2]; exact (Keep.refl σ).push _
    have q2 : IsV σ2 σ.objs.length [.int .i64 k, .int .i64 n, .str t, w] := by rw [hσ2]; exact push_new _ _
    have b1 : decide (tyB (.list e) = [105, 110, 116]) = false := by simp [tyB]
    have b2 : decide (tyB (.list e) = [98, 111, 111, 108]) = false := by simp [tyB]
    have b3 : decide (tyB (.list e) = [116, 101, 120, 116]) = false := by simp [tyB]
    have hlen := tyB_len (.list e)
    rw [weight] at hwt
    unfold fitList
    simp only [k41_a, WK, vop, evAll, evOpt, evParts, vbuiltin, vun, vextract, Nat.reduceLT, Nat.reduceEqDiff, ↓reduceIte, reduceCtorEq, Nat.reduceAdd, Int.reduceLT, Int.reduceNeg, valloc_std, noSB, vhot, List.getD_cons_zero, List.getD_cons_succ, ofVal_str, strBin, FV0, FV1, FV2, FV3, q2.kind, q2.num, q2.text, q2.list, hw.len, vbox, vcells, ← hσ2, b1, b2, b3]
    obtain ⟨g1, g2⟩ := tyS_list hT
    have hd := vlist_does (tyB (.list e)) (by omega) σ2
    rw [g1, g2] at hd
    rcases (((Classical.em (n = 0)).elim (fun h0 => Or.inr ((Classical.em (t = [])).elim (fun h1 => Or.inr (⟨h0, h1⟩)) (fun h1 => Or.inl ⟨h0, h1⟩))) (fun h0 => Or.inl h0)) : (¬ (n = 0) ∨ (n = 0) ∧ ¬ (t = []) ∨ (n = 0) ∧ (t = []))) with h | h | h
    · simp only [k41_a, WK, vop, evAll, evOpt, evParts, vbuiltin, vun, vextract, Nat.reduceLT, Nat.reduceEqDiff, ↓reduceIte, reduceCtorEq, Nat.reduceAdd, Int.reduceLT, Int.reduceNeg, valloc_std, noSB, vhot, List.getD_cons_zero, List.getD_cons_succ, ofVal_str, strBin, FV0, FV1, FV2, FV3, q2.kind, q2.num, q2.text, q2.list, hw.len, h, b1, b2, b3, eq_self, Bool.true_and, Bool.false_and, Bool.and_true]
      exact hk2
    · simp only [k41_a, WK, vop, evAll, evOpt, evParts, vbuiltin, vun, vextract, Nat.reduceLT, Nat.reduceEqDiff, ↓reduceIte, reduceCtorEq, Nat.reduceAdd, Int.reduceLT, Int.reduceNeg, valloc_std, noSB, vhot, List.getD_cons_zero, List.getD_cons_succ, ofVal_str, strBin, FV0, FV1, FV2, FV3, q2.kind, q2.num, q2.text, q2.list, hw.len, h, b1, b2, b3, eq_self, Bool.true_and, Bool.false_and, Bool.and_true]
      exact hk2
    · simp only [k41_a, WK, vop, evAll, evOpt, evParts, vbuiltin, vun, vextract, Nat.reduceLT, Nat.reduceEqDiff, ↓reduceIte, reduceCtorEq, Nat.reduceAdd, Int.reduceLT, Int.reduceNeg, valloc_std, noSB, vhot, List.getD_cons_zero, List.getD_cons_succ, ofVal_str, strBin, FV0, FV1, FV2, FV3, q2.kind, q2.num, q2.text, q2.list, hw.len, h, b1, b2, b3, eq_self, Bool.true_and, Bool.false_and, Bool.and_true]
      refine KD.ret hd ?_
      obtain ⟨s3, hs3⟩ : ∃ s3 : St, s3 = ⟨(σ2.objs ++ [Ob.cells [.str []]]).set σ2.objs.length (Ob.cells [.str (tyB e)]), σ2.toks⟩ := ⟨_, rfl⟩
      have k3 : Keep σ2 s3 := by rw [hs3]; exact ((Keep.refl σ2).push _).setNew (Nat.le_refl _) _
      have p3 : IsS s3 σ2.objs.length (tyB e) := by rw [hs3]; exact obj_set (push_new _ _)
      have hst : vstore Try.prog ⟨σ2.objs ++ [Ob.cells [.str []]], σ2.toks⟩ 9 (.optr σ2.objs.length 0) (.str (tyB e)) = some s3 := by
        rw [hs3]
        have h0 : (⟨σ2.objs ++ [Ob.cells [V.str []]], σ2.toks⟩ : St).objs[σ2.objs.length]? = some (.cells [.str []]) := push_new _ _
        exact vstore_obj h0 S9 rfl (by simp)
      have q3 := k3.atV q2
      simp only [k41_a, WK, vop, evAll, evOpt, evParts, vbuiltin, vun, vextract, Nat.reduceLT, Nat.reduceEqDiff, ↓reduceIte, reduceCtorEq, Nat.reduceAdd, Int.reduceLT, Int.reduceNeg, valloc_std, noSB, vhot, List.getD_cons_zero, List.getD_cons_succ, ofVal_str, strBin, FV0, FV1, FV2, FV3, q2.kind, q2.num, q2.text, q2.list, hw.len, ZS9, vbox, vcells, hst]
      have W3 := hwt
      obtain ⟨s4, d4, k4⟩ := containsfunc_does H p3 (l := l) (w := w) (by omega) hw
      simp only [q3.kind, FV0, WK, vop, evAll, evOpt, evParts, vbuiltin, vun, vextract, Nat.reduceLT, Nat.reduceEqDiff, ↓reduceIte, reduceCtorEq, Nat.reduceAdd, Int.reduceLT, Int.reduceNeg, valloc_std, noSB, vhot]
      rcases (((Classical.em (k = 4)).elim (fun h0 => Or.inr ((Classical.em ((l.length : Int) ≤ 64)).elim (fun h1 => Or.inr (⟨h0, h1⟩)) (fun h1 => Or.inl ⟨h0, h1⟩))) (fun h0 => Or.inl h0)) : (¬ (k = 4) ∨ (k = 4) ∧ ¬ ((l.length : Int) ≤ 64) ∨ (k = 4) ∧ ((l.length : Int) ≤ 64))) with hh | hh | hh
      · simp only [k41_a, WK, vop, evAll, evOpt, evParts, vbuiltin, vun, vextract, Nat.reduceLT, Nat.reduceEqDiff, ↓reduceIte, reduceCtorEq, Nat.reduceAdd, Int.reduceLT, Int.reduceNeg, valloc_std, noSB, vhot, FV0, FV3, q3.list, hw.len, hh, eq_self, Bool.true_and, Bool.false_and, Bool.and_true]
        exact hk2.trans k3
      · simp only [k41_a, WK, vop, evAll, evOpt, evParts, vbuiltin, vun, vextract, Nat.reduceLT, Nat.reduceEqDiff, ↓reduceIte, reduceCtorEq, Nat.reduceAdd, Int.reduceLT, Int.reduceNeg, valloc_std, noSB, vhot, FV0, FV3, q3.list, hw.len, hh, eq_self, Bool.true_and, Bool.false_and, Bool.and_true]
        exact hk2.trans k3
      · simp only [k41_a, WK, vop, evAll, evOpt, evParts, vbuiltin, vun, vextract, Nat.reduceLT, Nat.reduceEqDiff, ↓reduceIte, reduceCtorEq, Nat.reduceAdd, Int.reduceLT, Int.reduceNeg, valloc_std, noSB, vhot, FV0, FV3, q3.list, hw.len, hh, eq_self, Bool.true_and, Bool.false_and, Bool.and_true]
        refine KD.ret d4 ?_
        simp only [k41_a, WK, vop, evAll, evOpt, evParts, vbuiltin, vun, vextract, Nat.reduceLT, Nat.reduceEqDiff, ↓reduceIte, reduceCtorEq, Nat.reduceAdd, Int.reduceLT, Int.reduceNeg, valloc_std, noSB, vhot, Bool.not_not]
        exact (hk2.trans k3).trans k4
  obtain ⟨q, σ', h1, rfl, h3⟩ := key
  exact ⟨σ', h1, h3⟩
theorem idx_wrap {i : Nat} (h : i + 1 ≤ 4294967296) : IntKind.i64.wrap ((i : Int) + 1) = ((i + 1 : Nat) : Int) := by rw [wrap_i64 (by omega) (by omega)]; omega
theorem idx_wrap2 {i : Nat} (h : 2 ≤ i) (h2 : i ≤ 4294967296) : IntKind.i64.wrap ((i : Int) - 2) = ((i - 2 : Nat) : Int) := by rw [wrap_i64 (by omega) (by omega)]; omega
theorem pair_step {ks vs : List UInt8} {fk fv : Val → Bool} (Hk : FitOk 41 ks fk) (Hv : FitOk 41 vs fv) {e : Nat → V} {σ : St} {q i : Nat} (hw : ValsW l w) (hwt : weights l ≤ 4294967295) (hi : i + 1 < l.length) (hev : i % 2 = 0)
    (h2 : e 2 = .optr q 0) (h7 : e 7 = .str ks) (h8 : e 8 = .str vs) (h10 : e 10 = .int .i64 i) (hq : IsV σ q [.int .i64 k, .int .i64 n, .str t, w]) :
    Ev Try.prog prims 175 (.region k41_r18) e σ (fun x e' σ' => x = .normal ∧ Keep σ σ' ∧ e' 174 = .bool (!(okAt fk fv l i && okAt fk fv l (i + 1)))) := by
  have hll := weights_len l
  have hi0 : i < l.length := by omega
  obtain ⟨csA, cA, haA, hldA, hcA⟩ := hw.get hi0
  obtain ⟨csB, cB, haB, hldB, hcB⟩ := hw.get hi
  have hmA := weights_mem (List.getElem_mem hi0)
  have hmB := weights_mem (List.getElem_mem hi)
  obtain ⟨s1, d1, k1⟩ := Hk l[i] cA σ (by omega) hcA
  obtain ⟨s2, d2, k2⟩ := Hv l[i + 1] cB s1 (by omega) hcB
  have q1 := k1.atV hq
  have q2 := k2.atV q1
  have w1 := idx_wrap (i := i) (by omega)
  rw [okAt_odd hi (by omega)]
  by_cases i0 : i = 0
  · subst i0
    rw [okAt_even0 hi0]
    have z0 : ((0 : Nat) : Int) = 0 := rfl
    simp only [(oE k41_r18.eq_1), WK, vop, evAll, evOpt, evParts, vbuiltin, vun, vextract, Nat.reduceLT, Nat.reduceEqDiff, ↓reduceIte, reduceCtorEq, Nat.reduceAdd, Int.reduceLT, Int.reduceNeg, valloc_std, noSB, vhot, h2, h7, h8, h10, FV3, hq.list, haA, hldA]
    refine KD.ret d1 ?_
    cases hA : fk l[0] with
    | false =>
      simp only [(oE k41_r18.eq_1), WK, vop, evAll, evOpt, evParts, vbuiltin, vun, vextract, Nat.reduceLT, Nat.reduceEqDiff, ↓reduceIte, reduceCtorEq, Nat.reduceAdd, Int.reduceLT, Int.reduceNeg, valloc_std, noSB, vhot, h2, h7, h8, h10, FV3, Bool.false_and]
      exact k1
    | true =>
      simp only [(oE k41_r18.eq_1), WK, vop, evAll, evOpt, evParts, vbuiltin, vun, vextract, Nat.reduceLT, Nat.reduceEqDiff, ↓reduceIte, reduceCtorEq, Nat.reduceAdd, Int.reduceLT, Int.reduceNeg, valloc_std, noSB, vhot, h2, h7, h8, h10, FV3, q1.list, w1, haB, hldB]
      refine KD.ret d2 ?_
      cases hB : fv l[0 + 1] with
      | false =>
        simp only [(oE k41_r18.eq_1), WK, vop, evAll, evOpt, evParts, vbuiltin, vun, vextract, Nat.reduceLT, Nat.reduceEqDiff, ↓reduceIte, reduceCtorEq, Nat.reduceAdd, Int.reduceLT, Int.reduceNeg, valloc_std, noSB, vhot, h2, h7, h8, h10, FV3, Bool.true_and]
        exact k1.trans k2
      | true =>
        simp only [(oE k41_r18.eq_1), WK, vop, evAll, evOpt, evParts, vbuiltin, vun, vextract, Nat.reduceLT, Nat.reduceEqDiff, ↓reduceIte, reduceCtorEq, Nat.reduceAdd, Int.reduceLT, Int.reduceNeg, valloc_std, noSB, vhot, h2, h7, h8, h10, FV3, Bool.true_and, z0, Int.lt_irrefl]
        exact k1.trans k2
  · have hi2 : 2 ≤ i := by omega
    rw [okAt_even hi0 hev hi2]
    have w2 := idx_wrap2 hi2 (by omega)
    have hi3 : i - 2 < l.length := by omega
    obtain ⟨csC, cC, haC, hldC, hcC⟩ := hw.get hi3
    have hmC := weights_mem (List.getElem_mem hi3)
    obtain ⟨s4, d4, k4⟩ := compare_does (a := l[i - 2]) (b := l[i]) s2 (by omega) hcC hcA
    have hpos : (0 : Int) < (i : Int) := by omega
    simp only [(oE k41_r18.eq_1), WK, vop, evAll, evOpt, evParts, vbuiltin, vun, vextract, Nat.reduceLT, Nat.reduceEqDiff, ↓reduceIte, reduceCtorEq, Nat.reduceAdd, Int.reduceLT, Int.reduceNeg, valloc_std, noSB, vhot, h2, h7, h8, h10, FV3, hq.list, haA, hldA]
    refine KD.ret d1 ?_
    cases hA : fk l[i] with
    | false =>
      simp only [(oE k41_r18.eq_1), WK, vop, evAll, evOpt, evParts, vbuiltin, vun, vextract, Nat.reduceLT, Nat.reduceEqDiff, ↓reduceIte, reduceCtorEq, Nat.reduceAdd, Int.reduceLT, Int.reduceNeg, valloc_std, noSB, vhot, h2, h7, h8, h10, FV3, Bool.false_and]
      exact k1
    | true =>
      simp only [(oE k41_r18.eq_1), WK, vop, evAll, evOpt, evParts, vbuiltin, vun, vextract, Nat.reduceLT, Nat.reduceEqDiff, ↓reduceIte, reduceCtorEq, Nat.reduceAdd, Int.reduceLT, Int.reduceNeg, valloc_std, noSB, vhot, h2, h7, h8, h10, FV3, q1.list, w1, haB, hldB]
      refine KD.ret d2 ?_
      cases hB : fv l[i + 1] with
      | false =>
        simp only [(oE k41_r18.eq_1), WK, vop, evAll, evOpt, evParts, vbuiltin, vun, vextract, Nat.reduceLT, Nat.reduceEqDiff, ↓reduceIte, reduceCtorEq, Nat.reduceAdd, Int.reduceLT, Int.reduceNeg, valloc_std, noSB, vhot, h2, h7, h8, h10, FV3, Bool.and_false]
        exact k1.trans k2
      | true =>
        simp only [(oE k41_r18.eq_1), WK, vop, evAll, evOpt, evParts, vbuiltin, vun, vextract, Nat.reduceLT, Nat.reduceEqDiff, ↓reduceIte, reduceCtorEq, Nat.reduceAdd, Int.reduceLT, Int.reduceNeg, valloc_std, noSB, vhot, h2, h7, h8, h10, FV3, hpos, q2.list, w2, haC, hldC, haA, hldA]
        refine KD.ret d4 ?_
        by_cases hc : cmpV l[i - 2] l[i] < 0
        · have hc' : ¬ (0 : Int) ≤ cmpV l[i - 2] l[i] := by omega
          simp only [(oE k41_r18.eq_1), WK, vop, evAll, evOpt, evParts, vbuiltin, vun, vextract, Nat.reduceLT, Nat.reduceEqDiff, ↓reduceIte, reduceCtorEq, Nat.reduceAdd, Int.reduceLT, Int.reduceNeg, valloc_std, noSB, vhot, h2, h7, h8, h10, FV3, hc, hc', Bool.true_and, Bool.and_true]
          exact (k1.trans k2).trans k4
        · have hc' : (0 : Int) ≤ cmpV l[i - 2] l[i] := by omega
          simp only [(oE k41_r18.eq_1), WK, vop, evAll, evOpt, evParts, vbuiltin, vun, vextract, Nat.reduceLT, Nat.reduceEqDiff, ↓reduceIte, reduceCtorEq, Nat.reduceAdd, Int.reduceLT, Int.reduceNeg, valloc_std, noSB, vhot, h2, h7, h8, h10, FV3, hc, hc', Bool.true_and, Bool.and_true]
          exact (k1.trans k2).trans k4
def I54 (σ0 : St) (fk fv : Val → Bool) (l : List Val) : Nat → (Nat → V) → St → Prop := fun i e σ => e 10 = .int .i64 i ∧ i ≤ l.length ∧ i % 2 = 0 ∧ (∀ j, j < i → okAt fk fv l j = true) ∧ Keep σ0 σ
theorem fits_map {T : Ty} {ks vs : List UInt8} {fk fv : Val → Bool} (hT : tyD T ≤ 4) (hls : listS (tyB T) = [] ∧ isListS (tyB T) = false ∧ keyS (tyB T) = ks ∧ valS (tyB T) = vs ∧ isMapS (tyB T) = true)
    (b1 : decide (tyB T = [105, 110, 116]) = false) (b2 : decide (tyB T = [98, 111, 111, 108]) = false) (b3 : decide (tyB T = [116, 101, 120, 116]) = false)
    (Hk : FitOk 41 ks fk) (Hv : FitOk 41 vs fv) : FitOk 41 (tyB T) (fitMap fk fv) := by
  intro v c σ hwt ha
  have key : ∃ q σ', Does Try.prog prims 41 [.agg c, .str (tyB T)] σ q σ' ∧ q = .ret (.bool (fitMap fk fv v)) ∧ Keep σ σ' := by
    obtain ⟨k, n, t, l, w, rfl, rfl, hw, ik, im⟩ := ha.inv
    apply k41_is.does (by simp)
    obtain ⟨σ2, hσ2⟩ : ∃ σ2 : St, σ2 = ⟨σ.objs ++ [Ob.cells [.int .i64 k, .int .i64 n, .str t, w]], σ.toks⟩ := ⟨_, rfl⟩
    have hk2 : Keep σ σ2 := by rw [hσ2]; exact (Keep.refl σ).push _
    have q2 : IsV σ2 σ.objs.length [.int .i64 k, .int .i64 n, .str t, w] := by rw [hσ2]; exact push_new _ _
    have hlen := tyB_len T
    rw [weight] at hwt
    have hll := weights_len l
    unfold fitMap
    simp only [k41_a, WK, vop, evAll, evOpt, evParts, vbuiltin, vun, vextract, Nat.reduceLT, Nat.reduceEqDiff, ↓reduceIte, reduceCtorEq, Nat.reduceAdd, Int.reduceLT, Int.reduceNeg, valloc_std, noSB, vhot, List.getD_cons_zero, List.getD_cons_succ, ofVal_str, strBin, FV0, FV1, FV2, FV3, q2.kind, q2.num, q2.text, q2.list, hw.len, vbox, vcells, ← hσ2, b1, b2, b3]
    obtain ⟨g1, g2, g3, g4, g5⟩ := hls
    have hd := vlist_does (tyB T) (by omega) σ2
    rw [g1, g2] at hd
    obtain ⟨s3, hs3⟩ : ∃ s3 : St, s3 = ⟨(σ2.objs ++ [Ob.cells [.str []]]).set σ2.objs.length (Ob.cells [.str []]), σ2.toks⟩ := ⟨_, rfl⟩
    have k3 : Keep σ2 s3 := by rw [hs3]; exact ((Keep.refl σ2).push _).setNew (Nat.le_refl _) _
    have hst : vstore Try.prog ⟨σ2.objs ++ [Ob.cells [.str []]], σ2.toks⟩ 9 (.optr σ2.objs.length 0) (.str []) = some s3 := by
      rw [hs3]
      have h0 : (⟨σ2.objs ++ [Ob.cells [V.str []]], σ2.toks⟩ : St).objs[σ2.objs.length]? = some (.cells [.str []]) := push_new _ _
      exact vstore_obj h0 S9 rfl (by simp)
    have hm := vmap_does (tyB T) (by omega) s3
    rw [g3, g4, g5] at hm
    have q3 := k3.atV q2
    have ht : Int.tmod (l.length : Int) 2 = (l.length : Int) % 2 := Int.tmod_eq_emod_of_nonneg (by omega)
    have e20 : ((2 : Int) = 0) = False := eq_false (by decide)
    rcases (((Classical.em (n = 0)).elim (fun h0 => Or.inr ((Classical.em (t = [])).elim (fun h1 => Or.inr (⟨h0, h1⟩)) (fun h1 => Or.inl ⟨h0, h1⟩))) (fun h0 => Or.inl h0)) : (¬ (n = 0) ∨ (n = 0) ∧ ¬ (t = []) ∨ (n = 0) ∧ (t = []))) with h | h | h
    · simp only [k41_a, WK, vop, evAll, evOpt, evParts, vbuiltin, vun, vextract, Nat.reduceLT, Nat.reduceEqDiff, ↓reduceIte, reduceCtorEq, Nat.reduceAdd, Int.reduceLT, Int.reduceNeg, valloc_std, noSB, vhot, List.getD_cons_zero, List.getD_cons_succ, ofVal_str, strBin, FV0, FV1, FV2, FV3, q2.kind, q2.num, q2.text, q2.list, hw.len, h, b1, b2, b3, eq_self, Bool.true_and, Bool.false_and, Bool.and_true]
      exact hk2
    · simp only [k41_a, WK, vop, evAll, evOpt, evParts, vbuiltin, vun, vextract, Nat.reduceLT, Nat.reduceEqDiff, ↓reduceIte, reduceCtorEq, Nat.reduceAdd, Int.reduceLT, Int.reduceNeg, valloc_std, noSB, vhot, List.getD_cons_zero, List.getD_cons_succ, ofVal_str, strBin, FV0, FV1, FV2, FV3, q2.kind, q2.num, q2.text, q2.list, hw.len, h, b1, b2, b3, eq_self, Bool.true_and, Bool.false_and, Bool.and_true]
      exact hk2
    · simp only [k41_a, WK, vop, evAll, evOpt, evParts, vbuiltin, vun, vextract, Nat.reduceLT, Nat.reduceEqDiff, ↓reduceIte, reduceCtorEq, Nat.reduceAdd, Int.reduceLT, Int.reduceNeg, valloc_std, noSB, vhot, List.getD_cons_zero, List.getD_cons_succ, ofVal_str, strBin, FV0, FV1, FV2, FV3, q2.kind, q2.num, q2.text, q2.list, hw.len, h, b1, b2, b3, eq_self, Bool.true_and, Bool.false_and, Bool.and_true]
      refine KD.ret hd ?_
      simp only [k41_a, WK, vop, evAll, evOpt, evParts, vbuiltin, vun, vextract, Nat.reduceLT, Nat.reduceEqDiff, ↓reduceIte, reduceCtorEq, Nat.reduceAdd, Int.reduceLT, Int.reduceNeg, valloc_std, noSB, vhot, List.getD_cons_zero, List.getD_cons_succ, ofVal_str, strBin, ZS9, vbox, vcells, hst]
      refine KD.ret hm ?_
      simp only [k41_a, WK, vop, evAll, evOpt, evParts, vbuiltin, vun, vextract, Nat.reduceLT, Nat.reduceEqDiff, ↓reduceIte, reduceCtorEq, Nat.reduceAdd, Int.reduceLT, Int.reduceNeg, valloc_std, noSB, vhot, List.getD_cons_zero, List.getD_cons_succ, FV0, FV3, q3.kind, q3.list]
      rcases (((Classical.em (k = 5)).elim (fun h0 => Or.inr ((Classical.em ((l.length : Int) % 2 = 0)).elim (fun h1 => Or.inr ((Classical.em ((l.length : Int) ≤ 128)).elim (fun h2 => Or.inr (⟨h0, h1, h2⟩)) (fun h2 => Or.inl ⟨h0, h1, h2⟩))) (fun h1 => Or.inl ⟨h0, h1⟩))) (fun h0 => Or.inl h0)) : (¬ (k = 5) ∨ (k = 5) ∧ ¬ ((l.length : Int) % 2 = 0) ∨ (k = 5) ∧ ((l.length : Int) % 2 = 0) ∧ ¬ ((l.length : Int) ≤ 128) ∨ (k = 5) ∧ ((l.length : Int) % 2 = 0) ∧ ((l.length : Int) ≤ 128))) with hh | hh | hh | hh
      · simp only [k41_a, WK, vop, evAll, evOpt, evParts, vbuiltin, vun, vextract, Nat.reduceLT, Nat.reduceEqDiff, ↓reduceIte, reduceCtorEq, Nat.reduceAdd, Int.reduceLT, Int.reduceNeg, valloc_std, noSB, vhot, List.getD_cons_zero, List.getD_cons_succ, FV0, FV3, q3.list, hw.len, hh, eq_self, Bool.true_and, Bool.false_and, Bool.and_true]
        exact hk2.trans k3
      · simp only [k41_a, WK, vop, evAll, evOpt, evParts, vbuiltin, vun, vextract, Nat.reduceLT, Nat.reduceEqDiff, ↓reduceIte, reduceCtorEq, Nat.reduceAdd, Int.reduceLT, Int.reduceNeg, valloc_std, noSB, vhot, List.getD_cons_zero, List.getD_cons_succ, FV0, FV3, q3.list, hw.len, ht, e20, hh, eq_self, Bool.true_and, Bool.false_and, Bool.and_true]
        exact hk2.trans k3
      · have hgt : (128 : Int) < l.length := by omega
        simp only [k41_a, WK, vop, evAll, evOpt, evParts, vbuiltin, vun, vextract, Nat.reduceLT, Nat.reduceEqDiff, ↓reduceIte, reduceCtorEq, Nat.reduceAdd, Int.reduceLT, Int.reduceNeg, valloc_std, noSB, vhot, List.getD_cons_zero, List.getD_cons_succ, FV0, FV3, q3.list, hw.len, ht, e20, hh, hgt, eq_self, Bool.true_and, Bool.false_and, Bool.and_true]
        exact hk2.trans k3
      · have hgt : ¬ (128 : Int) < l.length := by omega
        have hev : l.length % 2 = 0 := by omega
        simp only [k41_a, WK, vop, evAll, evOpt, evParts, vbuiltin, vun, vextract, Nat.reduceLT, Nat.reduceEqDiff, ↓reduceIte, reduceCtorEq, Nat.reduceAdd, Int.reduceLT, Int.reduceNeg, valloc_std, noSB, vhot, List.getD_cons_zero, List.getD_cons_succ, FV0, FV3, q3.list, hw.len, ht, e20, hh, hgt, eq_self, Bool.true_and, Bool.false_and, Bool.and_true]
        refine Ev.loopF (I54 s3 fk fv l) (fun i => l.length - i) 0 ⟨by simp [upd_some], by simp, by simp, fun j hj => by omega, Keep.refl _⟩ ?_
        rintro i e σ1 ⟨h10, hi, hie, hall, hk⟩ hf
        have h2 : e 2 = .optr σ.objs.length 0 := (hf 2 (by decide)).trans (by simp [upd_some])
        have h7 : e 7 = .str ks := (hf 7 (by decide)).trans (by simp [upd_some])
        have h8 : e 8 = .str vs := (hf 8 (by decide)).trans (by simp [upd_some])
        clear hf
        have q4 := hk.atV q3
        by_cases hlt : i < l.length
        · have hlt' : (i : Int) < l.length := by omega
          have hwi : IntKind.i64.wrap ((i : Int) + 2) = ((i + 2 : Nat) : Int) := by rw [show ((i : Int) + 2) = ((i + 2 : Nat) : Int) from by omega]; exact wrap_nat (by omega)
          have hi1 : i + 1 < l.length := by omega
          simp only [(vE k41_l0.eq_1), (oE k41_r16.eq_1), WK, vop, evAll, evOpt, evParts, vbuiltin, vun, vextract, Nat.reduceLT, Nat.reduceEqDiff, ↓reduceIte, reduceCtorEq, Nat.reduceAdd, Int.reduceLT, Int.reduceNeg, valloc_std, noSB, vhot, h2, h10, FV3, q4.list, hw.len, hlt']
          rw [← Ev_region]
          refine Ev.cut (pair_step (t := t) (k := k) (n := n) Hk Hv hw (by omega) hi1 hie (q := σ.objs.length) (by simp [upd_some, h2]) (by simp [upd_some, h7]) (by simp [upd_some, h8]) (by simp [upd_some, h10]) (by exact q4)) ?_
          rintro x e' s5 ⟨rfl, k5, h174⟩ hwr
          have h10' : e' 10 = .int .i64 i := (hwr 10 (by decide)).trans (by simp [upd_some, h10])
          clear hwr
          cases hA : okAt fk fv l i with
          | false =>
            rw [hA] at h174
            simp only [(oE k41_r19.eq_1), WK, vop, evAll, evOpt, evParts, vbuiltin, vun, vextract, Nat.reduceLT, Nat.reduceEqDiff, ↓reduceIte, reduceCtorEq, Nat.reduceAdd, Int.reduceLT, Int.reduceNeg, valloc_std, noSB, vhot, h174, Bool.false_and]
            exact ⟨by rw [okAll_false hlt hA], (hk2.trans k3).trans (hk.trans k5)⟩
          | true =>
            cases hB : okAt fk fv l (i + 1) with
            | false =>
              rw [hA, hB] at h174
              simp only [(oE k41_r19.eq_1), WK, vop, evAll, evOpt, evParts, vbuiltin, vun, vextract, Nat.reduceLT, Nat.reduceEqDiff, ↓reduceIte, reduceCtorEq, Nat.reduceAdd, Int.reduceLT, Int.reduceNeg, valloc_std, noSB, vhot, h174, Bool.and_false]
              exact ⟨by rw [okAll_false hi1 hB], (hk2.trans k3).trans (hk.trans k5)⟩
            | true =>
              rw [hA, hB] at h174
              simp only [(oE k41_r17.eq_1), WK, vop, evAll, evOpt, evParts, vbuiltin, vun, vextract, Nat.reduceLT, Nat.reduceEqDiff, ↓reduceIte, reduceCtorEq, Nat.reduceAdd, Int.reduceLT, Int.reduceNeg, valloc_std, noSB, vhot, h174, Bool.and_true, h10', hwi]
              refine ⟨i + 2, ⟨by simp [upd_some], by omega, by omega, ?_, hk.trans k5⟩, by omega⟩
              intro j hj
              rcases Nat.lt_or_ge j i with h9 | h9
              · exact hall j h9
              · have : j = i ∨ j = i + 1 := by omega
                rcases this with rfl | rfl
                · exact hA
                · exact hB
        · have hlt' : ¬ (i : Int) < l.length := by omega
          simp only [(vE k41_l0.eq_1), (oE k41_r16.eq_1), (oE k41_r20.eq_1), WK, vop, evAll, evOpt, evParts, vbuiltin, vun, vextract, Nat.reduceLT, Nat.reduceEqDiff, ↓reduceIte, reduceCtorEq, Nat.reduceAdd, Int.reduceLT, Int.reduceNeg, valloc_std, noSB, vhot, h2, h10, FV3, q4.list, hw.len, hlt']
          exact ⟨by rw [okAll_true fun j hj => hall j (by omega)], (hk2.trans k3).trans hk⟩
  obtain ⟨q, σ', h1, rfl, h3⟩ := key
  exact ⟨σ', h1, h3⟩
theorem fits_does : ∀ (T : Ty), tyD T ≤ 4 → FitOk 41 (tyB T) (fitsT T)
  | .int, _ => fits_int
  | .bool, _ => fits_bool
  | .text, _ => fits_text
  | .list e, h => fits_list h (fits_does e (by simp only [tyD] at h; omega))
  | .mapI e, h => fits_map h (tyS_mapI h) (by simp [tyB, mI]) (by simp [tyB, mI]) (by simp [tyB, mI]) fits_int (fits_does e (by simp only [tyD] at h; omega))
  | .mapT e, h => fits_map h (tyS_mapT h) (by simp [tyB, mT]) (by simp [tyB, mT]) (by simp [tyB, mT]) fits_text (fits_does e (by simp only [tyD] at h; omega))
/-- What Fits answers. -/
def fitsS (s : List UInt8) (v : Val) : Bool := match tyS s with
  | some T => decide ((weight v : Int) ≤ 16384) && fitsT T v
  | none => false
theorem vfits_does {s : List UInt8} {v : Val} {c : List V} (hl : s.length ≤ 4294967296) (σ : St) (hwt : weight v ≤ 4294967296) (ha : ValC v c) : ∃ σ', Does Try.prog prims 21 [.agg c, .str s] σ (.ret (.bool (fitsS s v))) σ' ∧ Keep σ σ' := by
  have key : ∃ q σ', Does Try.prog prims 21 [.agg c, .str s] σ q σ' ∧ q = .ret (.bool (fitsS s v)) ∧ Keep σ σ' := by
    apply k21_is.does (by simp)
    obtain ⟨s1, hs1⟩ : ∃ s1 : St, s1 = ⟨σ.objs ++ [Ob.cells c], σ.toks⟩ := ⟨_, rfl⟩
    have k1 : Keep σ s1 := by rw [hs1]; exact (Keep.refl σ).push _
    have q1 : IsV s1 σ.objs.length c := by rw [hs1]; exact push_new _ _
    simp only [k21_a, WK, vop, evAll, evOpt, evParts, vbuiltin, vun, vextract, Nat.reduceLT, Nat.reduceEqDiff, ↓reduceIte, reduceCtorEq, Nat.reduceAdd, Int.reduceLT, Int.reduceNeg, valloc_std, noSB, vhot, List.getD_cons_zero, List.getD_cons_succ, vbox, vcells, ← hs1]
    refine KD.ret (type_does s hl s1) ?_
    unfold fitsS
    cases h : tyS s with
    | none =>
      simp only [k21_a, WK, vop, evAll, evOpt, evParts, vbuiltin, vun, vextract, Nat.reduceLT, Nat.reduceEqDiff, ↓reduceIte, reduceCtorEq, Nat.reduceAdd, Int.reduceLT, Int.reduceNeg, valloc_std, noSB, vhot, Option.isSome_none]
      exact k1
    | some T =>
      obtain ⟨rfl, h4⟩ := tyS_iff.1 h
      obtain ⟨s2, d2, k2⟩ := weight_does s1 hwt ha
      have q2 := k2.atV q1
      obtain ⟨s3, d3, k3⟩ := fits_does T h4 v c s2 hwt ha
      simp only [k21_a, WK, vop, evAll, evOpt, evParts, vbuiltin, vun, vextract, Nat.reduceLT, Nat.reduceEqDiff, ↓reduceIte, reduceCtorEq, Nat.reduceAdd, Int.reduceLT, Int.reduceNeg, valloc_std, noSB, vhot, List.getD_cons_zero, List.getD_cons_succ, Option.isSome_some, q1.load ha.len]
      refine KD.ret d2 ?_
      by_cases hb : (weight v : Int) ≤ 16384
      · simp only [k21_a, WK, vop, evAll, evOpt, evParts, vbuiltin, vun, vextract, Nat.reduceLT, Nat.reduceEqDiff, ↓reduceIte, reduceCtorEq, Nat.reduceAdd, Int.reduceLT, Int.reduceNeg, valloc_std, noSB, vhot, List.getD_cons_zero, List.getD_cons_succ, hb, q2.load ha.len, Bool.true_and]
        refine KD.ret d3 ?_
        simp only [k21_a, WK, vop, evAll, evOpt, evParts, vbuiltin, vun, vextract, Nat.reduceLT, Nat.reduceEqDiff, ↓reduceIte, reduceCtorEq, Nat.reduceAdd, Int.reduceLT, Int.reduceNeg, valloc_std, noSB, vhot]
        exact (k1.trans k2).trans k3
      · simp only [k21_a, WK, vop, evAll, evOpt, evParts, vbuiltin, vun, vextract, Nat.reduceLT, Nat.reduceEqDiff, ↓reduceIte, reduceCtorEq, Nat.reduceAdd, Int.reduceLT, Int.reduceNeg, valloc_std, noSB, vhot, hb, Bool.false_and]
        exact k1.trans k2
  obtain ⟨q, σ', h1, rfl, h3⟩ := key
  exact ⟨σ', h1, h3⟩
end
end Go.Proofs.Ytplhelapcpcncaa.Q

set_option linter.unusedVariables false
set_option linter.unusedSimpArgs false
namespace Go.Proofs.Ytplhelapcpcncaa.Q
open Go Go.RowKit Go.Proofs
section
variable {k n : Int} {t : List UInt8} {l : List Val} {w : V}
set_option maxRecDepth 100000
def I55 (σ0 : St) (f : Val → Bool) (l : List Val) : Nat → (Nat → V) → St → Prop := fun i e σ => e 75 = .int .i64 i ∧ i ≤ l.length ∧ (l.take i).all f = true ∧ Keep σ0 σ
def I55m (σ0 : St) (fk fv : Val → Bool) (l : List Val) : Nat → (Nat → V) → St → Prop := fun i e σ => e 110 = .int .i64 i ∧ i ≤ l.length ∧ (∀ j, j < i → okAt fk fv l j = true) ∧ Keep σ0 σ
end
end Go.Proofs.Ytplhelapcpcncaa.Q

set_option linter.unusedVariables false
set_option linter.unusedSimpArgs false
set_option maxRecDepth 100000
namespace Go.Proofs.Ytplhelapcpcncaa.Q
open Go Go.RowKit Go.Proofs
def I16 (n : Nat) (σ0 : St) (out : List UInt8) (x : Nat) : Nat → (Nat → V) → St → Prop := fun y e σ => y < 2 ^ 63 ∧ e 1 = .int .i64 y ∧ ∃ bs, OwnV 5 n σ (e 5) bs ∧ Keep σ0 σ ∧ bs ++ putN y = out ++ putN x ∧ bs.length ≤ out.length + 9
end Go.Proofs.Ytplhelapcpcncaa.Q

set_option linter.unusedVariables false
set_option linter.unusedSimpArgs false
namespace Go.Proofs.Ytplhelapcpcncaa.Q
open Go Go.RowKit Go.Proofs
/-! ### The bytes of values -/
def zig (n : Int) : List Int := if 0 ≤ n then [0, n] else [1, -(n + 1)]
def headV (k : Int) (len : Nat) : Int := if k = 5 then ((len / 2 : Nat) : Int) else (len : Int)
mutual
def putV : Val → List UInt8
  | .mk k n t l => if k = 1 then putS (zig n) else if k = 2 then putS [n] else if k = 3 then putS [(t.length : Int)] ++ t else putS [headV k l.length] ++ putL l
def putL : List Val → List UInt8
  | [] => []
  | v :: l => putV v ++ putL l
end
def I60 (σ0 : St) (bs : List UInt8) (l : List Val) : Nat → (Nat → V) → St → Prop := fun i e σ => e 50 = .int .i64 i ∧ i ≤ l.length ∧ BtsV (e 0) (bs ++ putL (l.take i)) ∧ Keep σ0 σ
end Go.Proofs.Ytplhelapcpcncaa.Q

set_option linter.unusedVariables false
set_option linter.unusedSimpArgs false
namespace Go.Proofs.Ytplhelapcpcncaa.Q
open Go Go.RowKit Go.Proofs
/-! ### What fits has parts that fit -/
/-- Its bytes are told. -/
def BOk (a : Val) : Prop := ∀ (c : List V) (σ : St), weight a ≤ 4294967296 → ValC a c → ∃ r σ', Does Try.prog prims 52 [.agg c] σ (.ret r) σ' ∧ Keep σ σ' ∧ BtsV r (putV a)
def I61 (σ0 : St) (m : Nat) (bs : List UInt8) (l : List Val) : Nat → (Nat → V) → St → Prop := fun i e σ => e 51 = .int .i64 i ∧ i ≤ l.length ∧ OwnV 5 m σ (e 3) (bs ++ putL (l.take i)) ∧ Keep σ0 σ
/-- What Encode answers. -/
def encS (s : List UInt8) (v : Val) : List UInt8 × Int := if fitsS s v then (putV v, 0) else ([], 1)
end Go.Proofs.Ytplhelapcpcncaa.Q

set_option linter.unusedVariables false
set_option linter.unusedSimpArgs false
set_option maxRecDepth 100000
namespace Go.Proofs.Ytplhelapcpcncaa.Q
open Go Go.RowKit Go.Proofs
def typesL : List (List UInt8) := [[105, 110, 116], [98, 111, 111, 108], [116, 101, 120, 116], [91, 105, 110, 116, 93], [123, 105, 110, 116, 58, 105, 110, 116, 125]]
def listV : Val → List Val
  | .mk _ _ _ l => l
def typeC (v : Val) : List UInt8 := if listV v = [] then (typesL.find? (fun s => fitsS s v)).getD [] else []
theorem SlS : Try.prog.underlying 49 = some (.slice 9) := by kernel_rfl
theorem SS9 : sizeT Try.prog 9 = some 1 := by kernel_rfl
theorem SG9 : isAggT Try.prog 9 = some false := by kernel_rfl
theorem TB5 : vbuildSlice Try.prog 49 5 [(0, .str [105, 110, 116]), (1, .str [98, 111, 111, 108]), (2, .str [116, 101, 120, 116]), (3, .str [91, 105, 110, 116, 93]), (4, .str [123, 105, 110, 116, 58, 105, 110, 116, 125])] = some (.slice .exact 1 (typesL.map V.str) 5) := by kernel_rfl
theorem ofVal_t1 : ofVal (.string (ByteArray.mk #[105, 110, 116])) = some (.str [105, 110, 116]) := rfl
theorem ofVal_t2 : ofVal (.string (ByteArray.mk #[98, 111, 111, 108])) = some (.str [98, 111, 111, 108]) := rfl
theorem ofVal_t3 : ofVal (.string (ByteArray.mk #[116, 101, 120, 116])) = some (.str [116, 101, 120, 116]) := rfl
theorem ofVal_t4 : ofVal (.string (ByteArray.mk #[91, 105, 110, 116, 93])) = some (.str [91, 105, 110, 116, 93]) := rfl
theorem ofVal_t5 : ofVal (.string (ByteArray.mk #[123, 105, 110, 116, 58, 105, 110, 116, 125])) = some (.str [123, 105, 110, 116, 58, 105, 110, 116, 125]) := rfl
theorem ofVal_t0 : ofVal (.string (ByteArray.mk #[])) = some (.str []) := rfl
theorem typ_at {i : Nat} (h : i < 5) : vindexAddr Try.prog 49 (.slice .exact 1 (typesL.map V.str) 5) (.int .i64 (i : Int)) = some (.eptr (typesL.map V.str) i) := by
  have h' : (i : Int) < 5 := by omega
  simp [vindexAddr, SlS, SS9, h', typesL]
theorem typ_load {i : Nat} (h : i < 5) (objs : List Ob) : vload Try.prog objs 9 (.eptr (typesL.map V.str) i) = some (.str (typesL[i]'h)) := by
  simp [vload, vcellsAt, vpart, SG9, List.getElem?_eq_getElem (show i < typesL.length from h)]
  rfl
theorem typ_len {i : Nat} (h : i < 5) : (typesL[i]'h).length ≤ 100 ∧ typesL[i]'h ≠ [] := by
  have : ∀ m ∈ typesL, m.length ≤ 100 ∧ m ≠ [] := by decide
  exact this _ (List.getElem_mem _)
theorem VF3 (r o : Nat) : vfieldAddr Try.prog 29 (.optr r o) 3 = some (.optr r (o + 3)) := by kernel_rfl
theorem VGA : isAggT Try.prog 29 = some true := by kernel_rfl
theorem find_drop {p : List UInt8 → Bool} {l : List (List UInt8)} {i : Nat} (h : i < l.length) (hp : p l[i] = false) : (l.drop i).find? p = (l.drop (i + 1)).find? p := by
  rw [List.drop_eq_getElem_cons h, List.find?_cons_of_neg (by simp [hp])]
theorem ctype_does {σ : St} {v : Val} {c : List V} (hw : weight v ≤ 4294967296) (ha : ValC v c) : ∃ σ', Does Try.prog prims 10 [.agg c] σ (.ret (.str (typeC v))) σ' ∧ Keep σ σ' := by
  have key : ∃ q σ', Does Try.prog prims 10 [.agg c] σ q σ' ∧ q = .ret (.str (typeC v)) ∧ Keep σ σ' := by
    apply k10_is.does (by simp)
    obtain ⟨k, n, t, l, w, rfl, hc, hl, _⟩ := ha.inv
    obtain ⟨s1, hs1⟩ : ∃ s1 : St, s1 = ⟨σ.objs ++ [Ob.cells c], σ.toks⟩ := ⟨_, rfl⟩
    have k1 : Keep σ s1 := by rw [hs1]; exact (Keep.refl σ).push _
    have o1 : s1.objs[σ.objs.length]? = some (.cells c) := by rw [hs1]; exact push_new _ _
    simp only [k10_a, WK, vop, evAll, evOpt, evParts, vbuiltin, vun, vextract, Nat.reduceLT, Nat.reduceEqDiff, ↓reduceIte, reduceCtorEq, Nat.reduceAdd, Int.reduceLT, Int.reduceNeg, valloc_std, noSB, vhot, vbox, vcells, ← hs1, ofVal_t0, ofVal_t1, ofVal_t2, ofVal_t3, ofVal_t4, ofVal_t5, TB5, (show vlen Try.prog 49 (.slice .exact 1 (typesL.map V.str) 5) = some (.int .i64 5) from by simp [vlen, SlS])]
    refine Ev.loopF (fun (i : Nat) e σ' => e 7 = .int .i64 (i : Nat) ∧ i ≤ 5 ∧ Keep s1 σ' ∧ typeC (.mk k n t l) = if l = [] then ((typesL.drop i).find? (fun s => fitsS s (.mk k n t l))).getD [] else []) (fun i => 5 - i) 0 ⟨by simp [upd_some], Nat.zero_le _, Keep.refl _, rfl⟩ ?_
    rintro i e σ' ⟨h7, hi, hk, hT⟩ hf
    have h1 : e 1 = .optr σ.objs.length 0 := (hf 1 (by decide)).trans (by simp [upd_some])
    have h5 : e 5 = .slice .exact 1 (typesL.map V.str) 5 := (hf 5 (by decide)).trans (by simp [upd_some])
    have h6 : e 6 = .int .i64 5 := (hf 6 (by decide)).trans (by simp [upd_some])
    clear hf
    have o2 := hk.1 _ _ o1
    have ldl : vload Try.prog σ'.objs 22 (.optr σ.objs.length 3) = some w := by rw [vload_obj o2 VsG, hc]; rfl
    have ldv : vload Try.prog σ'.objs 29 (.optr σ.objs.length 0) = some (.agg c) := vload_agg o2 VGA (by rw [ha.len]; exact VS24)
    by_cases hlt : i < 5
    · have hlt' : (i : Int) < 5 := by omega
      have hwi : IntKind.i64.wrap ((i : Int) + 1) = ((i + 1 : Nat) : Int) := by rw [show ((i : Int) + 1) = ((i + 1 : Nat) : Int) from by omega]; exact wrap_nat (by omega)
      by_cases hnl : l = []
      · have hl0 : ((l.length : Nat) : Int) = 0 := by rw [hnl]; rfl
        have hl0' : (((l.length : Nat) : Int) = 0) = True := eq_true hl0
        obtain ⟨s2, d2, k2⟩ := vfits_does (s := typesL[i]'hlt) (by have := (typ_len hlt).1; omega) σ' hw ha
        simp only [k10_a, WK, vop, evAll, evOpt, evParts, vbuiltin, vun, vextract, Nat.reduceLT, Nat.reduceEqDiff, ↓reduceIte, reduceCtorEq, Nat.reduceAdd, Int.reduceLT, Int.reduceNeg, valloc_std, noSB, vhot, h1, h5, h6, h7, hlt', typ_at hlt, typ_load hlt, VF3, ldl, hl.len, hl0', ldv]
        refine KD.ret d2 ?_
        cases hb : fitsS (typesL[i]'hlt) (.mk k n t l) with
        | true =>
          simp only [k10_a, WK, vop, evAll, evOpt, evParts, vbuiltin, vun, vextract, Nat.reduceLT, Nat.reduceEqDiff, ↓reduceIte, reduceCtorEq, Nat.reduceAdd, Int.reduceLT, Int.reduceNeg, valloc_std, noSB, vhot]
          refine ⟨?_, (k1.trans hk).trans k2⟩
          rw [hT, if_pos hnl, List.drop_eq_getElem_cons (show i < typesL.length from hlt), List.find?_cons_of_pos (by exact hb)]
          rfl
        | false =>
          simp only [k10_a, WK, vop, evAll, evOpt, evParts, vbuiltin, vun, vextract, Nat.reduceLT, Nat.reduceEqDiff, ↓reduceIte, reduceCtorEq, Nat.reduceAdd, Int.reduceLT, Int.reduceNeg, valloc_std, noSB, vhot, h7, hwi]
          refine ⟨i + 1, ⟨by simp [upd_some], by omega, hk.trans k2, ?_⟩, by omega⟩
          rw [hT, find_drop (show i < typesL.length from hlt) hb]
      · have hl0' : (((l.length : Nat) : Int) = 0) = False := eq_false (fun h => hnl (List.length_eq_zero_iff.1 (by omega)))
        simp only [k10_a, WK, vop, evAll, evOpt, evParts, vbuiltin, vun, vextract, Nat.reduceLT, Nat.reduceEqDiff, ↓reduceIte, reduceCtorEq, Nat.reduceAdd, Int.reduceLT, Int.reduceNeg, valloc_std, noSB, vhot, h1, h5, h6, h7, hlt', typ_at hlt, typ_load hlt, VF3, ldl, hl.len, hl0', hwi]
        exact ⟨i + 1, ⟨by simp [upd_some], by omega, hk, by rw [hT, if_neg hnl, if_neg hnl]⟩, by omega⟩
    · have hlt' : ¬ (i : Int) < 5 := by omega
      simp only [k10_a, WK, vop, evAll, evOpt, evParts, vbuiltin, vun, vextract, Nat.reduceLT, Nat.reduceEqDiff, ↓reduceIte, reduceCtorEq, Nat.reduceAdd, Int.reduceLT, Int.reduceNeg, valloc_std, noSB, vhot, h6, h7, hlt', ofVal_t0]
      refine ⟨?_, k1.trans hk⟩
      rw [hT, show i = 5 by omega]
      split <;> rfl
  obtain ⟨q, σ', h1, rfl, h2⟩ := key
  exact ⟨σ', h1, h2⟩
end Go.Proofs.Ytplhelapcpcncaa.Q

set_option linter.unusedVariables false
set_option linter.unusedSimpArgs false
set_option maxRecDepth 100000
namespace Go.Proofs.Ytplhelapcpcncaa.Q
open Go Go.RowKit Go.Proofs
end Go.Proofs.Ytplhelapcpcncaa.Q

/- Written rows of numbers and of truths. -/
set_option linter.unusedVariables false
set_option linter.unusedSimpArgs false
set_option maxRecDepth 100000
namespace Go.Proofs.Ytplhelapcpcncaa.Q
open Go Go.RowKit Go.Proofs
/-- v is the front of object r, that has these numbers there. -/
def HI (σ : St) (v : V) (r : Nat) (xs : List Int) : Prop := v = .hslice r 0 1 xs.length ∧ ∃ cs, σ.objs[r]? = some (.cells cs) ∧ xs.length ≤ cs.length ∧ cs.take xs.length = xs.map i64V ∧ cs.all one = true
theorem HI.keepX {σ σ' : St} {v : V} {r q : Nat} {xs : List Int} (h : HI σ v r xs) (hk : KeepX q σ σ') (hne : r ≠ q) : HI σ' v r xs := let ⟨h1, cs, h2, h3⟩ := h; ⟨h1, cs, hk.1 _ _ hne h2, h3⟩
theorem HI.keep {σ σ' : St} {v : V} {r : Nat} {xs : List Int} (h : HI σ v r xs) (hk : Keep σ σ') : HI σ' v r xs := let ⟨h1, cs, h2, h3⟩ := h; ⟨h1, cs, hk.1 _ _ h2, h3⟩
theorem HI.lt {σ : St} {v : V} {r : Nat} {xs : List Int} (h : HI σ v r xs) : r < σ.objs.length := let ⟨_, cs, h2, _⟩ := h; (List.getElem?_eq_some_iff.1 h2).1
theorem IU : Try.prog.underlying 70 = some (.slice 3) := by kernel_rfl
theorem IB : (Try.prog.info? 3).map (·.bytes) = some 8 := by kernel_rfl
theorem IZ : zeroT Try.prog 3 = some (.int .i64 0) := by kernel_rfl
theorem HI.len {σ : St} {v : V} {r : Nat} {xs : List Int} (h : HI σ v r xs) : vlen Try.prog 70 v = some (.int .i64 (xs.length : Nat)) := by
  rw [h.1]; simp [vlen, IU]
theorem HI.addr {σ : St} {v : V} {r : Nat} {xs : List Int} (h : HI σ v r xs) {i : Nat} (hi : i < xs.length) : vindexAddr Try.prog 70 v (.int .i64 (i : Int)) = some (.optr r i) := by
  have hi' : (i : Int) < xs.length := by omega
  rw [h.1]; simp [vindexAddr, IU, S3, hi']
theorem HI.load {σ : St} {v : V} {r : Nat} {xs : List Int} (h : HI σ v r xs) {i : Nat} (hi : i < xs.length) : vload Try.prog σ.objs 3 (.optr r i) = some (.int .i64 xs[i]) := by
  obtain ⟨_, cs, h2, h3, h4, _⟩ := h
  rw [vload_obj h2 G3]
  have := congrArg (·[i]?) h4
  simp only [List.getElem?_take_of_lt hi, List.getElem?_map, List.getElem?_eq_getElem hi] at this
  simpa [i64V] using this
theorem HI.set {σ : St} {v : V} {r : Nat} {xs : List Int} (h : HI σ v r xs) {i : Nat} (hi : i < xs.length) (x : Int) : ∃ σ', vstore Try.prog σ 3 (.optr r i) (.int .i64 x) = some σ' ∧ HI σ' v r (xs.set i x) ∧ KeepX r σ σ' ∧ σ'.objs.length = σ.objs.length := by
  obtain ⟨h1, cs, h2, h3, h4, h5⟩ := h
  obtain ⟨σ', hs⟩ : ∃ σ' : St, σ' = ⟨σ.objs.set r (.cells (cs.set i (.int .i64 x))), σ.toks⟩ := ⟨_, rfl⟩
  obtain ⟨k, hk⟩ := KeepX.set_eq h2 hs
  refine ⟨σ', by rw [vstore_obj h2 S3 rfl (by omega), hs], ⟨by rw [List.length_set]; exact h1, _, hk, by rw [List.length_set, List.length_set]; exact h3, ?_, ?_⟩, k, by rw [hs]; simp⟩
  · rw [List.length_set, List.take_set, h4, List.map_set]; rfl
  · rw [List.all_eq_true] at h5 ⊢
    intro y hy
    rcases List.mem_or_eq_of_mem_set hy with h6 | rfl
    · exact h5 y h6
    · rfl
/-- Such a row is made. -/
theorem HI.make (σ : St) {n : Nat} (hn : n ≤ 1000000) : ∃ v σ', vmakeRow Try.prog σ 70 (.int .i64 (n : Int)) (.int .i64 (n : Int)) = some (v, σ') ∧ HI σ' v σ.objs.length (List.replicate n 0) ∧ Keep σ σ' ∧ σ'.objs.length = σ.objs.length + 1 := by
  have hz : zeroCellsV [V.int .i64 0] n = (List.replicate n (0 : Int)).map i64V := by
    apply List.ext_getElem?
    intro i
    simp only [zeroCellsV, List.getElem?_map, List.getElem?_range', List.getElem?_replicate]
    by_cases h : i < n
    · simp [h, i64V, Nat.mod_one]
    · simp [h]
  refine ⟨.hslice σ.objs.length 0 1 n, ⟨σ.objs ++ [.cells ((List.replicate n (0 : Int)).map i64V)], σ.toks⟩, ?_, ⟨by rw [List.length_replicate], _, push_new _ _, by simp, List.take_of_length_le (by simp), ?_⟩, (Keep.refl σ).push _, by simp⟩
  · have h1 : 8 * n ≤ 140737488355328 := by omega
    have h2 : (n : Int) ≤ 140737488355328 := by omega
    simp [vmakeRow, IU, IB, S3, IZ, vcells, h1, h2, hz]
  · rw [List.all_eq_true]
    intro y hy
    rw [List.mem_map] at hy
    obtain ⟨a, _, rfl⟩ := hy
    rfl
theorem HI.lit1 (σ : St) (x : Int) : ∃ σ', vbuildRow Try.prog σ 70 1 [(0, .int .i64 x)] = some (.hslice σ.objs.length 0 1 1, σ') ∧ HI σ' (.hslice σ.objs.length 0 1 1) σ.objs.length [x] ∧ Keep σ σ' ∧ σ'.objs.length = σ.objs.length + 1 := by
  refine ⟨⟨σ.objs ++ [.cells [.int .i64 x]], σ.toks⟩, ?_, ⟨rfl, _, push_new _ _, by simp, rfl, rfl⟩, (Keep.refl σ).push _, by simp⟩
  simp [vbuildRow, IU, S3, IZ, vcells, zeroCellsV, vfill, setAll]
theorem HI.front {σ : St} {v : V} {r : Nat} {xs : List Int} (h : HI σ v r xs) {n : Nat} (hn : n ≤ xs.length) (hl : xs.length ≤ 1000000000) : ∃ w, vslice Try.prog 70 v none (some (.int .i64 (n : Int))) none = some w ∧ HI σ w r (xs.take n) := by
  obtain ⟨h1, cs, h2, h3, h4, h5⟩ := h
  have hb : vbounds xs.length none (some (.int .i64 (n : Int))) none = some (0, n, none) := vbounds_hi (by omega) (by omega)
  refine ⟨.hslice r 0 1 n, by rw [h1]; simp [vslice, IU, S3, hb], by rw [List.length_take, Nat.min_eq_left hn], cs, h2, by rw [List.length_take]; omega, ?_, h5⟩
  rw [List.length_take, Nat.min_eq_left hn, List.map_take, ← h4, List.take_take, Nat.min_eq_left hn]
theorem HI.append {σ : St} {v y : V} {r q : Nat} {xs : List Int} {x : Int} (h : HI σ v r xs) (hy : HI σ y q [x]) (hl : xs.length ≤ 1000000000) :
    ∃ v' σ', vappendRow Try.prog σ 70 70 v y = some (v', σ') ∧ HI σ' v' σ.objs.length (xs ++ [x]) ∧ KeepX r σ σ' ∧ σ'.objs.length = σ.objs.length + 1 := by
  obtain ⟨h1, cs, h2, h3, h4, h5⟩ := h
  obtain ⟨g1, ds, g2, g3, g4, g5⟩ := hy
  have hn : vnewsO Try.prog σ.objs 70 y 1 = some ([.int .i64 x], 1) := by
    rw [g1]
    have g3' : 1 ≤ ds.length := g3
    have g4' : ds.take 1 = [.int .i64 x] := g4
    simp [vnewsO, vnews, IU, g2, g3', g4']
  refine ⟨.hslice σ.objs.length 0 1 (xs.length + 1), ⟨σ.objs.set r .dead ++ [.cells (xs.map i64V ++ [.int .i64 x])], σ.toks⟩, ?_, ⟨by simp, xs.map i64V ++ [.int .i64 x], ?_, by simp, ?_, ?_⟩, ⟨fun p o hp ho => ?_, Nat.le_refl _, fun _ h => h⟩, by simp⟩
  · rw [h1]
    have e1 : xs.length + 1 ≤ 140737488355328 := by omega
    have e2 : (xs.length + 1) * 8 ≤ 140737488355328 := by omega
    simp [vappendRow, IU, IB, S3, IZ, vcells, hn, h2, e1, e2, h3, h4, one]
  · have := push_new (σ.objs.set r .dead) (Ob.cells (xs.map i64V ++ [.int .i64 x]))
    rwa [List.length_set] at this
  · rw [List.take_of_length_le (by simp)]; simp [i64V]
  · rw [List.all_append, Bool.and_eq_true]
    refine ⟨?_, rfl⟩
    rw [List.all_eq_true]
    intro z hz
    rw [List.mem_map] at hz
    obtain ⟨a, _, rfl⟩ := hz
    rfl
  · have hql : p < σ.objs.length := (List.getElem?_eq_some_iff.1 ho).1
    simp only
    rw [List.getElem?_append_left (by rw [List.length_set]; exact hql), List.getElem?_set_ne (Ne.symm hp)]
    exact ho
end Go.Proofs.Ytplhelapcpcncaa.Q

/- One height for each place that is reached: the plain law. -/
set_option linter.unusedVariables false
set_option linter.unusedSimpArgs false
namespace Go.Proofs.Ytplhelapcpcncaa.Q
open Go Go.RowKit Go.Proofs
def nextS (i : Ins) (p : Nat) : List Int := if i.op = 10 then [] else if i.op = 7 then [i.a] else if i.op = 8 then [(p : Int) + 1, i.a] else [(p : Int) + 1]
def gx (xs : List Int) (q : Nat) : Int := xs.getD q (-1)
theorem pushS_ge (i : Ins) : 0 ≤ pushS i := by unfold pushS; split <;> omega
/-- These are heights of all places that are reached. -/
def GoodH (m : Mdl) (f : Fun) (h : Nat → Option Int) : Prop := h 0 = some 0 ∧ ∀ p x, h p = some x → ∃ i, f.code[p]? = some i ∧ 0 ≤ x - popS m i ∧ x - popS m i + pushS i ≤ f.stack ∧ ∀ q ∈ nextS i p, 0 ≤ q ∧ h q.toNat = some (x - popS m i + pushS i)
def DoneH (m : Mdl) (f : Fun) (xs : List Int) (p : Nat) : Prop := ∃ i, f.code[p]? = some i ∧ 0 ≤ gx xs p - popS m i ∧ gx xs p - popS m i + pushS i ≤ f.stack ∧ ∀ q ∈ nextS i p, 0 ≤ q ∧ q < f.code.length ∧ gx xs q.toNat = gx xs p - popS m i + pushS i
/-- What holds of the places known and those to be gone to; but of the place b nothing is said yet. -/
structure HInv (m : Mdl) (f : Fun) (xs ws : List Int) (b : Option Nat) : Prop where
  len : xs.length = f.code.length
  zero : gx xs 0 = 0
  lo : ∀ p, -1 ≤ gx xs p
  wk : ∀ w ∈ ws, 0 ≤ w ∧ w < f.code.length ∧ 0 ≤ gx xs w.toNat
  dn : ∀ p, 0 ≤ gx xs p → some p = b ∨ (p : Int) ∈ ws ∨ DoneH m f xs p
  ok : ∀ h, GoodH m f h → ∀ p, 0 ≤ gx xs p → h p = some (gx xs p)
theorem gx_set {xs : List Int} {q : Nat} {x : Int} (hq : q < xs.length) (p : Nat) : gx (xs.set q x) p = if p = q then x else gx xs p := by
  unfold gx
  rw [List.getD_eq_getElem?_getD, List.getD_eq_getElem?_getD, List.getElem?_set]
  by_cases h : q = p
  · subst h; simp [hq]
  · rw [if_neg h, if_neg (fun e => h e.symm)]
/-- A new place is known. -/
theorem HInv.more {m : Mdl} {f : Fun} {xs ws : List Int} {b : Nat} (H : HInv m f xs ws (some b)) (hb : 0 ≤ gx xs b) {q : Int} {y : Int} (hy : 0 ≤ y) (h0 : 0 ≤ q) (h1 : q < f.code.length) (hq : gx xs q.toNat < 0) (hok : ∀ h, GoodH m f h → h q.toNat = some y) :
    HInv m f (xs.set q.toNat y) (ws ++ [q]) (some b) ∧ (∀ p, 0 ≤ gx xs p → gx (xs.set q.toNat y) p = gx xs p) ∧ gx (xs.set q.toNat y) q.toNat = y := by
  have hql : q.toNat < xs.length := by rw [H.len]; omega
  have hs := gx_set (x := y) hql
  have keep : ∀ p, 0 ≤ gx xs p → gx (xs.set q.toNat y) p = gx xs p := by
    intro p hp
    rw [hs, if_neg (fun e => by rw [e] at hp; omega)]
  refine ⟨⟨by rw [List.length_set]; exact H.len, by rw [keep 0 (by rw [H.zero]; exact Int.le_refl _)]; exact H.zero, fun p => ?_, fun w hw => ?_, fun p hp => ?_, fun h hg p hp => ?_⟩, keep, by rw [hs, if_pos rfl]⟩
  · rw [hs]; split
    · omega
    · exact H.lo p
  · rcases List.mem_append.1 hw with hw | hw
    · obtain ⟨a1, a2, a3⟩ := H.wk w hw
      exact ⟨a1, a2, by rw [keep _ a3]; exact a3⟩
    · rw [List.mem_singleton] at hw
      subst hw
      exact ⟨h0, h1, by rw [hs, if_pos rfl]; exact hy⟩
  · rw [hs] at hp
    by_cases e : p = q.toNat
    · exact .inr (.inl (List.mem_append.2 (.inr (by rw [List.mem_singleton]; omega))))
    · rw [if_neg e] at hp
      rcases H.dn p hp with h2 | h2 | ⟨i, g1, g2, g3, g4⟩
      · exact .inl h2
      · exact .inr (.inl (List.mem_append.2 (.inl h2)))
      · refine .inr (.inr ⟨i, g1, by rw [keep p hp]; exact g2, by rw [keep p hp]; exact g3, fun r hr => ?_⟩)
        obtain ⟨k1, k2, k3⟩ := g4 r hr
        have : 0 ≤ gx xs r.toNat := by rw [k3]; have := pushS_ge i; omega
        exact ⟨k1, k2, by rw [keep _ this, keep p hp]; exact k3⟩
  · rw [hs] at hp ⊢
    by_cases e : p = q.toNat
    · rw [if_pos e, e]; exact hok h hg
    · rw [if_neg e] at hp ⊢; exact H.ok h hg p hp
/-- Nothing is left to be gone to. -/
theorem HInv.good {m : Mdl} {f : Fun} {xs : List Int} (H : HInv m f xs [] none) : ∃ h, GoodH m f h := by
  refine ⟨fun p => if 0 ≤ gx xs p then some (gx xs p) else none, by simp [H.zero], fun p x hp => ?_⟩
  by_cases h0 : 0 ≤ gx xs p
  · simp only [h0, if_true] at hp
    injection hp with hp
    subst hp
    rcases H.dn p h0 with h | h | ⟨i, g1, g2, g3, g4⟩
    · cases h
    · cases h
    · refine ⟨i, g1, g2, g3, fun q hq => ?_⟩
      obtain ⟨k1, k2, k3⟩ := g4 q hq
      have : 0 ≤ gx xs q.toNat := by rw [k3]; have := pushS_ge i; omega
      exact ⟨k1, by simp only; rw [if_pos this, k3]⟩
  · simp only [h0, if_false] at hp
    cases hp
/-- A place is done. -/
theorem HInv.close {m : Mdl} {f : Fun} {xs ws : List Int} {b : Nat} (H : HInv m f xs ws (some b)) (hd : DoneH m f xs b) : HInv m f xs ws none :=
  ⟨H.len, H.zero, H.lo, H.wk, fun p hp => by
    rcases H.dn p hp with h | h | h
    · injection h with h; subst h; exact .inr (.inr hd)
    · exact .inr (.inl h)
    · exact .inr (.inr h), H.ok⟩
end Go.Proofs.Ytplhelapcpcncaa.Q

set_option linter.unusedVariables false
set_option linter.unusedSimpArgs false
set_option maxRecDepth 100000
namespace Go.Proofs.Ytplhelapcpcncaa.Q
open Go Go.RowKit Go.Proofs
theorem NZ : zeroT Try.prog 39 = some (.agg [.int .i64 0, .int .i64 0]) := by kernel_rfl
theorem code_load {σ : St} {w : V} {l : List Ins} (h : CodeS σ w l) {n : Nat} (hn : n < l.length) : ∃ p, vindexAddr Try.prog 35 w (.int .i64 (n : Int)) = some p ∧ ∀ σ', Keep σ σ' → vload Try.prog σ'.objs 39 p = some (.agg (insC l[n])) := by
  obtain ⟨p, hp, hat⟩ := RowS.at h NT NS (by omega) hn (kk := .i64)
  rw [flat_part insC_len hn] at hat
  exact ⟨p, hp, fun σ' hk => (hat.keep hk).load NG NS⟩
/-- A variable of an instruction's kind that gets one. -/
theorem insmade (σ : St) (i : Ins) : ∃ s1 s2 : St, s1 = ⟨σ.objs ++ [Ob.cells [.int .i64 0, .int .i64 0]], σ.toks⟩ ∧ vstore Try.prog s1 39 (.optr σ.objs.length 0) (.agg (insC i)) = some s2 ∧ Keep σ s2 ∧ s2.objs[σ.objs.length]? = some (.cells (insC i)) ∧ s2.objs.length = σ.objs.length + 1 := by
  obtain ⟨s1, hs1⟩ : ∃ s1 : St, s1 = ⟨σ.objs ++ [Ob.cells [.int .i64 0, .int .i64 0]], σ.toks⟩ := ⟨_, rfl⟩
  have k1 : Keep σ s1 := by rw [hs1]; exact (Keep.refl σ).push _
  have q1 : s1.objs[σ.objs.length]? = some (.cells [.int .i64 0, .int .i64 0]) := by rw [hs1]; exact push_new _ _
  obtain ⟨s2, e⟩ : ∃ s2 : St, s2 = ⟨s1.objs.set σ.objs.length (.cells (insC i)), s1.toks⟩ := ⟨_, rfl⟩
  obtain ⟨k, hk2⟩ := KeepX.set_eq q1 e
  refine ⟨s1, s2, hs1, by rw [vstore_agg (cs' := insC i) q1 NS rfl rfl, e], ⟨fun q o ho => k.1 q o (by have := (List.getElem?_eq_some_iff.1 ho).1; omega) (k1.1 q o ho), Nat.le_trans k1.2.1 k.2.1, fun j hj => k.2.2 j (k1.2.2 j hj)⟩, hk2, by rw [e, hs1]; simp⟩
theorem Keep.overX2 {σ σ1 σ2 : St} {r : Nat} (h : Keep σ σ1) (h2 : KeepX r σ1 σ2) (hr : σ.objs.length ≤ r) : Keep σ σ2 :=
  ⟨fun q o ho => h2.1 q o (by have := (List.getElem?_eq_some_iff.1 ho).1; omega) (h.1 q o ho), Nat.le_trans h.2.1 h2.2.1, fun k hk => h2.2.2 k (h.2.2 k hk)⟩
theorem rep_set (N i : Nat) (h : i < N) : (List.replicate i (-1 : Int) ++ List.replicate (N - i) 0).set i (-1) = List.replicate (i + 1) (-1) ++ List.replicate (N - (i + 1)) 0 := by
  apply List.ext_getElem?
  intro j
  simp only [List.getElem?_set, List.getElem?_append, List.getElem?_replicate, List.length_replicate, List.length_append]
  by_cases h1 : i = j
  · subst h1; simp; omega
  · rw [if_neg h1]
    by_cases h2 : j < i
    · simp [h2, show j < i + 1 by omega]
    · simp only [h2, if_false, show ¬ j < i + 1 by omega]
      by_cases h3 : j - i < N - i
      · rw [if_pos h3, if_pos (by omega)]
      · rw [if_neg h3, if_neg (by omega)]
def unk (xs : List Int) : Nat := (xs.filter fun x => decide (x < 0)).length
theorem unk_set : ∀ {xs : List Int} {q : Nat} {y : Int}, gx xs q < 0 → q < xs.length → 0 ≤ y → unk (xs.set q y) + 1 = unk xs
  | [], q, y, _, h, _ => by simp at h
  | x :: xs, 0, y, h, _, hy => by
    have hx : x < 0 := by simpa [gx] using h
    have hy' : ¬ y < 0 := by omega
    simp [unk, hx, hy']
  | x :: xs, q + 1, y, h, hl, hy => by
    have ih := unk_set (xs := xs) (q := q) (y := y) (by simpa [gx] using h) (by simpa using hl) hy
    unfold unk at ih ⊢
    rw [List.set_cons_succ, List.filter_cons, List.filter_cons]
    split <;> (try simp only [List.length_cons]) <;> omega
theorem gx_get {xs : List Int} {p : Nat} (h : p < xs.length) : gx xs p = xs[p] := by
  unfold gx; rw [List.getD_eq_getElem?_getD, List.getElem?_eq_getElem h]; rfl
theorem nb1 (x : Int) : vbuildSlice Try.prog 70 1 [(0, .int .i64 x)] = some (.slice .exact 1 [.int .i64 x] 1) := by kernel_rfl
theorem nb2 (x y : Int) : vbuildSlice Try.prog 70 2 [(0, .int .i64 x), (1, .int .i64 y)] = some (.slice .exact 1 [.int .i64 x, .int .i64 y] 2) := by kernel_rfl
theorem good_lt {m : Mdl} {f : Fun} {h : Nat → Option Int} (hg : GoodH m f h) {p : Nat} {x : Int} (hp : h p = some x) : p < f.code.length := by
  obtain ⟨i, e, _⟩ := hg.2 p x hp
  exact (List.getElem?_eq_some_iff.1 e).1
theorem heights_inner {m : Mdl} {f : Fun} {s3 s8 : St} {rk q fr rw0 : Nat} {v6 v7 nv wc : V} {xs ws nx : List Int} {y : Int}
    (hI : HInv m f xs ws (some q)) (hq0 : 0 ≤ gx xs q) (hy0 : 0 ≤ y) (hy1 : y ≤ 256) (hnx : IntsV nv nx) (hnl : nx.length ≤ 2) (hn0 : ∀ r ∈ nx, 0 ≤ r) (hok : ∀ h, GoodH m f h → ∀ r ∈ nx, h r.toNat = some y)
    (L : ∀ s', Keep s3 s' → vload Try.prog s'.objs 35 (.optr fr 4) = some wc) (lc : vlen Try.prog 35 wc = some (.int .i64 (f.code.length : Nat)))
    (H6 : HI s8 v6 rk xs) (H7 : HI s8 v7 rw0 ws) (hrw : s3.objs.length ≤ rw0) (hne : rw0 ≠ rk) (hk : Keep s3 s8) (hrk : s3.objs.length ≤ rk) (hgx : ∀ p, gx xs p ≤ 256) (hN : f.code.length ≤ 16384) (hM : 2 * unk xs + ws.length ≤ 32768)
    {e : Nat → V} (g5 : e 5 = .optr fr 0) (g6 : e 6 = v6) (g7 : e 7 = v7) (g13 : e 13 = .int .i64 y) (g101 : e 101 = nv) (g102 : e 102 = .int .i64 (nx.length : Nat)) (g103 : e 103 = .int .i64 (0 : Nat)) :
    Ev Try.prog prims 143 (.loop k24_l2) e s8 (fun ex e' σ' => (ex = .exit 5 ∧ ∃ xs' ws' rw', HInv m f xs' ws' (some q) ∧ HI σ' v6 rk xs' ∧ HI σ' (e' 7) rw' ws' ∧ s3.objs.length ≤ rw' ∧ rw' ≠ rk ∧ Keep s3 σ' ∧ 2 * unk xs' + ws'.length ≤ 2 * unk xs + ws.length ∧ (∀ p, gx xs' p ≤ 256) ∧ (∀ p, 0 ≤ gx xs p → gx xs' p = gx xs p) ∧ ∀ r ∈ nx, r < f.code.length ∧ gx xs' r.toNat = y) ∨ (ex = .ret ∧ e' 4 = .bool false ∧ Keep s3 σ' ∧ ¬ ∃ h, GoodH m f h)) := by
  refine Ev.loopF (fun (j : Nat) e' σ' => e' 103 = .int .i64 (j : Nat) ∧ j ≤ nx.length ∧ ∃ xs' ws' rw', HInv m f xs' ws' (some q) ∧ HI σ' v6 rk xs' ∧ HI σ' (e' 7) rw' ws' ∧ s3.objs.length ≤ rw' ∧ rw' ≠ rk ∧ Keep s3 σ' ∧ 2 * unk xs' + ws'.length ≤ 2 * unk xs + ws.length ∧ (∀ p, gx xs' p ≤ 256) ∧ (∀ p, 0 ≤ gx xs p → gx xs' p = gx xs p) ∧ ∀ r ∈ nx.take j, r < f.code.length ∧ gx xs' r.toNat = y) (fun j => nx.length - j) 0 ⟨g103, Nat.zero_le _, xs, ws, rw0, hI, H6, by rw [g7]; exact H7, hrw, hne, hk, Nat.le_refl _, hgx, fun _ _ => rfl, by simp⟩ ?_
  rintro j e' σ' ⟨h103, hj, xs', ws', rw', hI', H6', H7', hrw', hne', hk', hms, hgx', hsame, hdn⟩ hf
  have j5 : e' 5 = .optr fr 0 := (hf 5 (by decide)).trans g5
  have j6 : e' 6 = v6 := (hf 6 (by decide)).trans g6
  have j13 : e' 13 = .int .i64 y := (hf 13 (by decide)).trans g13
  have j101 : e' 101 = nv := (hf 101 (by decide)).trans g101
  have j102 : e' 102 = .int .i64 (nx.length : Nat) := (hf 102 (by decide)).trans g102
  clear hf
  by_cases hlt : j < nx.length
  · have hlt' : (j : Int) < (nx.length : Nat) := by omega
    have hwj : IntKind.i64.wrap ((j : Int) + 1) = ((j + 1 : Nat) : Int) := by rw [show ((j : Int) + 1) = ((j + 1 : Nat) : Int) from by omega]; exact wrap_nat (by omega)
    obtain ⟨r, hr⟩ : ∃ r, r = nx[j] := ⟨_, rfl⟩
    have hrm : r ∈ nx := by rw [hr]; exact List.getElem_mem _
    have hr0 := hn0 r hrm
    have ldr := IntsV.load (P := Try.prog) (objs := σ'.objs) IT hlt
    rw [← hr] at ldr
    have adr := hnx.addr IT (Int.natCast_nonneg j) hlt' (k := .i64)
    have lw := L σ' hk'
    have tk : ∀ (P : Int → Prop), (∀ z ∈ nx.take j, P z) → P r → ∀ z ∈ nx.take (j + 1), P z := by
      intro P h1 h2 z hz
      rw [List.take_succ_eq_append_getElem hlt, List.mem_append] at hz
      rcases hz with hz | hz
      · exact h1 z hz
      · rw [List.mem_singleton] at hz; rw [hz, ← hr]; exact h2
    by_cases hge : (f.code.length : Int) ≤ r
    · simp only [k24_a, WK, vop, evAll, evOpt, evParts, vbuiltin, vun, vextract, Nat.reduceLT, Nat.reduceEqDiff, ↓reduceIte, reduceCtorEq, Nat.reduceAdd, Int.reduceLT, Int.reduceNeg, valloc_std, noSB, vhot, h103, j101, j102, hlt', adr, Int.toNat_natCast, ldr, j5, FF4', lw, lc, hge]
      refine .inr ⟨hk', ?_⟩
      rintro ⟨h, hg⟩
      have := good_lt hg (hok h hg r hrm)
      omega
    obtain ⟨z, rfl⟩ : ∃ z : Nat, r = (z : Int) := ⟨r.toNat, by omega⟩
    have hz : z < xs'.length := by rw [hI'.len]; omega
    have ldk := H6'.load hz
    have hgz := gx_get hz
    have hokz : ∀ h, GoodH m f h → h z = some y := fun h hg => by have := hok h hg _ hrm; rwa [Int.toNat_natCast] at this
    by_cases hk0 : 0 ≤ xs'[z]
    · by_cases hky : xs'[z] = y
      · have hneg : ¬ xs'[z] < 0 := by omega
        simp only [k24_a, WK, vop, evAll, evOpt, evParts, vbuiltin, vun, vextract, Nat.reduceLT, Nat.reduceEqDiff, ↓reduceIte, reduceCtorEq, Nat.reduceAdd, Int.reduceLT, Int.reduceNeg, valloc_std, noSB, vhot, h103, j101, j102, hlt', adr, Int.toNat_natCast, ldr, j5, FF4', lw, lc, hge, j6, H6'.addr hz, ldk, hk0, hky, hy0, j13, decide_true, Bool.not_true, (show ¬ y < 0 by omega), hwj]
        refine ⟨j + 1, ⟨by simp [upd_some], hlt, xs', ws', rw', hI', H6', by simpa [upd_some] using H7', hrw', hne', hk', hms, hgx', hsame, ?_⟩, by omega⟩
        exact tk _ hdn ⟨by omega, by rw [Int.toNat_natCast, hgz]; exact hky⟩
      · have hky' : decide (xs'[z] = y) = false := decide_eq_false hky
        simp only [k24_a, WK, vop, evAll, evOpt, evParts, vbuiltin, vun, vextract, Nat.reduceLT, Nat.reduceEqDiff, ↓reduceIte, reduceCtorEq, Nat.reduceAdd, Int.reduceLT, Int.reduceNeg, valloc_std, noSB, vhot, h103, j101, j102, hlt', adr, Int.toNat_natCast, ldr, j5, FF4', lw, lc, hge, j6, H6'.addr hz, ldk, hk0, hky', j13, Bool.not_false]
        refine .inr ⟨hk', ?_⟩
        rintro ⟨h, hg⟩
        have h1 := hI'.ok h hg z (by rw [hgz]; exact hk0)
        rw [hokz h hg, hgz] at h1
        injection h1 with h1
        exact hky h1.symm
    · have hneg : xs'[z] < 0 := by omega
      obtain ⟨sx, stx, HX, kx, lx⟩ := H6'.set hz y
      have H7x := H7'.keepX kx hne'
      obtain ⟨sy, ly, HY, ky, lly⟩ := HI.lit1 sx (z : Int)
      obtain ⟨v9, sz, az, HZ, kz, lz⟩ := (H7x.keep ky).append HY (by have := hms; omega)
      have hrl := H6'.lt
      have hk9 : Keep s3 sz := ((hk'.overX2 kx hrk).trans ky).overX2 kz hrw'
      have H6z := (HX.keep ky).keepX kz (Ne.symm hne')
      obtain ⟨hI9, hsm9, hgy9⟩ := hI'.more (by rw [hsame q hq0]; exact hq0) (q := (z : Int)) hy0 (by omega) (by omega) (by rw [Int.toNat_natCast, hgz]; exact hneg) (fun h hg => by rw [Int.toNat_natCast]; exact hokz h hg)
      rw [Int.toNat_natCast] at hI9 hsm9 hgy9
      have hu := unk_set (xs := xs') (q := z) (y := y) (by rw [hgz]; exact hneg) hz hy0
      simp only [k24_a, WK, vop, evAll, evOpt, evParts, vbuiltin, vun, vextract, Nat.reduceLT, Nat.reduceEqDiff, ↓reduceIte, reduceCtorEq, Nat.reduceAdd, Int.reduceLT, Int.reduceNeg, valloc_std, noSB, vhot, h103, j101, j102, hlt', adr, Int.toNat_natCast, ldr, j5, FF4', lw, lc, hge, j6, H6'.addr hz, ldk, hk0, hneg, j13, stx, ly, az, hwj]
      refine ⟨j + 1, ⟨by simp [upd_some], hlt, _, _, _, hI9, H6z, by simpa [upd_some] using HZ, by omega, by omega, hk9, by rw [List.length_append, List.length_singleton]; omega, fun p => ?_, fun p hp => by rw [hsm9 p (by rw [hsame p hp]; exact hp)]; exact hsame p hp, ?_⟩, by omega⟩
      · rw [gx_set hz]; split
        · exact hy1
        · exact hgx' p
      · refine tk _ (fun w hw => ⟨(hdn w hw).1, ?_⟩) ⟨by omega, by rw [Int.toNat_natCast]; exact hgy9⟩
        rw [hsm9 w.toNat (by rw [(hdn w hw).2]; exact hy0)]
        exact (hdn w hw).2
  · have hlt' : ¬ (j : Int) < (nx.length : Nat) := by omega
    simp only [k24_a, WK, vop, evAll, evOpt, evParts, vbuiltin, vun, vextract, Nat.reduceLT, Nat.reduceEqDiff, ↓reduceIte, reduceCtorEq, Nat.reduceAdd, Int.reduceLT, Int.reduceNeg, valloc_std, noSB, vhot, h103, j102, hlt']
    refine .inl ⟨xs', ws', rw', hI', H6', H7', hrw', hne', hk', hms, hgx', hsame, ?_⟩
    rw [List.take_of_length_le (by omega)] at hdn
    exact hdn
theorem heights_does {σ : St} {m : Mdl} {c : List V} (hm : MdlS σ m c) {n : Nat} (hn : n < m.funcs.length) (hN : 1 ≤ (m.funcs[n]).code.length ∧ (m.funcs[n]).code.length ≤ 16384) (hst : (m.funcs[n]).stack ≤ 256)
    (hins : ∀ (p : Nat) (hp : p < (m.funcs[n]).code.length), callOk m (m.funcs[n]).code[p] ∧ 0 ≤ popS m (m.funcs[n]).code[p] ∧ popS m (m.funcs[n]).code[p] ≤ 8 ∧ ((m.funcs[n]).code[p].op = 7 ∨ (m.funcs[n]).code[p].op = 8 → 0 ≤ (m.funcs[n]).code[p].a ∧ (m.funcs[n]).code[p].a < (m.funcs[n]).code.length)) :
    ∃ b σ', Does Try.prog prims 24 [.agg c, .int .i64 (n : Int)] σ (.ret (.bool b)) σ' ∧ Keep σ σ' ∧ (b = true ↔ ∃ h, GoodH m m.funcs[n] h) := by
  have key : ∃ q σ', Does Try.prog prims 24 [.agg c, .int .i64 (n : Int)] σ q σ' ∧ ∃ b, q = .ret (.bool b) ∧ Keep σ σ' ∧ (b = true ↔ ∃ h, GoodH m m.funcs[n] h) := by
    apply k24_is.does (by simp)
    have hm0 := hm
    obtain ⟨w1, w2, hc, hv, hf⟩ := hm
    obtain ⟨s1, hs1⟩ : ∃ s1 : St, s1 = ⟨σ.objs ++ [Ob.cells c], σ.toks⟩ := ⟨_, rfl⟩
    have k1 : Keep σ s1 := by rw [hs1]; exact (Keep.refl σ).push _
    have o1 : s1.objs[σ.objs.length]? = some (.cells c) := by rw [hs1]; exact push_new _ _
    obtain ⟨p, cf, hp, hF, hpl⟩ := fun_load hf hn
    obtain ⟨s2, s3, wc, hs2, st3, k3, o3, hcode, hl3⟩ := funmade s1 hF k1
    obtain ⟨f, hfe⟩ : ∃ f, f = m.funcs[n] := ⟨_, rfl⟩
    simp only [← hfe] at hN hst hins
    rw [← hfe] at hF o3 hcode ⊢
    have ldf : vload Try.prog s1.objs 23 (.optr σ.objs.length 1) = some w2 := by rw [vload_obj o1 FsG, hc]; rfl
    have k13 := k1.trans k3
    have L : ∀ s', Keep s3 s' → vload Try.prog s'.objs 35 (.optr s1.objs.length 4) = some wc ∧ vload Try.prog s'.objs 3 (.optr s1.objs.length 3) = some (.int .i64 f.stack) ∧ vload Try.prog s'.objs 25 (.optr σ.objs.length 0) = some (.agg c) := by
      intro s' hk
      have e3 := hk.1 _ _ o3
      have e1 := hk.1 _ _ (k3.1 _ _ o1)
      exact ⟨by rw [vload_obj e3 NsG]; rfl, by rw [vload_obj e3 G3]; rfl, vload_agg e1 MG (by rw [hm0.len]; exact MS)⟩
    have lc : vlen Try.prog 35 wc = some (.int .i64 (f.code.length : Nat)) := RowS.len hcode NT
    obtain ⟨N, hNe⟩ : ∃ N, N = f.code.length := ⟨_, rfl⟩
    rw [← hNe] at lc hN
    obtain ⟨v6, s4, mk4, h6, k4, l4⟩ := HI.make s3 (n := N) (by omega)
    obtain ⟨s5, mk5, h7, k5, l5⟩ := HI.lit1 s4 0
    have h65 := h6.keep k5
    have len6 : vlen Try.prog 70 v6 = some (.int .i64 (N : Nat)) := by have := h6.len; simpa using this
    simp only [k24_a, WK, vop, evAll, evOpt, evParts, vbuiltin, vun, vextract, Nat.reduceLT, Nat.reduceEqDiff, ↓reduceIte, reduceCtorEq, Nat.reduceAdd, Int.reduceLT, Int.reduceNeg, valloc_std, noSB, vhot, vbox, vcells, ← hs1, MF1, ldf, hp, hpl s1 k1, FZ, ← hs2, st3, FF4', (L s3 (Keep.refl _)).1, lc, mk4, mk5, len6]
    refine Ev.loopF (fun (i : Nat) e σ' => e 29 = .int .i64 (i : Nat) ∧ i ≤ N ∧ HI σ' v6 s3.objs.length (List.replicate i (-1) ++ List.replicate (N - i) 0) ∧ HI σ' (.hslice s4.objs.length 0 1 1) s4.objs.length [0] ∧ Keep s3 σ') (fun i => N - i) 0 ⟨by simp [upd_some], Nat.zero_le _, by simpa using h65, h7, k4.trans k5⟩ ?_
    rintro i e σ' ⟨h29, hi, H6, H7, hk⟩ hf
    have g2 : e 2 = .optr σ.objs.length 0 := (hf 2 (by decide)).trans (by simp [upd_some])
    have g5 : e 5 = .optr s1.objs.length 0 := (hf 5 (by decide)).trans (by simp [upd_some])
    have g6 : e 6 = v6 := (hf 6 (by decide)).trans (by simp [upd_some])
    have g7 : e 7 = .hslice s4.objs.length 0 1 1 := (hf 7 (by decide)).trans (by simp [upd_some])
    have g28 : e 28 = .int .i64 (N : Nat) := (hf 28 (by decide)).trans (by simp [upd_some])
    clear hf
    have rne : s3.objs.length ≠ s4.objs.length := by omega
    by_cases hlt : i < N
    · have hlt' : (i : Int) < (N : Nat) := by omega
      have hwi : IntKind.i64.wrap ((i : Int) + 1) = ((i + 1 : Nat) : Int) := by rw [show ((i : Int) + 1) = ((i + 1 : Nat) : Int) from by omega]; exact wrap_nat (by omega)
      have hil : i < (List.replicate i (-1 : Int) ++ List.replicate (N - i) 0).length := by simp; omega
      obtain ⟨sa, hst1, HA, kx, _⟩ := H6.set hil (-1)
      simp only [k24_a, WK, vop, evAll, evOpt, evParts, vbuiltin, vun, vextract, Nat.reduceLT, Nat.reduceEqDiff, ↓reduceIte, reduceCtorEq, Nat.reduceAdd, Int.reduceLT, Int.reduceNeg, valloc_std, noSB, vhot, g6, h29, g28, hlt', H6.addr hil, hst1, hwi]
      exact ⟨i + 1, ⟨by simp [upd_some], by omega, by rw [← rep_set N i hlt]; exact HA, H7.keepX kx (Ne.symm rne), hk.overX2 kx (Nat.le_refl _)⟩, by omega⟩
    have hlt' : ¬ (i : Int) < (N : Nat) := by omega
    have hiN : i = N := by omega
    subst hiN
    rw [Nat.sub_self, List.replicate_zero, List.append_nil] at H6
    have h0l : 0 < (List.replicate i (-1 : Int)).length := by simp; omega
    obtain ⟨sa, hst1, HA, kx, _⟩ := H6.set h0l 0
    have ha0 : vindexAddr Try.prog 70 v6 (.int .i64 0) = some (.optr s3.objs.length 0) := H6.addr h0l
    have H7a := H7.keepX kx (Ne.symm rne)
    have hka := hk.overX2 kx (Nat.le_refl _)
    simp only [k24_a, WK, vop, evAll, evOpt, evParts, vbuiltin, vun, vextract, Nat.reduceLT, Nat.reduceEqDiff, ↓reduceIte, reduceCtorEq, Nat.reduceAdd, Int.reduceLT, Int.reduceNeg, valloc_std, noSB, vhot, g6, h29, g28, hlt', ha0, hst1]
    have inv0 : HInv m f ((List.replicate i (-1 : Int)).set 0 0) [0] none := by
      have gs := gx_set (xs := List.replicate i (-1 : Int)) (x := 0) h0l
      have gr : ∀ p, gx (List.replicate i (-1 : Int)) p = -1 := by
        intro p
        unfold gx
        rw [List.getD_eq_getElem?_getD, List.getElem?_replicate]
        split <;> rfl
      refine ⟨by rw [List.length_set, List.length_replicate]; exact hNe, by rw [gs, if_pos rfl], fun p => by rw [gs, gr]; split <;> omega, fun w hw => ?_, fun p hp => ?_, fun h hg p hp => ?_⟩
      · rw [List.mem_singleton] at hw; subst hw
        exact ⟨Int.le_refl _, by omega, by rw [show (0 : Int).toNat = 0 from rfl, gs, if_pos rfl]; exact Int.le_refl _⟩
      · rw [gs, gr] at hp
        by_cases hp0 : p = 0
        · subst hp0; exact .inr (.inl (by simp))
        · rw [if_neg hp0] at hp; omega
      · rw [gs, gr] at hp
        by_cases hp0 : p = 0
        · subst hp0; rw [gs, if_pos rfl]; exact hg.1
        · rw [if_neg hp0] at hp; omega
    have hu0 : unk ((List.replicate i (-1 : Int)).set 0 0) + 1 = i := by
      rw [unk_set (by unfold gx; rw [List.getD_eq_getElem?_getD, List.getElem?_eq_getElem h0l]; simp) h0l (Int.le_refl _)]
      simp [unk]
    have hg0 : ∀ p, gx ((List.replicate i (-1 : Int)).set 0 0) p ≤ 256 := by
      intro p
      rw [gx_set h0l]
      split
      · omega
      · unfold gx
        rw [List.getD_eq_getElem?_getD, List.getElem?_replicate]
        split <;> simp
    refine Ev.loopF (fun (z : List Int × List Int) e σ' => HInv m f z.1 z.2 none ∧ HI σ' v6 s3.objs.length z.1 ∧ (∃ rw, HI σ' (e 7) rw z.2 ∧ s3.objs.length ≤ rw ∧ rw ≠ s3.objs.length) ∧ Keep s3 σ' ∧ 2 * unk z.1 + z.2.length ≤ 2 * i ∧ ∀ p, gx z.1 p ≤ 256) (fun z => 2 * unk z.1 + z.2.length) ((List.replicate i (-1 : Int)).set 0 0, [0]) ⟨inv0, HA, ⟨s4.objs.length, by simpa [upd_some, g7] using H7a, by omega, by omega⟩, hka, by simp; omega, hg0⟩ ?_
    rintro ⟨xs, ws⟩ e2 sb ⟨hI, H6b, ⟨rw_, H7b, hrw, hne⟩, hkb, hms, hgx⟩ hf
    have j2 : e2 2 = .optr σ.objs.length 0 := (hf 2 (by decide)).trans (by simp [upd_some, g2])
    have j5 : e2 5 = .optr s1.objs.length 0 := (hf 5 (by decide)).trans (by simp [upd_some, g5])
    have j6 : e2 6 = v6 := (hf 6 (by decide)).trans (by simp [upd_some, g6])
    clear hf
    simp only at hI H6b H7b hms hgx
    by_cases hw0 : 0 < ws.length
    · have hw0' : (0 : Int) < (ws.length : Nat) := by omega
      have hwl : ws.length ≤ 32768 := by omega
      obtain ⟨a, ha⟩ : ∃ a, a = ws.length - 1 := ⟨_, rfl⟩
      have hal : a < ws.length := by omega
      have w1' : IntKind.i64.wrap (((ws.length : Nat) : Int) - 1) = ((a : Nat) : Int) := by rw [wrap_i64 (by omega) (by omega)]; omega
      obtain ⟨x, hx⟩ : ∃ x, x = ws[a] := ⟨_, rfl⟩
      have hxm : x ∈ ws := by rw [hx]; exact List.getElem_mem _
      obtain ⟨hx0, hx1, hx2⟩ := hI.wk x hxm
      obtain ⟨q, rfl⟩ : ∃ q : Nat, x = (q : Int) := ⟨x.toNat, by omega⟩
      rw [Int.toNat_natCast] at hx2
      have hq : q < f.code.length := by omega
      have hqx : q < xs.length := by rw [hI.len]; exact hq
      have ld7 := H7b.load hal
      rw [← hx] at ld7
      obtain ⟨v51, sl51, H51⟩ := H7b.front (n := a) (by omega) (by omega)
      obtain ⟨pc, hpc, hlc⟩ := code_load hcode hq
      obtain ⟨ins, hine⟩ : ∃ ins, ins = f.code[q] := ⟨_, rfl⟩
      obtain ⟨s6, s7, hs6, st7, k7, o7, l7⟩ := insmade sb ins
      have ld10 : vload Try.prog s7.objs 39 (.optr sb.objs.length 0) = some (.agg (insC ins)) := vload_agg o7 NG NS
      obtain ⟨hcall, hp0, hp8, hjmp⟩ := hins q hq
      rw [← hine] at hcall hp0 hp8 hjmp
      obtain ⟨s8, d8, k8⟩ := effect_does (hm0.keep ((k13.trans hkb).trans k7)) ins hcall
      have H6d := (H6b.keep k7).keep k8
      have ldk := H6d.load hqx
      have hkd := (hkb.trans k7).trans k8
      have hb := hgx q
      have hlo := hI.lo q
      rw [gx_get hqx] at hb hlo hx2
      have hps := pushS_ge ins
      have hps1 : pushS ins ≤ 1 := by unfold pushS; split <;> omega
      have w2' : IntKind.i64.wrap (xs[q] - popS m ins) = xs[q] - popS m ins := wrap_i64 (by omega) (by omega)
      have w3' : IntKind.i64.wrap (xs[q] - popS m ins + pushS ins) = xs[q] - popS m ins + pushS ins := wrap_i64 (by omega) (by omega)
      have lst := (L s8 hkd).2.1
      have hlcb := hlc sb (k13.trans hkb)
      rw [← hine] at hlcb
      simp only [k24_a, WK, vop, evAll, evOpt, evParts, vbuiltin, vun, vextract, Nat.reduceLT, Nat.reduceEqDiff, ↓reduceIte, reduceCtorEq, Nat.reduceAdd, Int.reduceLT, Int.reduceNeg, valloc_std, noSB, vhot, H7b.len, hw0', w1', H7b.addr hal, ld7, IU, sl51, j5, FF4', (L sb hkb).1, hpc, hlcb, NZ, vbox, vcells, ← hs6, st7, j2, (L s7 (hkb.trans k7)).2.2, ld10]
      refine KD.ret d8 ?_
      have bad : (xs[q] - popS m ins < 0 ∨ f.stack < xs[q] - popS m ins + pushS ins) → ¬ ∃ h, GoodH m f h := by
        rintro hb2 ⟨h, hg⟩
        have h1 := hI.ok h hg q (by rw [gx_get hqx]; exact hx2)
        obtain ⟨i', e1, e2', e3, _⟩ := hg.2 q _ h1
        rw [List.getElem?_eq_getElem hq] at e1
        injection e1 with e1
        rw [← hine] at e1
        subst e1
        rw [gx_get hqx] at e2' e3
        omega
      have kq : Keep σ s8 := k13.trans hkd
      by_cases hlow : xs[q] - popS m ins < 0
      · simp only [k24_a, WK, vop, evAll, evOpt, evParts, vbuiltin, vun, vextract, Nat.reduceLT, Nat.reduceEqDiff, ↓reduceIte, reduceCtorEq, Nat.reduceAdd, Int.reduceLT, Int.reduceNeg, valloc_std, noSB, vhot, j6, H6d.addr hqx, ldk, w2', hlow]
        exact ⟨false, rfl, kq, iff_of_false (by decide) (bad (.inl hlow))⟩
      by_cases hhi : f.stack < xs[q] - popS m ins + pushS ins
      · simp only [k24_a, WK, vop, evAll, evOpt, evParts, vbuiltin, vun, vextract, Nat.reduceLT, Nat.reduceEqDiff, ↓reduceIte, reduceCtorEq, Nat.reduceAdd, Int.reduceLT, Int.reduceNeg, valloc_std, noSB, vhot, j5, j6, H6d.addr hqx, ldk, w2', w3', hlow, FF3', lst, hhi]
        exact ⟨false, rfl, kq, iff_of_false (by decide) (bad (.inr hhi))⟩
      simp only [k24_a, WK, vop, evAll, evOpt, evParts, vbuiltin, vun, vextract, Nat.reduceLT, Nat.reduceEqDiff, ↓reduceIte, reduceCtorEq, Nat.reduceAdd, Int.reduceLT, Int.reduceNeg, valloc_std, noSB, vhot, j5, j6, H6d.addr hqx, ldk, w2', w3', hlow, FF3', lst, hhi, ofVal_nil]
      have ldop : vload Try.prog s8.objs 3 (.optr sb.objs.length 0) = some (.int .i64 ins.op) := by rw [vload_obj (k8.1 _ _ o7) G3]; rfl
      have lda : vload Try.prog s8.objs 3 (.optr sb.objs.length 1) = some (.int .i64 ins.a) := by rw [vload_obj (k8.1 _ _ o7) G3]; rfl
      have hwq : IntKind.i64.wrap ((q : Int) + 1) = ((q + 1 : Nat) : Int) := by rw [wrap_i64 (by omega) (by omega)]; omega
      have hgq : gx xs q = xs[q] := gx_get hqx
      have hsplit : ∀ z, z ∈ ws → z ∈ ws.take a ∨ z = (q : Int) := by
        intro z hz
        obtain ⟨j, hj, rfl⟩ := List.getElem_of_mem hz
        by_cases hja : j < a
        · exact .inl (List.mem_take_iff_getElem.2 ⟨j, by omega, rfl⟩)
        · refine .inr ?_
          rw [hx]
          congr 1
          omega
      have hIo : HInv m f xs (ws.take a) (some q) := ⟨hI.len, hI.zero, hI.lo, fun z hz => hI.wk z (List.mem_of_mem_take hz), fun p hp => by
        rcases hI.dn p hp with h | h | h
        · cases h
        · rcases hsplit _ h with h | h
          · exact .inr (.inl h)
          · exact .inl (by congr 1; omega)
        · exact .inr (.inr h), hI.ok⟩
      have hokn : ∀ h, GoodH m f h → ∀ r ∈ nextS ins q, 0 ≤ r ∧ h r.toNat = some (xs[q] - popS m ins + pushS ins) := by
        intro h hg
        have h1 := hI.ok h hg q (by rw [hgq]; exact hx2)
        obtain ⟨i', e1, _, _, e4⟩ := hg.2 q _ h1
        rw [List.getElem?_eq_getElem hq] at e1
        injection e1 with e1
        rw [← hine] at e1
        subst e1
        rw [hgq] at e4
        exact e4
      obtain ⟨y, hy⟩ : ∃ y, y = xs[q] - popS m ins + pushS ins := ⟨_, rfl⟩
      rw [← hy] at hokn w3'
      have hyl : 0 ≤ y ∧ y ≤ 256 := by omega
      have hakl : (ws.take a).length = a := by rw [List.length_take]; omega
      have fin : ∀ (nx : List Int) (nv : V) (e3 : Nat → V), nextS ins q = nx → IntsV nv nx → nx.length ≤ 2 → (∀ r ∈ nx, 0 ≤ r) → e3 5 = .optr s1.objs.length 0 → e3 6 = v6 → e3 7 = v51 → e3 13 = .int .i64 y → e3 101 = nv → e3 102 = .int .i64 (nx.length : Nat) → e3 103 = .int .i64 (0 : Nat) → _ :=
        fun nx nv e3 hnx h1 h2 h3 e5 e6 e7 e13 e101 e102 e103 => heights_inner (q := q) (y := y) hIo (by rw [hgq]; exact hx2) hyl.1 hyl.2 h1 h2 h3 (fun h hg r hr => (hokn h hg r (by rw [hnx]; exact hr)).2) (fun s' hk => (L s' hk).1) (by rw [← hNe]; exact lc) H6d ((H51.keep k7).keep k8) hrw hne hkd (Nat.le_refl _) hgx (by omega) (by rw [hakl]; omega) e5 e6 e7 e13 e101 e102 e103
      have done : ∀ (nx : List Int) (xs' ws' : List Int), nextS ins q = nx → HInv m f xs' ws' (some q) → (∀ p, 0 ≤ gx xs p → gx xs' p = gx xs p) → (∀ r ∈ nx, 0 ≤ r) → (∀ r ∈ nx, r < f.code.length ∧ gx xs' r.toNat = y) → HInv m f xs' ws' none := by
        intro nx xs' ws' hnx h1 h2 h3 h4
        refine h1.close ⟨ins, by rw [List.getElem?_eq_getElem hq, hine], ?_, ?_, fun r hr => ?_⟩
        · rw [h2 q (by rw [hgq]; exact hx2), hgq]; omega
        · rw [h2 q (by rw [hgq]; exact hx2), hgq]; omega
        · rw [hnx] at hr
          rw [h2 q (by rw [hgq]; exact hx2), hgq, ← hy]
          exact ⟨h3 r hr, h4 r hr⟩
      by_cases h10 : ins.op = 10
      · have e10 : (ins.op = 10) = True := eq_true h10
        simp only [k24_a, WK, vop, evAll, evOpt, evParts, vbuiltin, vun, vextract, Nat.reduceLT, Nat.reduceEqDiff, ↓reduceIte, reduceCtorEq, Nat.reduceAdd, Int.reduceLT, Int.reduceNeg, valloc_std, noSB, vhot, NF0, NF1, ldop, lda, hwq, e10, (show vlen Try.prog 70 .nils = some (.int .i64 ((([] : List Int).length : Nat))) from by simp [vlen, IU])]
        refine Ev.cut (fin [] .nils _ (by simp [nextS, h10]) ⟨.inl ⟨rfl, rfl⟩, by simp⟩ (by simp) (by simp) (by simp [upd_some, j5]) (by simp [upd_some, j6]) (by simp [upd_some]) (by simp only [upd_some, Nat.reduceEqDiff, ↓reduceIte]; rw [hy]) (by simp [upd_some]) (by simp [upd_some]) (by simp [upd_some])) ?_
        rintro ex e' σ' (⟨rfl, xs', ws', rw', b1, b2, b3, b4, b5, b6, b7, b8, b9, b10⟩ | ⟨rfl, ht4, hk9, hng⟩) hfr
        · simp only [WK, vop, evAll, evOpt, evParts, vbuiltin, vun, vextract, Nat.reduceLT, Nat.reduceEqDiff, ↓reduceIte, reduceCtorEq, Nat.reduceAdd, Int.reduceLT, Int.reduceNeg, valloc_std, noSB, vhot]
          exact ⟨(xs', ws'), ⟨done [] xs' ws' (by simp [nextS, h10]) b1 b9 (by simp) b10, b2, ⟨rw', b3, b4, b5⟩, b6, by simp only; rw [hakl] at b7; omega, b8⟩, by simp only; rw [hakl] at b7; omega⟩
        · simp only [WK, vop, evAll, evOpt, evParts, vbuiltin, vun, vextract, Nat.reduceLT, Nat.reduceEqDiff, ↓reduceIte, reduceCtorEq, Nat.reduceAdd, Int.reduceLT, Int.reduceNeg, valloc_std, noSB, vhot, ht4]
          exact ⟨false, rfl, k13.trans hk9, iff_of_false (by decide) hng⟩
      have e10 : (ins.op = 10) = False := eq_false h10
      by_cases h7' : ins.op = 7
      · have e7 : (ins.op = 7) = True := eq_true h7'
        obtain ⟨ja, jb⟩ := hjmp (.inl h7')
        simp only [k24_a, WK, vop, evAll, evOpt, evParts, vbuiltin, vun, vextract, Nat.reduceLT, Nat.reduceEqDiff, ↓reduceIte, reduceCtorEq, Nat.reduceAdd, Int.reduceLT, Int.reduceNeg, valloc_std, noSB, vhot, NF0, NF1, ldop, lda, hwq, e10, e7, nb1, (show vlen Try.prog 70 (.slice .exact 1 [.int .i64 ins.a] 1) = some (.int .i64 (([0] : List Int).length : Nat)) from by simp [vlen, IU])]
        refine Ev.cut (fin [ins.a] (.slice .exact 1 [.int .i64 ins.a] 1) _ (by simp [nextS, h7']) ⟨.inr ⟨_, rfl⟩, (by intro x hx; simp at hx; first | (subst hx; unfold InI64; omega) | (rcases hx with rfl | rfl <;> unfold InI64 <;> omega))⟩ (by simp) (by simp; omega) (by simp [upd_some, j5]) (by simp [upd_some, j6]) (by simp [upd_some]) (by simp only [upd_some, Nat.reduceEqDiff, ↓reduceIte]; rw [hy]) (by simp [upd_some]) (by simp [upd_some]) (by simp [upd_some])) ?_
        rintro ex e' σ' (⟨rfl, xs', ws', rw', b1, b2, b3, b4, b5, b6, b7, b8, b9, b10⟩ | ⟨rfl, ht4, hk9, hng⟩) hfr
        · simp only [WK, vop, evAll, evOpt, evParts, vbuiltin, vun, vextract, Nat.reduceLT, Nat.reduceEqDiff, ↓reduceIte, reduceCtorEq, Nat.reduceAdd, Int.reduceLT, Int.reduceNeg, valloc_std, noSB, vhot]
          exact ⟨(xs', ws'), ⟨done [ins.a] xs' ws' (by simp [nextS, h7']) b1 b9 (by simp; omega) b10, b2, ⟨rw', b3, b4, b5⟩, b6, by simp only; rw [hakl] at b7; omega, b8⟩, by simp only; rw [hakl] at b7; omega⟩
        · simp only [WK, vop, evAll, evOpt, evParts, vbuiltin, vun, vextract, Nat.reduceLT, Nat.reduceEqDiff, ↓reduceIte, reduceCtorEq, Nat.reduceAdd, Int.reduceLT, Int.reduceNeg, valloc_std, noSB, vhot, ht4]
          exact ⟨false, rfl, k13.trans hk9, iff_of_false (by decide) hng⟩
      have e7 : (ins.op = 7) = False := eq_false h7'
      by_cases h8' : ins.op = 8
      · have e8 : (ins.op = 8) = True := eq_true h8'
        obtain ⟨ja, jb⟩ := hjmp (.inr h8')
        simp only [k24_a, WK, vop, evAll, evOpt, evParts, vbuiltin, vun, vextract, Nat.reduceLT, Nat.reduceEqDiff, ↓reduceIte, reduceCtorEq, Nat.reduceAdd, Int.reduceLT, Int.reduceNeg, valloc_std, noSB, vhot, NF0, NF1, ldop, lda, hwq, e10, e7, e8, nb2, (show vlen Try.prog 70 (.slice .exact 1 [.int .i64 ((q + 1 : Nat) : Int), .int .i64 ins.a] 2) = some (.int .i64 (([0, 0] : List Int).length : Nat)) from by simp [vlen, IU])]
        refine Ev.cut (fin [((q + 1 : Nat) : Int), ins.a] (.slice .exact 1 [.int .i64 ((q + 1 : Nat) : Int), .int .i64 ins.a] 2) _ (by simp [nextS, h8']) ⟨.inr ⟨_, rfl⟩, (by intro x hx; simp at hx; first | (subst hx; unfold InI64; omega) | (rcases hx with rfl | rfl <;> unfold InI64 <;> omega))⟩ (by simp) (by simp; omega) (by simp [upd_some, j5]) (by simp [upd_some, j6]) (by simp [upd_some]) (by simp only [upd_some, Nat.reduceEqDiff, ↓reduceIte]; rw [hy]) (by simp [upd_some]) (by simp [upd_some]) (by simp [upd_some])) ?_
        rintro ex e' σ' (⟨rfl, xs', ws', rw', b1, b2, b3, b4, b5, b6, b7, b8, b9, b10⟩ | ⟨rfl, ht4, hk9, hng⟩) hfr
        · simp only [WK, vop, evAll, evOpt, evParts, vbuiltin, vun, vextract, Nat.reduceLT, Nat.reduceEqDiff, ↓reduceIte, reduceCtorEq, Nat.reduceAdd, Int.reduceLT, Int.reduceNeg, valloc_std, noSB, vhot]
          exact ⟨(xs', ws'), ⟨done [((q + 1 : Nat) : Int), ins.a] xs' ws' (by simp [nextS, h8']) b1 b9 (by simp; omega) b10, b2, ⟨rw', b3, b4, b5⟩, b6, by simp only; rw [hakl] at b7; omega, b8⟩, by simp only; rw [hakl] at b7; omega⟩
        · simp only [WK, vop, evAll, evOpt, evParts, vbuiltin, vun, vextract, Nat.reduceLT, Nat.reduceEqDiff, ↓reduceIte, reduceCtorEq, Nat.reduceAdd, Int.reduceLT, Int.reduceNeg, valloc_std, noSB, vhot, ht4]
          exact ⟨false, rfl, k13.trans hk9, iff_of_false (by decide) hng⟩
      have e8 : (ins.op = 8) = False := eq_false h8'
      · skip
        simp only [k24_a, WK, vop, evAll, evOpt, evParts, vbuiltin, vun, vextract, Nat.reduceLT, Nat.reduceEqDiff, ↓reduceIte, reduceCtorEq, Nat.reduceAdd, Int.reduceLT, Int.reduceNeg, valloc_std, noSB, vhot, NF0, NF1, ldop, lda, hwq, e10, e7, e8, nb1, (show vlen Try.prog 70 (.slice .exact 1 [.int .i64 ((q + 1 : Nat) : Int)] 1) = some (.int .i64 (([0] : List Int).length : Nat)) from by simp [vlen, IU])]
        refine Ev.cut (fin [((q + 1 : Nat) : Int)] (.slice .exact 1 [.int .i64 ((q + 1 : Nat) : Int)] 1) _ (by simp [nextS, h10, h7', h8']) ⟨.inr ⟨_, rfl⟩, (by intro x hx; simp at hx; first | (subst hx; unfold InI64; omega) | (rcases hx with rfl | rfl <;> unfold InI64 <;> omega))⟩ (by simp) (by simp; omega) (by simp [upd_some, j5]) (by simp [upd_some, j6]) (by simp [upd_some]) (by simp only [upd_some, Nat.reduceEqDiff, ↓reduceIte]; rw [hy]) (by simp [upd_some]) (by simp [upd_some]) (by simp [upd_some])) ?_
        rintro ex e' σ' (⟨rfl, xs', ws', rw', b1, b2, b3, b4, b5, b6, b7, b8, b9, b10⟩ | ⟨rfl, ht4, hk9, hng⟩) hfr
        · simp only [WK, vop, evAll, evOpt, evParts, vbuiltin, vun, vextract, Nat.reduceLT, Nat.reduceEqDiff, ↓reduceIte, reduceCtorEq, Nat.reduceAdd, Int.reduceLT, Int.reduceNeg, valloc_std, noSB, vhot]
          exact ⟨(xs', ws'), ⟨done [((q + 1 : Nat) : Int)] xs' ws' (by simp [nextS, h10, h7', h8']) b1 b9 (by simp; omega) b10, b2, ⟨rw', b3, b4, b5⟩, b6, by simp only; rw [hakl] at b7; omega, b8⟩, by simp only; rw [hakl] at b7; omega⟩
        · simp only [WK, vop, evAll, evOpt, evParts, vbuiltin, vun, vextract, Nat.reduceLT, Nat.reduceEqDiff, ↓reduceIte, reduceCtorEq, Nat.reduceAdd, Int.reduceLT, Int.reduceNeg, valloc_std, noSB, vhot, ht4]
          exact ⟨false, rfl, k13.trans hk9, iff_of_false (by decide) hng⟩
    · have hw0' : ¬ (0 : Int) < (ws.length : Nat) := by omega
      have hws : ws = [] := List.length_eq_zero_iff.1 (by omega)
      simp only [k24_a, WK, vop, evAll, evOpt, evParts, vbuiltin, vun, vextract, Nat.reduceLT, Nat.reduceEqDiff, ↓reduceIte, reduceCtorEq, Nat.reduceAdd, Int.reduceLT, Int.reduceNeg, valloc_std, noSB, vhot, H7b.len, hw0']
      subst hws
      exact ⟨true, rfl, k13.trans hkb, iff_of_true rfl hI.good⟩
  obtain ⟨q, σ', h1, b, rfl, h2⟩ := key
  exact ⟨b, σ', h1, h2⟩
end Go.Proofs.Ytplhelapcpcncaa.Q

/- Written rows of truths. -/
set_option linter.unusedVariables false
set_option linter.unusedSimpArgs false
set_option maxRecDepth 100000
namespace Go.Proofs.Ytplhelapcpcncaa.Q
open Go Go.RowKit Go.Proofs
/-- v is object r as a whole, that has these truths. -/
def HT (σ : St) (v : V) (r : Nat) (bs : List Bool) : Prop := v = .hslice r 0 1 bs.length ∧ σ.objs[r]? = some (.cells (bs.map V.bool))
theorem HT.keepX {σ σ' : St} {v : V} {r q : Nat} {bs : List Bool} (h : HT σ v r bs) (hk : KeepX q σ σ') (hne : r ≠ q) : HT σ' v r bs := ⟨h.1, hk.1 _ _ hne h.2⟩
theorem HT.keep {σ σ' : St} {v : V} {r : Nat} {bs : List Bool} (h : HT σ v r bs) (hk : Keep σ σ') : HT σ' v r bs := ⟨h.1, hk.1 _ _ h.2⟩
theorem BlU : Try.prog.underlying 73 = some (.slice 4) := by kernel_rfl
theorem BlB : (Try.prog.info? 4).map (·.bytes) = some 1 := by kernel_rfl
theorem BlZ : zeroT Try.prog 4 = some (.bool false) := by kernel_rfl
theorem HT.addr {σ : St} {v : V} {r : Nat} {bs : List Bool} (h : HT σ v r bs) {i : Nat} (hi : i < bs.length) : vindexAddr Try.prog 73 v (.int .i64 (i : Int)) = some (.optr r i) := by
  have hi' : (i : Int) < bs.length := by omega
  rw [h.1]; simp [vindexAddr, BlU, S4, hi']
theorem HT.load {σ : St} {v : V} {r : Nat} {bs : List Bool} (h : HT σ v r bs) {i : Nat} (hi : i < bs.length) : vload Try.prog σ.objs 4 (.optr r i) = some (.bool bs[i]) := by
  rw [vload_obj h.2 G4]
  simp [List.getElem?_eq_getElem hi]
theorem HT.set {σ : St} {v : V} {r : Nat} {bs : List Bool} (h : HT σ v r bs) {i : Nat} (hi : i < bs.length) (x : Bool) : ∃ σ', vstore Try.prog σ 4 (.optr r i) (.bool x) = some σ' ∧ HT σ' v r (bs.set i x) ∧ KeepX r σ σ' ∧ σ'.objs.length = σ.objs.length := by
  obtain ⟨σ', hs⟩ : ∃ σ' : St, σ' = ⟨σ.objs.set r (.cells ((bs.set i x).map V.bool)), σ.toks⟩ := ⟨_, rfl⟩
  obtain ⟨k, hk⟩ := KeepX.set_eq h.2 hs
  exact ⟨σ', by rw [vstore_obj h.2 S4 rfl (by simpa using hi), hs, List.map_set], ⟨by rw [List.length_set]; exact h.1, hk⟩, k, by rw [hs]; simp⟩
theorem HT.make (σ : St) {n : Nat} (hn : n ≤ 1000000) : ∃ v σ', vmakeRow Try.prog σ 73 (.int .i64 (n : Int)) (.int .i64 (n : Int)) = some (v, σ') ∧ HT σ' v σ.objs.length (List.replicate n false) ∧ Keep σ σ' ∧ σ'.objs.length = σ.objs.length + 1 := by
  have hz : zeroCellsV [V.bool false] n = (List.replicate n false).map V.bool := by
    apply List.ext_getElem?
    intro i
    simp only [zeroCellsV, List.getElem?_map, List.getElem?_range', List.getElem?_replicate]
    by_cases h : i < n
    · simp [h, Nat.mod_one]
    · simp [h]
  refine ⟨.hslice σ.objs.length 0 1 n, ⟨σ.objs ++ [.cells ((List.replicate n false).map V.bool)], σ.toks⟩, ?_, ⟨by rw [List.length_replicate], push_new _ _⟩, (Keep.refl σ).push _, by simp⟩
  have h1 : n ≤ 140737488355328 := by omega
  have h2 : (n : Int) ≤ 140737488355328 := by omega
  simp [vmakeRow, BlU, BlB, S4, BlZ, vcells, h1, h2, hz]
end Go.Proofs.Ytplhelapcpcncaa.Q

/- The document's walk: the same heights. -/
set_option linter.unusedVariables false
set_option linter.unusedSimpArgs false
set_option maxRecDepth 100000
namespace Go.Proofs.Ytplhelapcpcncaa.Q
open Go Go.RowKit Go.Proofs
def gb (bs : List Bool) (p : Nat) : Bool := bs.getD p false
/-- What holds of the places known, and of those that were seen. -/
structure WInv (m : Mdl) (f : Fun) (xs : List Int) (bs : List Bool) (b : Option Nat) : Prop where
  h : ∃ ws, HInv m f xs ws b ∧ ∀ w ∈ ws, gb bs w.toNat = false
  s : ∀ p, gb bs p = true → 0 ≤ gx xs p
def uns (bs : List Bool) : Nat := (bs.filter fun x => !x).length
theorem WInv.more {m : Mdl} {f : Fun} {xs : List Int} {bs : List Bool} {b : Nat} (H : WInv m f xs bs (some b)) (hb : 0 ≤ gx xs b) {q : Int} {y : Int} (hy : 0 ≤ y) (h0 : 0 ≤ q) (h1 : q < f.code.length) (hq : gx xs q.toNat < 0) (hok : ∀ h, GoodH m f h → h q.toNat = some y) :
    WInv m f (xs.set q.toNat y) bs (some b) ∧ (∀ p, 0 ≤ gx xs p → gx (xs.set q.toNat y) p = gx xs p) ∧ gx (xs.set q.toNat y) q.toNat = y := by
  obtain ⟨ws, hI, hw⟩ := H.h
  obtain ⟨g1, g2, g3⟩ := hI.more hb hy h0 h1 hq hok
  refine ⟨⟨⟨_, g1, fun w hw' => ?_⟩, fun p hp => by rw [g2 p (H.s p hp)]; exact H.s p hp⟩, g2, g3⟩
  rcases List.mem_append.1 hw' with h | h
  · exact hw w h
  · rw [List.mem_singleton] at h
    subst h
    cases e : gb bs w.toNat with
    | false => rfl
    | true => have := H.s _ e; omega
theorem WInv.close {m : Mdl} {f : Fun} {xs : List Int} {bs : List Bool} {b : Nat} (H : WInv m f xs bs (some b)) (hd : DoneH m f xs b) : WInv m f xs bs none :=
  let ⟨ws, hI, hw⟩ := H.h; ⟨⟨ws, hI.close hd, hw⟩, H.s⟩
theorem WInv.len {m : Mdl} {f : Fun} {xs : List Int} {bs : List Bool} {b : Option Nat} (H : WInv m f xs bs b) : xs.length = f.code.length := let ⟨_, h, _⟩ := H.h; h.len
theorem WInv.lo {m : Mdl} {f : Fun} {xs : List Int} {bs : List Bool} {b : Option Nat} (H : WInv m f xs bs b) (p : Nat) : -1 ≤ gx xs p := let ⟨_, h, _⟩ := H.h; h.lo p
theorem WInv.ok {m : Mdl} {f : Fun} {xs : List Int} {bs : List Bool} {b : Option Nat} (H : WInv m f xs bs b) : ∀ h, GoodH m f h → ∀ p, 0 ≤ gx xs p → h p = some (gx xs p) := let ⟨_, h, _⟩ := H.h; h.ok
theorem WInv.good {m : Mdl} {f : Fun} {xs : List Int} {bs : List Bool} (H : WInv m f xs bs none) (ha : ∀ p, 0 ≤ gx xs p → gb bs p = true) : ∃ h, GoodH m f h := by
  obtain ⟨ws, hI, hw⟩ := H.h
  have : ws = [] := by
    cases ws with
    | nil => rfl
    | cons w ws =>
      have h1 := hw w (by simp)
      rw [ha _ (hI.wk w (by simp)).2.2] at h1
      cases h1
  subst this
  exact hI.good
end Go.Proofs.Ytplhelapcpcncaa.Q

/- Verify, the program's and the document's. -/
set_option linter.unusedVariables false
set_option linter.unusedSimpArgs false
set_option maxRecDepth 100000
namespace Go.Proofs.Ytplhelapcpcncaa.Q
open Go Go.RowKit Go.Proofs
def HeadBad (m : Mdl) (st : Int) : Prop := 32 < (m.funcs.length : Int) ∨ st < 0 ∨ 32 < st ∨ 16384 < (m.consts.length : Int)
def FunBad (m : Mdl) (f : Fun) : Prop := f.params < 0 ∨ 8 < f.params ∨ f.locals < f.params ∨ 256 < f.locals ∨ f.zero < 0 ∨ (m.consts.length : Int) ≤ f.zero ∨ f.stack < 1 ∨ 256 < f.stack ∨ (f.code.length : Int) < 1 ∨ 16384 < (f.code.length : Int)
def FunOk (m : Mdl) (st : Int) (n : Nat) (f : Fun) : Prop := ¬ FunBad m f ∧ (∀ i ∈ f.code, rightS m st n f i = true) ∧ ∃ h, GoodH m f h
/-- The module can be run. -/
def MdlOk (m : Mdl) (st : Int) : Prop := ¬ HeadBad m st ∧ (∀ v ∈ m.consts, typeC v ≠ []) ∧ ∀ (n : Nat) (h : n < m.funcs.length), FunOk m st n m.funcs[n]
theorem right_call {m : Mdl} {st : Int} {n : Nat} {f : Fun} {i : Ins} (h : rightS m st n f i = true) (h9 : i.op = 9) : 0 ≤ i.a ∧ i.a < n := by
  unfold rightS at h
  rw [h9] at h
  simp [limL, lookI] at h
  omega
theorem right_jump {m : Mdl} {st : Int} {n : Nat} {f : Fun} {i : Ins} (h : rightS m st n f i = true) (h9 : i.op = 7 ∨ i.op = 8) : 0 ≤ i.a ∧ i.a < f.code.length := by
  unfold rightS at h
  rcases h9 with h9 | h9 <;>
  · rw [h9] at h
    simp [limL, lookI] at h
    omega
theorem right_ins {m : Mdl} {st : Int} {n : Nat} {f : Fun} {i : Ins} (h : rightS m st n f i = true) (hn : n ≤ m.funcs.length) (hp : ∀ (j : Nat) (hj : j < m.funcs.length), j < n → 0 ≤ m.funcs[j].params ∧ m.funcs[j].params ≤ 8) :
    callOk m i ∧ 0 ≤ popS m i ∧ popS m i ≤ 8 ∧ (i.op = 7 ∨ i.op = 8 → 0 ≤ i.a ∧ i.a < f.code.length) := by
  have hpop : 0 ≤ popS m i ∧ popS m i ≤ 8 := by
    unfold popS
    split
    · omega
    split
    · omega
    split
    · omega
    split
    · rename_i h9
      obtain ⟨a, b⟩ := right_call h h9
      have hlt : i.a.toNat < m.funcs.length := by omega
      rw [List.getElem?_eq_getElem hlt]
      exact hp _ hlt (by omega)
    · omega
  exact ⟨fun h9 => by have := right_call h h9; omega, hpop.1, hpop.2, right_jump h⟩
theorem FF2' (r o : Nat) : vfieldAddr Try.prog 37 (.optr r o) 2 = some (.optr r (o + 2)) := by kernel_rfl
theorem cverify_does {σ : St} {m : Mdl} {c : List V} (hm : MdlS σ m c) (st : Int) (hw : ∀ v ∈ m.consts, weight v ≤ 4294967296) :
    ∃ z σ', Does Try.prog prims 12 [.agg c, .int .i64 st] σ (.ret (.int .i64 z)) σ' ∧ Keep σ σ' ∧ ((z = 0 ∧ MdlOk m st) ∨ (z = 40 ∧ ¬ MdlOk m st)) := by
  have key : ∃ q σ', Does Try.prog prims 12 [.agg c, .int .i64 st] σ q σ' ∧ ∃ z, q = .ret (.int .i64 z) ∧ Keep σ σ' ∧ ((z = 0 ∧ MdlOk m st) ∨ (z = 40 ∧ ¬ MdlOk m st)) := by
    apply k12_is.does (by simp)
    have hm0 := hm
    obtain ⟨w1, w2, hc, hv, hf⟩ := hm
    obtain ⟨s1, hs1⟩ : ∃ s1 : St, s1 = ⟨σ.objs ++ [Ob.cells c], σ.toks⟩ := ⟨_, rfl⟩
    have k1 : Keep σ s1 := by rw [hs1]; exact (Keep.refl σ).push _
    have o1 : s1.objs[σ.objs.length]? = some (.cells c) := by rw [hs1]; exact push_new _ _
    have L : ∀ s', Keep s1 s' → vload Try.prog s'.objs 25 (.optr σ.objs.length 0) = some (.agg c) ∧ vload Try.prog s'.objs 22 (.optr σ.objs.length 0) = some w1 ∧ vload Try.prog s'.objs 23 (.optr σ.objs.length 1) = some w2 := by
      intro s' hk
      have e1 := hk.1 _ _ o1
      exact ⟨vload_agg e1 MG (by rw [hm0.len]; exact MS), by rw [vload_obj e1 VsG, hc]; rfl, by rw [vload_obj e1 FsG, hc]; rfl⟩
    have lf : vlen Try.prog 23 w2 = some (.int .i64 (m.funcs.length : Nat)) := by obtain ⟨cs, hr, _⟩ := hf; exact hr.len FT
    have lv := hv.len
    rcases (((Classical.em (32 < (m.funcs.length : Int))).elim (fun h0 => Or.inl h0) (fun h0 => Or.inr ((Classical.em (st < 0)).elim (fun h1 => Or.inl ⟨h0, h1⟩) (fun h1 => Or.inr ((Classical.em (32 < st)).elim (fun h2 => Or.inl ⟨h0, h1, h2⟩) (fun h2 => Or.inr ((Classical.em (16384 < (m.consts.length : Int))).elim (fun h3 => Or.inl ⟨h0, h1, h2, h3⟩) (fun h3 => Or.inr (⟨h0, h1, h2, h3⟩))))))))) : ((32 < (m.funcs.length : Int)) ∨ ¬ (32 < (m.funcs.length : Int)) ∧ (st < 0) ∨ ¬ (32 < (m.funcs.length : Int)) ∧ ¬ (st < 0) ∧ (32 < st) ∨ ¬ (32 < (m.funcs.length : Int)) ∧ ¬ (st < 0) ∧ ¬ (32 < st) ∧ (16384 < (m.consts.length : Int)) ∨ ¬ (32 < (m.funcs.length : Int)) ∧ ¬ (st < 0) ∧ ¬ (32 < st) ∧ ¬ (16384 < (m.consts.length : Int)))) with h | h | h | h | h
    all_goals
      simp only [k12_a, WK, vop, evAll, evOpt, evParts, vbuiltin, vun, vextract, Nat.reduceLT, Nat.reduceEqDiff, ↓reduceIte, reduceCtorEq, Nat.reduceAdd, Int.reduceLT, Int.reduceNeg, valloc_std, noSB, vhot, List.getD_cons_zero, List.getD_cons_succ, vbox, vcells, ← hs1, MF0, MF1, (L s1 (Keep.refl _)).2.1, (L s1 (Keep.refl _)).2.2, lf, lv, h]
    case' inr.inr.inr.inr =>
      skip
    all_goals first
      | exact ⟨40, rfl, k1, .inr ⟨rfl, fun hok => hok.1 (by unfold HeadBad; omega)⟩⟩
      | skip
    have hhead : ¬ HeadBad m st := by unfold HeadBad; omega
    have hfl : m.funcs.length ≤ 32 := by omega
    have hvl : m.consts.length ≤ 16384 := by omega
    clear h
    refine Ev.loopF (fun (i : Nat) e σ' => e 32 = .int .i64 (i : Nat) ∧ i ≤ m.consts.length ∧ Keep s1 σ' ∧ ∀ v ∈ m.consts.take i, typeC v ≠ []) (fun i => m.consts.length - i) 0 ⟨by simp [upd_some], Nat.zero_le _, Keep.refl _, by simp⟩ ?_
    rintro i e σ' ⟨h32, hi, hk, hT⟩ hfr
    have g1 : e 1 = .int .i64 st := (hfr 1 (by decide)).trans (by simp [upd_some])
    have g2 : e 2 = .optr σ.objs.length 0 := (hfr 2 (by decide)).trans (by simp [upd_some])
    have g30 : e 30 = w1 := (hfr 30 (by decide)).trans (by simp [upd_some])
    have g31 : e 31 = .int .i64 (m.consts.length : Nat) := (hfr 31 (by decide)).trans (by simp [upd_some])
    clear hfr
    by_cases hlt : i < m.consts.length
    · have hlt' : (i : Int) < (m.consts.length : Nat) := by omega
      have hwi : IntKind.i64.wrap ((i : Int) + 1) = ((i + 1 : Nat) : Int) := by rw [show ((i : Int) + 1) = ((i + 1 : Nat) : Int) from by omega]; exact wrap_nat (by omega)
      obtain ⟨ccs, cv, hva, hvl', hvc⟩ := hv.get hlt
      obtain ⟨s2, hs2⟩ : ∃ s2 : St, s2 = ⟨(σ'.objs ++ [Ob.cells val0C]).set σ'.objs.length (Ob.cells cv), σ'.toks⟩ := ⟨_, rfl⟩
      have q2 : IsV s2 σ'.objs.length cv := by rw [hs2]; exact IsV.made
      have k2 : Keep σ' s2 := by rw [hs2]; exact (Keep.refl σ').madeV _ _
      have st2 := IsV.new (σ := σ') (o := val0C) hvc.len rfl hvc.one
      rw [← hs2] at st2
      obtain ⟨s3, d3, k3⟩ := ctype_does (σ := s2) (hw _ (List.getElem_mem hlt)) hvc
      simp only [k12_a, WK, vop, evAll, evOpt, evParts, vbuiltin, vun, vextract, Nat.reduceLT, Nat.reduceEqDiff, ↓reduceIte, reduceCtorEq, Nat.reduceAdd, Int.reduceLT, Int.reduceNeg, valloc_std, noSB, vhot, h32, g30, g31, hlt', hva, hvl', VZ24, vbox, vcells, st2, q2.load hvc.len]
      refine KD.ret d3 ?_
      by_cases ht : typeC m.consts[i] = []
      · simp only [k12_a, WK, vop, evAll, evOpt, evParts, vbuiltin, vun, vextract, Nat.reduceLT, Nat.reduceEqDiff, ↓reduceIte, reduceCtorEq, Nat.reduceAdd, Int.reduceLT, Int.reduceNeg, valloc_std, noSB, vhot, ofVal_t0, strBin, ht]
        exact ⟨40, rfl, ((k1.trans hk).trans k2).trans k3, .inr ⟨rfl, fun hok => hok.2.1 _ (List.getElem_mem hlt) ht⟩⟩
      · simp only [k12_a, WK, vop, evAll, evOpt, evParts, vbuiltin, vun, vextract, Nat.reduceLT, Nat.reduceEqDiff, ↓reduceIte, reduceCtorEq, Nat.reduceAdd, Int.reduceLT, Int.reduceNeg, valloc_std, noSB, vhot, ofVal_t0, strBin, ht, h32, hwi]
        refine ⟨i + 1, ⟨by simp [upd_some], by omega, (hk.trans k2).trans k3, fun v hv => ?_⟩, by omega⟩
        rw [List.take_succ_eq_append_getElem hlt, List.mem_append, List.mem_singleton] at hv
        rcases hv with hv | rfl
        · exact hT v hv
        · exact ht
    have hlt' : ¬ (i : Int) < (m.consts.length : Nat) := by omega
    have hTy : ∀ v ∈ m.consts, typeC v ≠ [] := by rw [List.take_of_length_le (by omega)] at hT; exact hT
    simp only [k12_a, WK, vop, evAll, evOpt, evParts, vbuiltin, vun, vextract, Nat.reduceLT, Nat.reduceEqDiff, ↓reduceIte, reduceCtorEq, Nat.reduceAdd, Int.reduceLT, Int.reduceNeg, valloc_std, noSB, vhot, h32, g2, g31, hlt', MF1, (L σ' hk).2.2, lf]
    refine Ev.loopF (fun (n : Nat) e σ' => e 43 = .int .i64 (n : Nat) ∧ n ≤ m.funcs.length ∧ Keep s1 σ' ∧ ∀ (j : Nat) (hj : j < m.funcs.length), j < n → FunOk m st j m.funcs[j]) (fun n => m.funcs.length - n) 0 ⟨by simp [upd_some], Nat.zero_le _, hk, fun j hj h => by omega⟩ ?_
    rintro n e2 sb ⟨h43, hn, hkb, hF⟩ hfr
    have j1 : e2 1 = .int .i64 st := (hfr 1 (by decide)).trans (by simp [upd_some, g1])
    have j2 : e2 2 = .optr σ.objs.length 0 := (hfr 2 (by decide)).trans (by simp [upd_some, g2])
    have j41 : e2 41 = w2 := (hfr 41 (by decide)).trans (by simp [upd_some])
    have j42 : e2 42 = .int .i64 (m.funcs.length : Nat) := (hfr 42 (by decide)).trans (by simp [upd_some])
    clear hfr
    by_cases hnl : n < m.funcs.length
    · have hnl' : (n : Int) < (m.funcs.length : Nat) := by omega
      have hwn : IntKind.i64.wrap ((n : Int) + 1) = ((n + 1 : Nat) : Int) := by rw [show ((n : Int) + 1) = ((n + 1 : Nat) : Int) from by omega]; exact wrap_nat (by omega)
      obtain ⟨p, cf, hp, hFS, hpl⟩ := fun_load hf hnl
      obtain ⟨s2, s3, wc, hs2, st3, k3, o3, hcode, hl3⟩ := funmade sb hFS (k1.trans hkb)
      obtain ⟨f, hfe⟩ : ∃ f, f = m.funcs[n] := ⟨_, rfl⟩
      rw [← hfe] at hFS o3 hcode
      have lc : vlen Try.prog 35 wc = some (.int .i64 (f.code.length : Nat)) := RowS.len hcode NT
      have hk3 := hkb.trans k3
      have L3 : ∀ s', Keep s3 s' → vload Try.prog s'.objs 3 (.optr sb.objs.length 0) = some (.int .i64 f.params) ∧ vload Try.prog s'.objs 3 (.optr sb.objs.length 1) = some (.int .i64 f.locals) ∧ vload Try.prog s'.objs 3 (.optr sb.objs.length 2) = some (.int .i64 f.zero) ∧ vload Try.prog s'.objs 3 (.optr sb.objs.length 3) = some (.int .i64 f.stack) ∧ vload Try.prog s'.objs 35 (.optr sb.objs.length 4) = some wc := by
        intro s' hk
        have e3 := hk.1 _ _ o3
        exact ⟨by rw [vload_obj e3 G3]; rfl, by rw [vload_obj e3 G3]; rfl, by rw [vload_obj e3 G3]; rfl, by rw [vload_obj e3 G3]; rfl, by rw [vload_obj e3 NsG]; rfl⟩
      obtain ⟨f0, f1, f2, f3, f4⟩ := L3 s3 (Keep.refl _)
      have badF : FunBad m f → ¬ MdlOk m st := fun hb hok => (hok.2.2 n hnl).1 (by rw [← hfe]; exact hb)
      rcases (((Classical.em (f.params < 0)).elim (fun h0 => Or.inl h0) (fun h0 => Or.inr ((Classical.em (8 < f.params)).elim (fun h1 => Or.inl ⟨h0, h1⟩) (fun h1 => Or.inr ((Classical.em (f.locals < f.params)).elim (fun h2 => Or.inl ⟨h0, h1, h2⟩) (fun h2 => Or.inr ((Classical.em (256 < f.locals)).elim (fun h3 => Or.inl ⟨h0, h1, h2, h3⟩) (fun h3 => Or.inr ((Classical.em (f.zero < 0)).elim (fun h4 => Or.inl ⟨h0, h1, h2, h3, h4⟩) (fun h4 => Or.inr ((Classical.em ((m.consts.length : Int) ≤ f.zero)).elim (fun h5 => Or.inl ⟨h0, h1, h2, h3, h4, h5⟩) (fun h5 => Or.inr ((Classical.em (f.stack < 1)).elim (fun h6 => Or.inl ⟨h0, h1, h2, h3, h4, h5, h6⟩) (fun h6 => Or.inr ((Classical.em (256 < f.stack)).elim (fun h7 => Or.inl ⟨h0, h1, h2, h3, h4, h5, h6, h7⟩) (fun h7 => Or.inr ((Classical.em ((f.code.length : Int) < 1)).elim (fun h8 => Or.inl ⟨h0, h1, h2, h3, h4, h5, h6, h7, h8⟩) (fun h8 => Or.inr ((Classical.em (16384 < (f.code.length : Int))).elim (fun h9 => Or.inl ⟨h0, h1, h2, h3, h4, h5, h6, h7, h8, h9⟩) (fun h9 => Or.inr (⟨h0, h1, h2, h3, h4, h5, h6, h7, h8, h9⟩))))))))))))))))))))) : ((f.params < 0) ∨ ¬ (f.params < 0) ∧ (8 < f.params) ∨ ¬ (f.params < 0) ∧ ¬ (8 < f.params) ∧ (f.locals < f.params) ∨ ¬ (f.params < 0) ∧ ¬ (8 < f.params) ∧ ¬ (f.locals < f.params) ∧ (256 < f.locals) ∨ ¬ (f.params < 0) ∧ ¬ (8 < f.params) ∧ ¬ (f.locals < f.params) ∧ ¬ (256 < f.locals) ∧ (f.zero < 0) ∨ ¬ (f.params < 0) ∧ ¬ (8 < f.params) ∧ ¬ (f.locals < f.params) ∧ ¬ (256 < f.locals) ∧ ¬ (f.zero < 0) ∧ ((m.consts.length : Int) ≤ f.zero) ∨ ¬ (f.params < 0) ∧ ¬ (8 < f.params) ∧ ¬ (f.locals < f.params) ∧ ¬ (256 < f.locals) ∧ ¬ (f.zero < 0) ∧ ¬ ((m.consts.length : Int) ≤ f.zero) ∧ (f.stack < 1) ∨ ¬ (f.params < 0) ∧ ¬ (8 < f.params) ∧ ¬ (f.locals < f.params) ∧ ¬ (256 < f.locals) ∧ ¬ (f.zero < 0) ∧ ¬ ((m.consts.length : Int) ≤ f.zero) ∧ ¬ (f.stack < 1) ∧ (256 < f.stack) ∨ ¬ (f.params < 0) ∧ ¬ (8 < f.params) ∧ ¬ (f.locals < f.params) ∧ ¬ (256 < f.locals) ∧ ¬ (f.zero < 0) ∧ ¬ ((m.consts.length : Int) ≤ f.zero) ∧ ¬ (f.stack < 1) ∧ ¬ (256 < f.stack) ∧ ((f.code.length : Int) < 1) ∨ ¬ (f.params < 0) ∧ ¬ (8 < f.params) ∧ ¬ (f.locals < f.params) ∧ ¬ (256 < f.locals) ∧ ¬ (f.zero < 0) ∧ ¬ ((m.consts.length : Int) ≤ f.zero) ∧ ¬ (f.stack < 1) ∧ ¬ (256 < f.stack) ∧ ¬ ((f.code.length : Int) < 1) ∧ (16384 < (f.code.length : Int)) ∨ ¬ (f.params < 0) ∧ ¬ (8 < f.params) ∧ ¬ (f.locals < f.params) ∧ ¬ (256 < f.locals) ∧ ¬ (f.zero < 0) ∧ ¬ ((m.consts.length : Int) ≤ f.zero) ∧ ¬ (f.stack < 1) ∧ ¬ (256 < f.stack) ∧ ¬ ((f.code.length : Int) < 1) ∧ ¬ (16384 < (f.code.length : Int)))) with h | h | h | h | h | h | h | h | h | h | h
      all_goals
        simp only [k12_a, WK, vop, evAll, evOpt, evParts, vbuiltin, vun, vextract, Nat.reduceLT, Nat.reduceEqDiff, ↓reduceIte, reduceCtorEq, Nat.reduceAdd, Int.reduceLT, Int.reduceNeg, valloc_std, noSB, vhot, h43, j41, j42, hnl', hp, hpl sb (k1.trans hkb), FZ, vbox, vcells, ← hs2, st3, FFp, FF1', FF2', FF3', FF4', f0, f1, f2, f3, f4, j2, MF0, (L s3 hk3).2.1, lv, lc, h]
      all_goals first
        | exact ⟨40, rfl, k1.trans hk3, .inr ⟨rfl, badF (by unfold FunBad; omega)⟩⟩
        | skip
      have hgood : ¬ FunBad m f := by unfold FunBad; omega
      have hcl : 1 ≤ f.code.length ∧ f.code.length ≤ 16384 := by omega
      have hst : f.stack ≤ 256 := by omega
      clear h
      refine Ev.loopF (fun (q : Nat) e σ' => e 106 = .int .i64 (q : Nat) ∧ q ≤ f.code.length ∧ Keep s3 σ' ∧ ∀ i ∈ f.code.take q, rightS m st n f i = true) (fun q => f.code.length - q) 0 ⟨by simp [upd_some], Nat.zero_le _, Keep.refl _, by simp⟩ ?_
      rintro q e3 sc ⟨h106, hq, hkc, hR⟩ hfr
      have l1 : e3 1 = .int .i64 st := (hfr 1 (by decide)).trans (by simp [upd_some, j1])
      have l2 : e3 2 = .optr σ.objs.length 0 := (hfr 2 (by decide)).trans (by simp [upd_some, j2])
      have l7 : e3 7 = .int .i64 (n : Nat) := (hfr 7 (by decide)).trans (by simp [upd_some])
      have l43 : e3 43 = .int .i64 (n : Nat) := (hfr 43 (by decide)).trans (by simp [upd_some, h43])
      have l104 : e3 104 = wc := (hfr 104 (by decide)).trans (by simp [upd_some])
      have l105 : e3 105 = .int .i64 (f.code.length : Nat) := (hfr 105 (by decide)).trans (by simp [upd_some])
      clear hfr
      by_cases hql : q < f.code.length
      · have hql' : (q : Int) < (f.code.length : Nat) := by omega
        have hwq : IntKind.i64.wrap ((q : Int) + 1) = ((q + 1 : Nat) : Int) := by rw [show ((q : Int) + 1) = ((q + 1 : Nat) : Int) from by omega]; exact wrap_nat (by omega)
        obtain ⟨pc, hpc, hlc⟩ := code_load hcode hql
        obtain ⟨ins, hine⟩ : ∃ ins, ins = f.code[q] := ⟨_, rfl⟩
        obtain ⟨s6, s7, hs6, st7, k7, o7, l7'⟩ := insmade sc ins
        have ldi : vload Try.prog s7.objs 39 (.optr sc.objs.length 0) = some (.agg (insC ins)) := vload_agg o7 NG NS
        have hlcb := hlc sc ((k1.trans hk3).trans hkc)
        rw [← hine] at hlcb
        have hk7 := (hk3.trans hkc).trans k7
        obtain ⟨s8, d8, k8⟩ := right_does (hm0.keep (k1.trans hk7)) st hnl ins
        rw [← hfe] at d8
        simp only [k12_a, WK, vop, evAll, evOpt, evParts, vbuiltin, vun, vextract, Nat.reduceLT, Nat.reduceEqDiff, ↓reduceIte, reduceCtorEq, Nat.reduceAdd, Int.reduceLT, Int.reduceNeg, valloc_std, noSB, vhot, h106, l104, l105, hql', hpc, hlcb, NZ, vbox, vcells, ← hs6, st7, l1, l2, l7, (L s7 hk7).1, ldi]
        refine KD.ret d8 ?_
        cases hr : rightS m st n f ins with
        | false =>
          simp only [k12_a, WK, vop, evAll, evOpt, evParts, vbuiltin, vun, vextract, Nat.reduceLT, Nat.reduceEqDiff, ↓reduceIte, reduceCtorEq, Nat.reduceAdd, Int.reduceLT, Int.reduceNeg, valloc_std, noSB, vhot]
          exact ⟨40, rfl, (k1.trans hk7).trans k8, .inr ⟨rfl, fun hok => by
            have := (hok.2.2 n hnl).2.1 ins (by rw [← hfe, hine]; exact List.getElem_mem _)
            rw [← hfe, hr] at this
            cases this⟩⟩
        | true =>
          simp only [k12_a, WK, vop, evAll, evOpt, evParts, vbuiltin, vun, vextract, Nat.reduceLT, Nat.reduceEqDiff, ↓reduceIte, reduceCtorEq, Nat.reduceAdd, Int.reduceLT, Int.reduceNeg, valloc_std, noSB, vhot, h106, hwq]
          refine ⟨q + 1, ⟨by simp [upd_some], by omega, (hkc.trans k7).trans k8, fun i hi => ?_⟩, by omega⟩
          rw [List.take_succ_eq_append_getElem hql, List.mem_append, List.mem_singleton] at hi
          rcases hi with hi | rfl
          · exact hR i hi
          · rw [← hine]; exact hr
      have hql' : ¬ (q : Int) < (f.code.length : Nat) := by omega
      have hRa : ∀ i ∈ f.code, rightS m st n f i = true := by rw [List.take_of_length_le (by omega)] at hR; exact hR
      have hins : ∀ (p : Nat) (hp : p < f.code.length), callOk m f.code[p] ∧ 0 ≤ popS m f.code[p] ∧ popS m f.code[p] ≤ 8 ∧ (f.code[p].op = 7 ∨ f.code[p].op = 8 → 0 ≤ f.code[p].a ∧ f.code[p].a < f.code.length) := fun p hp =>
        right_ins (hRa _ (List.getElem_mem hp)) (by omega) fun j hj hjn => by
          have := (hF j hj hjn).1
          unfold FunBad at this
          omega
      have hkc' := hk3.trans hkc
      obtain ⟨b, s9, d9, k9, hb⟩ := heights_does (hm0.keep (k1.trans hkc')) hnl (by rw [← hfe]; exact hcl) (by rw [← hfe]; exact hst) (by rw [← hfe]; exact hins)
      rw [← hfe] at hb
      simp only [k12_a, WK, vop, evAll, evOpt, evParts, vbuiltin, vun, vextract, Nat.reduceLT, Nat.reduceEqDiff, ↓reduceIte, reduceCtorEq, Nat.reduceAdd, Int.reduceLT, Int.reduceNeg, valloc_std, noSB, vhot, h106, l105, hql', l2, l7, (L sc hkc').1]
      refine KD.ret d9 ?_
      cases b with
      | false =>
        simp only [k12_a, WK, vop, evAll, evOpt, evParts, vbuiltin, vun, vextract, Nat.reduceLT, Nat.reduceEqDiff, ↓reduceIte, reduceCtorEq, Nat.reduceAdd, Int.reduceLT, Int.reduceNeg, valloc_std, noSB, vhot]
        exact ⟨40, rfl, (k1.trans hkc').trans k9, .inr ⟨rfl, fun hok => by
          have := (hok.2.2 n hnl).2.2
          rw [← hfe] at this
          exact absurd (hb.2 this) (by decide)⟩⟩
      | true =>
        simp only [k12_a, WK, vop, evAll, evOpt, evParts, vbuiltin, vun, vextract, Nat.reduceLT, Nat.reduceEqDiff, ↓reduceIte, reduceCtorEq, Nat.reduceAdd, Int.reduceLT, Int.reduceNeg, valloc_std, noSB, vhot, l43, hwn]
        refine ⟨n + 1, ⟨by simp [upd_some], by omega, hkc'.trans k9, fun j hj hjn => ?_⟩, by omega⟩
        by_cases hjn' : j < n
        · exact hF j hj hjn'
        · have : j = n := by omega
          subst this
          rw [← hfe]
          exact ⟨hgood, hRa, hb.1 rfl⟩
    have hnl' : ¬ (n : Int) < (m.funcs.length : Nat) := by omega
    simp only [k12_a, WK, vop, evAll, evOpt, evParts, vbuiltin, vun, vextract, Nat.reduceLT, Nat.reduceEqDiff, ↓reduceIte, reduceCtorEq, Nat.reduceAdd, Int.reduceLT, Int.reduceNeg, valloc_std, noSB, vhot, h43, j42, hnl']
    exact ⟨0, rfl, k1.trans hkb, .inl ⟨rfl, hhead, hTy, fun j hj => hF j hj (by omega)⟩⟩
  obtain ⟨q, σ', h1, z, rfl, h2⟩ := key
  exact ⟨z, σ', h1, h2⟩
end Go.Proofs.Ytplhelapcpcncaa.Q

/- A module that is handed in; what is more than is played. -/
set_option linter.unusedVariables false
set_option linter.unusedSimpArgs false
set_option maxRecDepth 100000
namespace Go.Proofs.Ytplhelapcpcncaa.Q
open Go Go.RowKit Go.Proofs
structure MIn (m : Mdl) (B : Nat) : Prop where
  cw : weights m.consts ≤ B
  fl : m.funcs.length ≤ B
  fi : ∀ f ∈ m.funcs, InI64 f.params ∧ InI64 f.locals ∧ InI64 f.zero ∧ InI64 f.stack ∧ f.code.length ≤ B ∧ ∀ i ∈ f.code, InI64 i.op ∧ InI64 i.a
theorem rows_rel {α : Type} {R : Nat → α → Prop} : ∀ (len : Nat), (∀ i, i < len → ∃ x, R i x) → ∃ l : List α, l.length = len ∧ ∀ (i : Nat) (h : i < l.length), R i l[i] := by
  intro len h
  refine ⟨List.ofFn fun i : Fin len => Classical.choose (h i i.2), by simp, fun i hi => ?_⟩
  rw [List.getElem_ofFn]
  exact Classical.choose_spec (h i (by simpa using hi))
theorem vals_rows : ∀ (len : Nat) (vs : List V), vs.length = len * 4 → (∀ i, i < len → ∃ v, ValC v ((vs.drop (i * 4)).take 4)) → ∃ l, l.length = len ∧ ValsC l vs ∧ weights l ≤ vbulks vs
  | 0, vs, hv, _ => by
    have h0 : vs = [] := List.length_eq_zero_iff.1 (by simpa using hv)
    subst h0
    exact ⟨[], rfl, .nil, by simp [weights]⟩
  | len + 1, vs, hv, hi => by
    obtain ⟨v, hv0⟩ := hi 0 (by omega)
    rw [Nat.zero_mul, List.drop_zero] at hv0
    obtain ⟨l, hl, hlC, hw⟩ := vals_rows len (vs.drop 4) (by rw [List.length_drop, hv]; omega) fun i hlt => by
      have := hi (i + 1) (by omega)
      rwa [show (i + 1) * 4 = 4 + i * 4 by omega, ← List.drop_drop] at this
    have h2 := ValsC.cons hv0 hlC
    have hb := vbulks_append (vs.take 4) (vs.drop 4)
    have hb1 := hv0.bulk _ (Nat.le_refl _)
    rw [List.take_append_drop] at h2 hb
    exact ⟨v :: l, by simp [hl], h2, by rw [weights]; omega⟩
theorem vals_VT {k : Nat} {cs : List V} (h : VT Try.prog k 22 cs) : ∃ w l, cs = [w] ∧ ValsW l w ∧ weights l ≤ vbulks cs := by
  obtain ⟨k', hc⟩ := VT_slice VT22 h
  rcases hc with rfl | ⟨vs, len, rfl, h1, h2, h3⟩
  · exact ⟨.nils, [], rfl, .nil, by simp [weights]⟩
  · rw [CO24] at h1 h3 ⊢
    obtain ⟨l, hl, hC, hw⟩ := vals_rows len vs h1 fun i hi => val_VT k' (h3 i hi)
    subst hl
    exact ⟨_, l, rfl, .row hC, by simp only [vbulks, vbulk]; omega⟩
theorem COM : Try.prog.cellsOf 25 = 2 := by kernel_rfl
theorem COF : Try.prog.cellsOf 37 = 5 := by kernel_rfl
theorem CON : Try.prog.cellsOf 39 = 2 := by kernel_rfl
theorem COFs : Try.prog.cellsOf 23 = 1 := by kernel_rfl
theorem CONs : Try.prog.cellsOf 35 = 1 := by kernel_rfl
theorem FOM : fieldsOf Try.prog 25 = [(22, 0), (23, 1)] := by kernel_rfl
theorem FOF : fieldsOf Try.prog 37 = [(3, 0), (3, 1), (3, 2), (3, 3), (35, 4)] := by kernel_rfl
theorem FON : fieldsOf Try.prog 39 = [(3, 0), (3, 1)] := by kernel_rfl
theorem list_ext5 {cs : List V} {a b c d e : V} (hl : cs.length = 5) (h0 : cs[0]? = some a) (h1 : cs[1]? = some b) (h2 : cs[2]? = some c) (h3 : cs[3]? = some d) (h4 : cs[4]? = some e) : cs = [a, b, c, d, e] := by
  match cs, hl with
  | [x0, x1, x2, x3, x4], _ => simp at h0 h1 h2 h3 h4; simp [h0, h1, h2, h3, h4]
theorem list_ext2 {cs : List V} {a b : V} (hl : cs.length = 2) (h0 : cs[0]? = some a) (h1 : cs[1]? = some b) : cs = [a, b] := by
  match cs, hl with
  | [x0, x1], _ => simp at h0 h1; simp [h0, h1]
theorem ins_VT {k : Nat} {cs : List V} (h : VT Try.prog k 39 cs) : ∃ i : Ins, cs = insC i ∧ (InI64 i.op ∧ InI64 i.a) := by
  obtain ⟨k', hl, hf⟩ := VT_struct FON h
  rw [CON] at hl
  simp only [List.mem_cons, List.not_mem_nil, or_false, forall_eq_or_imp, forall_eq, CO3] at hf
  obtain ⟨f0, f1⟩ := hf
  obtain ⟨a, h0, w0⟩ := VT_int T3 f0
  obtain ⟨b, h1, w1⟩ := VT_int T3 f1
  exact ⟨⟨a, b⟩, list_ext2 hl (one_of h0) (one_of h1), InI64_of w0, InI64_of w1⟩
theorem code_VT {k : Nat} {cs : List V} (h : VT Try.prog k 35 cs) : ∃ w l, cs = [w] ∧ (∀ σ, CodeS σ w l) ∧ (∀ i ∈ l, InI64 i.op ∧ InI64 i.a) ∧ l.length ≤ vbulks cs := by
  obtain ⟨k', hc⟩ := VT_slice NT h
  rcases hc with rfl | ⟨vs, len, rfl, h1, h2, h3⟩
  · exact ⟨.nils, [], rfl, fun σ => .inl (RowV.nil 2), by simp, by simp⟩
  · rw [CON] at h1 h3 ⊢
    obtain ⟨l, rfl, hl, hR⟩ := rows_of (f := insC) (R := fun i => InI64 i.op ∧ InI64 i.a) len vs h1 fun i hi => ins_VT (h3 i hi)
    subst hl
    refine ⟨_, l, rfl, fun σ => .inl ⟨flat_len insC_len l, .inr ⟨.ro, rfl⟩⟩, hR, ?_⟩
    have := bulk_len insC_len (by omega) l
    simp only [vbulks, vbulk]
    omega
theorem fun_VT {k : Nat} {cs : List V} (h : VT Try.prog k 37 cs) : ∃ f : Fun, (∀ σ, FunS σ f cs) ∧ InI64 f.params ∧ InI64 f.locals ∧ InI64 f.zero ∧ InI64 f.stack ∧ f.code.length ≤ vbulks cs ∧ ∀ i ∈ f.code, InI64 i.op ∧ InI64 i.a := by
  obtain ⟨k', hl, hf⟩ := VT_struct FOF h
  rw [COF] at hl
  simp only [List.mem_cons, List.not_mem_nil, or_false, forall_eq_or_imp, forall_eq, CO3, CONs] at hf
  obtain ⟨f0, f1, f2, f3, f4⟩ := hf
  obtain ⟨a0, h0, w0⟩ := VT_int T3 f0
  obtain ⟨a1, h1, w1⟩ := VT_int T3 f1
  obtain ⟨a2, h2, w2⟩ := VT_int T3 f2
  obtain ⟨a3, h3, w3⟩ := VT_int T3 f3
  obtain ⟨w, l, h4, hC, hI, hn⟩ := code_VT f4
  have hcs : cs = [.int .i64 a0, .int .i64 a1, .int .i64 a2, .int .i64 a3, w] := list_ext5 hl (one_of h0) (one_of h1) (one_of h2) (one_of h3) (one_of h4)
  subst hcs
  refine ⟨⟨a0, a1, a2, a3, l⟩, fun σ => ⟨w, rfl, hC σ⟩, InI64_of w0, InI64_of w1, InI64_of w2, InI64_of w3, ?_, hI⟩
  rw [h4] at hn
  simp only [vbulks, vbulk] at hn ⊢
  omega
theorem vbulks_part (vs : List V) (i n : Nat) : vbulks ((vs.drop i).take n) ≤ vbulks vs := by
  have h1 := vbulks_append (vs.take i) (vs.drop i)
  have h2 := vbulks_append ((vs.drop i).take n) ((vs.drop i).drop n)
  rw [List.take_append_drop] at h1 h2
  omega
theorem funs_VT {k : Nat} {cs : List V} (h : VT Try.prog k 23 cs) : ∃ w l, cs = [w] ∧ (∀ σ, FunsS σ w l) ∧ l.length ≤ vbulks cs ∧ ∀ f ∈ l, InI64 f.params ∧ InI64 f.locals ∧ InI64 f.zero ∧ InI64 f.stack ∧ f.code.length ≤ vbulks cs ∧ ∀ i ∈ f.code, InI64 i.op ∧ InI64 i.a := by
  obtain ⟨k', hc⟩ := VT_slice FT h
  rcases hc with rfl | ⟨vs, len, rfl, h1, h2, h3⟩
  · exact ⟨.nils, [], rfl, fun σ => ⟨[], .inl (RowV.nil 5), fun i hi => by simp at hi⟩, by simp, by simp⟩
  · rw [COF] at h1 h3 ⊢
    obtain ⟨l, hl, hR⟩ := rows_rel (R := fun i (f : Fun) => (∀ σ, FunS σ f ((vs.drop (i * 5)).take 5)) ∧ InI64 f.params ∧ InI64 f.locals ∧ InI64 f.zero ∧ InI64 f.stack ∧ f.code.length ≤ vbulks ((vs.drop (i * 5)).take 5) ∧ ∀ i ∈ f.code, InI64 i.op ∧ InI64 i.a) len fun i hi => fun_VT (h3 i hi)
    subst hl
    have hvl := vbulks_len vs
    refine ⟨_, l, rfl, fun σ => ⟨vs, .inl ⟨h1, .inr ⟨.ro, rfl⟩⟩, fun i hi => (hR i hi).1 σ⟩, by simp only [vbulks, vbulk]; omega, fun f hf => ?_⟩
    obtain ⟨i, hi, rfl⟩ := List.getElem_of_mem hf
    obtain ⟨_, g1, g2, g3, g4, g5, g6⟩ := hR i hi
    have := vbulks_part vs (i * 5) 5
    exact ⟨g1, g2, g3, g4, by simp only [vbulks, vbulk]; omega, g6⟩
theorem mdl_arg {x : V} (h : ArgT Try.prog 25 x) : ∃ m c, x = .agg c ∧ (∀ σ, MdlS σ m c) ∧ MIn m (vbulk x) := by
  obtain ⟨k, cs, rfl, h0⟩ := ArgT_struct FOM h
  obtain ⟨k', hl, hf⟩ := VT_struct FOM h0
  rw [COM] at hl
  simp only [List.mem_cons, List.not_mem_nil, or_false, forall_eq_or_imp, forall_eq, CO22, COFs] at hf
  obtain ⟨f0, f1⟩ := hf
  obtain ⟨w1, l1, h1, hv, hw⟩ := vals_VT f0
  obtain ⟨w2, l2, h2, hF, hn, hI⟩ := funs_VT f1
  have hcs : cs = [w1, w2] := list_ext2 hl (one_of h1) (one_of h2)
  subst hcs
  rw [h1] at hw
  rw [h2] at hn hI
  refine ⟨⟨l1, l2⟩, _, rfl, fun σ => ⟨w1, w2, rfl, hv, hF σ⟩, ?_, ?_, fun f hf => ?_⟩
  · simp only [vbulks, vbulk] at hw ⊢; omega
  · simp only [vbulks, vbulk] at hn ⊢; omega
  · obtain ⟨g1, g2, g3, g4, g5, g6⟩ := hI f hf
    exact ⟨g1, g2, g3, g4, by simp only [vbulks, vbulk] at g5 ⊢; omega, g6⟩
end Go.Proofs.Ytplhelapcpcncaa.Q

/- What is more than is played; the module of the examples. -/
set_option linter.unusedVariables false
set_option linter.unusedSimpArgs false
set_option maxRecDepth 100000
namespace Go.Proofs.Ytplhelapcpcncaa.Q
open Go Go.RowKit Go.Proofs
theorem large_does2 {σ : St} {m : Mdl} {c : List V} {B : Nat} (hm : MdlS σ m c) (hM : MIn m B) (hB : B ≤ 4294967296) :
    ∃ b σ', Does Try.prog prims 9 [.agg c] σ (.ret (.bool b)) σ' ∧ Keep σ σ' ∧ (b = false → m.consts.length ≤ 8192 ∧ ∀ f ∈ m.funcs, f.code.length ≤ 4096) := by
  have key : ∃ q σ', Does Try.prog prims 9 [.agg c] σ q σ' ∧ ∃ b, q = .ret (.bool b) ∧ Keep σ σ' ∧ (b = false → m.consts.length ≤ 8192 ∧ ∀ f ∈ m.funcs, f.code.length ≤ 4096) := by
    apply k9_is.does (by simp)
    have hm0 := hm
    obtain ⟨w1, w2, hc, hv, hf⟩ := hm
    obtain ⟨s1, hs1⟩ : ∃ s1 : St, s1 = ⟨σ.objs ++ [Ob.cells c], σ.toks⟩ := ⟨_, rfl⟩
    have k1 : Keep σ s1 := by rw [hs1]; exact (Keep.refl σ).push _
    have o1 : s1.objs[σ.objs.length]? = some (.cells c) := by rw [hs1]; exact push_new _ _
    have L : ∀ s', Keep s1 s' → vload Try.prog s'.objs 22 (.optr σ.objs.length 0) = some w1 ∧ vload Try.prog s'.objs 23 (.optr σ.objs.length 1) = some w2 := by
      intro s' hk
      have e1 := hk.1 _ _ o1
      exact ⟨by rw [vload_obj e1 VsG, hc]; rfl, by rw [vload_obj e1 FsG, hc]; rfl⟩
    have lf : vlen Try.prog 23 w2 = some (.int .i64 (m.funcs.length : Nat)) := by obtain ⟨cs, hr, _⟩ := hf; exact hr.len FT
    have lv := hv.len
    have hfl := hM.fl
    have hcl : m.consts.length ≤ B := Nat.le_trans (weights_len _) hM.cw
    simp only [k9_a, WK, vop, evAll, evOpt, evParts, vbuiltin, vun, vextract, Nat.reduceLT, Nat.reduceEqDiff, ↓reduceIte, reduceCtorEq, Nat.reduceAdd, Int.reduceLT, Int.reduceNeg, valloc_std, noSB, vhot, List.getD_cons_zero, vbox, vcells, ← hs1, MF1, (L s1 (Keep.refl _)).2, lf]
    refine Ev.loopF (fun (i : Nat) e σ' => e 13 = .int .i64 (i : Nat) ∧ i ≤ m.funcs.length ∧ (∃ n : Int, e 3 = .int .i64 n ∧ 0 ≤ n ∧ n ≤ 4096) ∧ Keep s1 σ' ∧ ∀ f ∈ m.funcs.take i, f.code.length ≤ 4096) (fun i => m.funcs.length - i) 0 ⟨by simp [upd_some], Nat.zero_le _, ⟨0, by simp [upd_some], by omega, by omega⟩, Keep.refl _, by simp⟩ ?_
    rintro i e σ' ⟨h13, hi, ⟨n, h3, hn0, hn1⟩, hk, hcl4⟩ hfr
    have g1 : e 1 = .optr σ.objs.length 0 := (hfr 1 (by decide)).trans (by simp [upd_some])
    have g11 : e 11 = w2 := (hfr 11 (by decide)).trans (by simp [upd_some])
    have g12 : e 12 = .int .i64 (m.funcs.length : Nat) := (hfr 12 (by decide)).trans (by simp [upd_some])
    clear hfr
    by_cases hlt : i < m.funcs.length
    · have hlt' : (i : Int) < (m.funcs.length : Nat) := by omega
      have hwi : IntKind.i64.wrap ((i : Int) + 1) = ((i + 1 : Nat) : Int) := by rw [show ((i : Int) + 1) = ((i + 1 : Nat) : Int) from by omega]; exact wrap_nat (by omega)
      obtain ⟨p, cf, hp, hFS, hpl⟩ := fun_load hf hlt
      obtain ⟨s2, s3, wc, hs2, st3, k3, o3, hcode, hl3⟩ := funmade σ' hFS (k1.trans hk)
      obtain ⟨f, hfe⟩ : ∃ f, f = m.funcs[i] := ⟨_, rfl⟩
      have hfb : f.code.length ≤ B := by rw [hfe]; exact (hM.fi _ (List.getElem_mem hlt)).2.2.2.2.1
      rw [← hfe] at hFS o3 hcode
      have lc : vlen Try.prog 35 wc = some (.int .i64 (f.code.length : Nat)) := RowS.len hcode NT
      have ldc : vload Try.prog s3.objs 35 (.optr σ'.objs.length 4) = some wc := by rw [vload_obj o3 NsG]; rfl
      have hw1 : IntKind.i64.wrap (1 + (f.code.length : Int)) = 1 + (f.code.length : Int) := wrap_i64 (by omega) (by omega)
      have hw2 : IntKind.i64.wrap (n + (1 + (f.code.length : Int))) = n + (1 + (f.code.length : Int)) := wrap_i64 (by omega) (by omega)
      by_cases hbig : (4096 : Int) < n + (1 + (f.code.length : Int))
      · simp only [k9_a, WK, vop, evAll, evOpt, evParts, vbuiltin, vun, vextract, Nat.reduceLT, Nat.reduceEqDiff, ↓reduceIte, reduceCtorEq, Nat.reduceAdd, Int.reduceLT, Int.reduceNeg, valloc_std, noSB, vhot, h3, h13, g11, g12, hlt', hp, hpl σ' (k1.trans hk), FZ, vbox, vcells, ← hs2, st3, FF4', ldc, lc, hw1, hw2, hbig]
        exact ⟨_, rfl, (k1.trans hk).trans k3, fun h => by cases h⟩
      · simp only [k9_a, WK, vop, evAll, evOpt, evParts, vbuiltin, vun, vextract, Nat.reduceLT, Nat.reduceEqDiff, ↓reduceIte, reduceCtorEq, Nat.reduceAdd, Int.reduceLT, Int.reduceNeg, valloc_std, noSB, vhot, h3, h13, g11, g12, hlt', hp, hpl σ' (k1.trans hk), FZ, vbox, vcells, ← hs2, st3, FF4', ldc, lc, hw1, hw2, hbig, hwi]
        exact ⟨i + 1, ⟨by simp [upd_some], by omega, ⟨_, by simp [upd_some]; rfl, by omega, by omega⟩, hk.trans k3, fun g hg => by
          rw [List.take_succ_eq_append_getElem hlt, List.mem_append, List.mem_singleton] at hg
          rcases hg with hg | rfl
          · exact hcl4 g hg
          · rw [← hfe]; omega⟩, by omega⟩
    have hlt' : ¬ (i : Int) < (m.funcs.length : Nat) := by omega
    simp only [k9_a, WK, vop, evAll, evOpt, evParts, vbuiltin, vun, vextract, Nat.reduceLT, Nat.reduceEqDiff, ↓reduceIte, reduceCtorEq, Nat.reduceAdd, Int.reduceLT, Int.reduceNeg, valloc_std, noSB, vhot, h13, g1, g12, hlt', MF0, (L σ' hk).1, lv]
    refine Ev.loopF (fun (j : Nat) e σ' => e 29 = .int .i64 (j : Nat) ∧ j ≤ m.consts.length ∧ (∃ n : Int, e 3 = .int .i64 n ∧ (j : Int) ≤ n ∧ n ≤ 8192) ∧ Keep s1 σ') (fun j => m.consts.length - j) 0 ⟨by simp [upd_some], Nat.zero_le _, ⟨n, by simp [upd_some, h3], by omega, by omega⟩, hk⟩ ?_
    rintro j e2 sb ⟨h29, hj, ⟨n2, h3', hm0', hm1⟩, hkb⟩ hfr
    have j27 : e2 27 = w1 := (hfr 27 (by decide)).trans (by simp [upd_some])
    have j28 : e2 28 = .int .i64 (m.consts.length : Nat) := (hfr 28 (by decide)).trans (by simp [upd_some])
    clear hfr
    by_cases hjl : j < m.consts.length
    · have hjl' : (j : Int) < (m.consts.length : Nat) := by omega
      have hwj : IntKind.i64.wrap ((j : Int) + 1) = ((j + 1 : Nat) : Int) := by rw [show ((j : Int) + 1) = ((j + 1 : Nat) : Int) from by omega]; exact wrap_nat (by omega)
      obtain ⟨ccs, cv, hva, hvl', hvc⟩ := hv.get hjl
      have hwt := Nat.le_trans (weights_mem (List.getElem_mem hjl)) hM.cw
      obtain ⟨s2, hs2⟩ : ∃ s2 : St, s2 = ⟨(sb.objs ++ [Ob.cells val0C]).set sb.objs.length (Ob.cells cv), sb.toks⟩ := ⟨_, rfl⟩
      have q2 : IsV s2 sb.objs.length cv := by rw [hs2]; exact IsV.made
      have k2 : Keep sb s2 := by rw [hs2]; exact (Keep.refl sb).madeV _ _
      have st2 := IsV.new (σ := sb) (o := val0C) hvc.len rfl hvc.one
      rw [← hs2] at st2
      obtain ⟨k, v, t, l, w, hve, rfl, hl, _⟩ := hvc.inv
      rw [hve, weight] at hwt
      have hll := weights_len l
      have hw1 : IntKind.i64.wrap (1 + (t.length : Int)) = 1 + (t.length : Int) := wrap_i64 (by omega) (by omega)
      have hw2 : IntKind.i64.wrap (1 + (t.length : Int) + (l.length : Int)) = 1 + (t.length : Int) + (l.length : Int) := wrap_i64 (by omega) (by omega)
      have hw3 : IntKind.i64.wrap (n2 + (1 + (t.length : Int) + (l.length : Int))) = n2 + (1 + (t.length : Int) + (l.length : Int)) := wrap_i64 (by omega) (by omega)
      by_cases hbig : (8192 : Int) < n2 + (1 + (t.length : Int) + (l.length : Int))
      · simp only [k9_a, WK, vop, evAll, evOpt, evParts, vbuiltin, vun, vextract, Nat.reduceLT, Nat.reduceEqDiff, ↓reduceIte, reduceCtorEq, Nat.reduceAdd, Int.reduceLT, Int.reduceNeg, valloc_std, noSB, vhot, h29, h3', j27, j28, hjl', hva, hvl', VZ24, vbox, vcells, st2, FV2, FV3, q2.text, q2.list, vlen_str T9, hl.len, hw1, hw2, hw3, hbig]
        exact ⟨_, rfl, (k1.trans hkb).trans k2, fun h => by cases h⟩
      · simp only [k9_a, WK, vop, evAll, evOpt, evParts, vbuiltin, vun, vextract, Nat.reduceLT, Nat.reduceEqDiff, ↓reduceIte, reduceCtorEq, Nat.reduceAdd, Int.reduceLT, Int.reduceNeg, valloc_std, noSB, vhot, h29, h3', j27, j28, hjl', hva, hvl', VZ24, vbox, vcells, st2, FV2, FV3, q2.text, q2.list, vlen_str T9, hl.len, hw1, hw2, hw3, hbig]
        refine Ev.loopF (fun (z : Nat) e σ' => e 48 = .int .i64 (z : Nat) ∧ z ≤ l.length ∧ Keep s2 σ') (fun z => l.length - z) 0 ⟨by simp [upd_some], Nat.zero_le _, Keep.refl _⟩ ?_
        rintro z e3 sc ⟨h48, hz, hkc⟩ hfr
        have l3 : e3 3 = .int .i64 (n2 + (1 + (t.length : Int) + (l.length : Int))) := (hfr 3 (by decide)).trans (by simp [upd_some])
        have l29 : e3 29 = .int .i64 (j : Nat) := (hfr 29 (by decide)).trans (by simp [upd_some, h29])
        have l46 : e3 46 = w := (hfr 46 (by decide)).trans (by simp [upd_some])
        have l47 : e3 47 = .int .i64 (l.length : Nat) := (hfr 47 (by decide)).trans (by simp [upd_some])
        clear hfr
        by_cases hzl : z < l.length
        · have hzl' : (z : Int) < (l.length : Nat) := by omega
          have hwz : IntKind.i64.wrap ((z : Int) + 1) = ((z + 1 : Nat) : Int) := by rw [show ((z : Int) + 1) = ((z + 1 : Nat) : Int) from by omega]; exact wrap_nat (by omega)
          obtain ⟨ccs', cv', hva', hvl'', hvc'⟩ := hl.get hzl
          obtain ⟨s4, hs4⟩ : ∃ s4 : St, s4 = ⟨(sc.objs ++ [Ob.cells val0C]).set sc.objs.length (Ob.cells cv'), sc.toks⟩ := ⟨_, rfl⟩
          have q4 : IsV s4 sc.objs.length cv' := by rw [hs4]; exact IsV.made
          have k4 : Keep sc s4 := by rw [hs4]; exact (Keep.refl sc).madeV _ _
          have st4 := IsV.new (σ := sc) (o := val0C) hvc'.len rfl hvc'.one
          rw [← hs4] at st4
          obtain ⟨k', v', t', l', w', _, rfl, hl', _⟩ := hvc'.inv
          by_cases hp : (0 : Int) < (l'.length : Nat)
          · simp only [k9_a, WK, vop, evAll, evOpt, evParts, vbuiltin, vun, vextract, Nat.reduceLT, Nat.reduceEqDiff, ↓reduceIte, reduceCtorEq, Nat.reduceAdd, Int.reduceLT, Int.reduceNeg, valloc_std, noSB, vhot, h48, l46, l47, hzl', hva', hvl'', VZ24, vbox, vcells, st4, FV3, q4.list, hl'.len, hp]
            exact ⟨_, rfl, (((k1.trans hkb).trans k2).trans hkc).trans k4, fun h => by cases h⟩
          · simp only [k9_a, WK, vop, evAll, evOpt, evParts, vbuiltin, vun, vextract, Nat.reduceLT, Nat.reduceEqDiff, ↓reduceIte, reduceCtorEq, Nat.reduceAdd, Int.reduceLT, Int.reduceNeg, valloc_std, noSB, vhot, h48, l46, l47, hzl', hva', hvl'', VZ24, vbox, vcells, st4, FV3, q4.list, hl'.len, hp, hwz]
            exact ⟨z + 1, ⟨by simp [upd_some], by omega, hkc.trans k4⟩, by omega⟩
        have hzl' : ¬ (z : Int) < (l.length : Nat) := by omega
        simp only [k9_a, WK, vop, evAll, evOpt, evParts, vbuiltin, vun, vextract, Nat.reduceLT, Nat.reduceEqDiff, ↓reduceIte, reduceCtorEq, Nat.reduceAdd, Int.reduceLT, Int.reduceNeg, valloc_std, noSB, vhot, h48, l29, l47, hzl', hwj]
        exact ⟨j + 1, ⟨by simp [upd_some], by omega, ⟨_, l3, by omega, by omega⟩, (hkb.trans k2).trans hkc⟩, by omega⟩
    have hjl' : ¬ (j : Int) < (m.consts.length : Nat) := by omega
    simp only [k9_a, WK, vop, evAll, evOpt, evParts, vbuiltin, vun, vextract, Nat.reduceLT, Nat.reduceEqDiff, ↓reduceIte, reduceCtorEq, Nat.reduceAdd, Int.reduceLT, Int.reduceNeg, valloc_std, noSB, vhot, h29, j28, hjl']
    refine ⟨_, rfl, k1.trans hkb, fun _ => ⟨by omega, ?_⟩⟩
    rw [List.take_of_length_le (by omega)] at hcl4
    exact hcl4
  obtain ⟨q, σ', h1, b, rfl, h2⟩ := key
  exact ⟨b, σ', h1, h2⟩
end Go.Proofs.Ytplhelapcpcncaa.Q

/- A module's bytes. -/
set_option linter.unusedVariables false
set_option linter.unusedSimpArgs false
set_option maxRecDepth 100000
namespace Go.Proofs.Ytplhelapcpcncaa.Q
open Go Go.RowKit Go.Proofs
def kindV : Val → Int
  | .mk k _ _ _ => k
def cB (v : Val) : List UInt8 := putN (kindV v).toNat ++ putV v
def insB (i : Ins) : List UInt8 := putS [i.op, i.a]
def headF (f : Fun) : List Int := [f.params, f.locals, f.zero, f.stack, ((f.code.length : Nat) : Int)]
def funB (f : Fun) : List UInt8 := putS (headF f) ++ f.code.flatMap insB
def headM (m : Mdl) : List Int := [((m.consts.length : Nat) : Int), ((m.funcs.length : Nat) : Int)]
def encM (m : Mdl) : List UInt8 := putS (headM m) ++ m.consts.flatMap cB ++ m.funcs.flatMap funB
theorem typeC_fits {v : Val} (h : typeC v ≠ []) : fitsS (typeC v) v = true ∧ (typeC v).length ≤ 100 ∧ listV v = [] := by
  unfold typeC at h ⊢
  by_cases hl : listV v = []
  · rw [if_pos hl] at h ⊢
    cases hf : typesL.find? (fun s => fitsS s v) with
    | none => rw [hf] at h; exact absurd rfl h
    | some s =>
      have h1 := List.find?_some hf
      have h2 := List.mem_of_find?_eq_some hf
      refine ⟨h1, ?_, hl⟩
      simp only [Option.getD_some]
      simp only [typesL, List.mem_cons, List.not_mem_nil, or_false] at h2
      rcases h2 with rfl | rfl | rfl | rfl | rfl <;> simp
  · rw [if_neg hl] at h; exact absurd rfl h
def FunIn (f : Fun) : Prop := InI64 f.params ∧ InI64 f.locals ∧ InI64 f.zero ∧ InI64 f.stack ∧ ∀ i ∈ f.code, InI64 i.op ∧ InI64 i.a
theorem MIn.fin {m : Mdl} {B : Nat} (h : MIn m B) : ∀ f ∈ m.funcs, FunIn f := fun f hf => let ⟨h1, h2, h3, h4, _, h5⟩ := h.fi f hf; ⟨h1, h2, h3, h4, h5⟩
theorem MdlOk.code {m : Mdl} {st : Int} (h : MdlOk m st) : ∀ f ∈ m.funcs, f.code.length ≤ 16384 := by
  intro f hf
  obtain ⟨n, hn, rfl⟩ := List.getElem_of_mem hf
  have := (h.2.2 n hn).1
  unfold FunBad at this
  omega
theorem MdlOk.fl {m : Mdl} {st : Int} (h : MdlOk m st) : m.funcs.length ≤ 32 := by
  have := h.1
  unfold HeadBad at this
  omega
end Go.Proofs.Ytplhelapcpcncaa.Q

/- A module is the same as itself, wherever it lies. -/
set_option linter.unusedVariables false
set_option linter.unusedSimpArgs false
set_option maxRecDepth 100000
namespace Go.Proofs.Ytplhelapcpcncaa.Q
open Go Go.RowKit Go.Proofs
end Go.Proofs.Ytplhelapcpcncaa.Q

/- A module's bytes, the document's. -/
set_option linter.unusedVariables false
set_option linter.unusedSimpArgs false
set_option maxRecDepth 100000
namespace Go.Proofs.Ytplhelapcpcncaa.Q
open Go Go.RowKit Go.Proofs
end Go.Proofs.Ytplhelapcpcncaa.Q

set_option linter.unusedVariables false
set_option linter.unusedSimpArgs false
set_option maxRecDepth 100000
namespace Go.Proofs.Ytplhelapcpcncaa.Q
open Go Go.RowKit Go.Proofs
def I13a (v : V) (σ : St) (bs : List UInt8) : Nat → (Nat → V) → St → Prop := fun i e σ' => σ' = σ ∧ e 0 = v ∧ e 4 = .int .i64 i ∧ i ≤ runN bs
def I13b (v : V) (σ : St) (bs : List UInt8) : Nat → (Nat → V) → St → Prop := fun j e σ' => σ' = σ ∧ e 0 = v ∧ e 4 = .int .i64 (runN bs : Nat) ∧ e 6 = .int .i64 ((j : Int) - 1) ∧ e 5 = .int .i64 (valN ((bs.take (runN bs + 1)).drop j) : Nat) ∧ j ≤ runN bs + 1
end Go.Proofs.Ytplhelapcpcncaa.Q

set_option linter.unusedVariables false
set_option linter.unusedSimpArgs false
set_option maxRecDepth 100000
namespace Go.Proofs.Ytplhelapcpcncaa.Q
open Go Go.RowKit Go.Proofs
end Go.Proofs.Ytplhelapcpcncaa.Q

set_option linter.unusedVariables false
set_option linter.unusedSimpArgs false
set_option maxRecDepth 100000
namespace Go.Proofs.Ytplhelapcpcncaa.Q
open Go Go.RowKit Go.Proofs
/-- Object r is a reader that has these bytes left. -/
def Rdr (σ : St) (r : Nat) (bs : List UInt8) (bad : Bool) : Prop := ∃ v, σ.objs[r]? = some (.cells [v, .bool bad]) ∧ BtsV v bs
theorem Rdr.keep {σ σ' : St} {r q : Nat} {bs : List UInt8} {bad : Bool} (h : Rdr σ r bs bad) (hk : KeepX q σ σ') (hne : r ≠ q) : Rdr σ' r bs bad := by
  obtain ⟨v, h1, h2⟩ := h
  exact ⟨v, hk.1 r _ hne h1, h2⟩
/-- What a number's reading leaves. -/
def numS (bs : List UInt8) (bad : Bool) : Nat × List UInt8 × Bool :=
  if bad then (0, bs, true) else ((takeS bs).1, bs.drop (takeS bs).2, (takeS bs).2 == 0)
end Go.Proofs.Ytplhelapcpcncaa.Q

set_option linter.unusedVariables false
set_option linter.unusedSimpArgs false
set_option maxRecDepth 100000
namespace Go.Proofs.Ytplhelapcpcncaa.Q
open Go Go.RowKit Go.Proofs
/-- Whether n bytes can be read. -/
def canS (bs : List UInt8) (bad : Bool) (n : Int) : Bool := !bad && decide (0 ≤ n) && decide (n ≤ bs.length)
/-- What a reading of n bytes leaves. -/
def bytS (bs : List UInt8) (bad : Bool) (n : Int) : List UInt8 × List UInt8 × Bool := if canS bs bad n = true then (bs.take n.toNat, bs.drop n.toNat, false) else ([], bs, true)
end Go.Proofs.Ytplhelapcpcncaa.Q

set_option linter.unusedVariables false
set_option linter.unusedSimpArgs false
set_option maxRecDepth 100000
namespace Go.Proofs.Ytplhelapcpcncaa.Q
open Go Go.RowKit Go.Proofs
/-! ### No reader -/
end Go.Proofs.Ytplhelapcpcncaa.Q

set_option linter.unusedVariables false
set_option linter.unusedSimpArgs false
namespace Go.Proofs.Ytplhelapcpcncaa.Q
open Go Go.RowKit Go.Proofs
/-! ### Numbers and bytes that are read -/
/-! ### A value that is read -/
abbrev RS := List UInt8 × Bool
def rdN (g : RS → List Val × RS) : Nat → RS → List Val × RS
  | 0, s => ([], s)
  | n + 1, s => if (rdN g n s).2.2 = true then rdN g n s else ((rdN g n s).1 ++ (g (rdN g n s).2).1, (g (rdN g n s).2).2)
def one1 (f : RS → Val × RS) (s : RS) : List Val × RS := ([(f s).1], (f s).2)
def two2 (f g : RS → Val × RS) (s : RS) : List Val × RS := ([(f s).1, (g (f s).2).1], (g (f s).2).2)
def rdRow (st : Bool) (k : Int) (g : RS → List Val × RS) (s : RS) : Val × RS :=
  let a := numS s.1 s.2
  let p := rdN g (min a.1 65) (a.2.1, a.2.2 || (st && decide (64 < a.1)))
  (.mk k 0 [] p.1, p.2)
def rdInt (st : Bool) (s : RS) : Val × RS :=
  let a := numS s.1 s.2
  let b := numS a.2.1 a.2.2
  (.mk 1 (if a.1 = 1 then -(b.1 : Int) - 1 else (b.1 : Int)) [] [], (b.2.1, b.2.2 || (st && decide (1 < a.1))))
def rdBool (st : Bool) (s : RS) : Val × RS :=
  let a := numS s.1 s.2
  (.mk 2 (a.1 : Int) [] [], (a.2.1, a.2.2 || (st && decide (1 < a.1))))
def rdText (st : Bool) (s : RS) : Val × RS :=
  let a := numS s.1 s.2
  let c := bytS a.2.1 (a.2.2 || (st && decide (256 < a.1))) (a.1 : Int)
  (.mk 3 0 c.1 [], c.2)
/-- st: as the document tells it, strict. -/
def rdS (st : Bool) : Ty → RS → Val × RS
  | .int => rdInt st
  | .bool => rdBool st
  | .text => rdText st
  | .list e => rdRow st 4 (one1 (rdS st e))
  | .mapI e => rdRow st 5 (two2 (rdInt st) (rdS st e))
  | .mapT e => rdRow st 5 (two2 (rdText st) (rdS st e))
/-! ### How much is read -/
def wB : Ty → Nat
  | .int => 1 | .bool => 1 | .text => 1
  | .list e => 1 + 65 * wB e
  | .mapI e => 1 + 65 * (1 + wB e)
  | .mapT e => 1 + 65 * (1 + wB e)
def WOkG (g : RS → List Val × RS) (B : Nat) : Prop := ∀ s, weights (g s).1 + (g s).2.1.length ≤ s.1.length + B
/-! ### What was put is read -/
/-- It reads what was put of these. -/
def BackG (f : RS → Val × RS) (P : Val → Bool) : Prop := ∀ v rest, P v = true → (∃ c, ValC v c) → f (putV v ++ rest, false) = (v, (rest, false))
theorem ValsW.all {l : List Val} {w : V} (h : ValsW l w) : ∀ x ∈ l, ∃ c, ValC x c := by
  intro x hx
  obtain ⟨i, hi, rfl⟩ := List.mem_iff_getElem.1 hx
  obtain ⟨_, c, _, _, hc⟩ := h.get hi
  exact ⟨c, hc⟩
/-! ### What is read strictly is what was put -/
def CanG (f : RS → Val × RS) : Prop := ∀ s, (f s).2.2 = false → s.2 = false ∧ putV (f s).1 ++ (f s).2.1 = s.1
end Go.Proofs.Ytplhelapcpcncaa.Q

