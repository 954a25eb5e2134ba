import Derived.Test.YtodcajpeilgfgaaLa
import Derived.Lib.IndexLaws
set_option linter.unusedVariables false
set_option linter.unusedSimpArgs false
namespace Go.Proofs.Ytodcajpeilgfgaa.Q
open Go Go.RowKit Go.Proofs

theorem T9 : Try.prog.underlying 9 = some .string := by kernel_rfl
theorem G9 : isAggT Try.prog 9 = some false := by kernel_rfl
theorem S9 : sizeT Try.prog 9 = some 1 := by kernel_rfl
theorem GT : isAggT Try.prog 23 = some false := by kernel_rfl
theorem ST : sizeT Try.prog 23 = some 1 := by kernel_rfl
theorem TT : Try.prog.underlying 23 = some (.slice 32) := by kernel_rfl
theorem SK : sizeT Try.prog 32 = some 4 := by kernel_rfl
theorem GK : isAggT Try.prog 32 = some true := by kernel_rfl
theorem PL : Try.prog.underlying 40 = some (.pointer 42) := by kernel_rfl
theorem FL0 (r : Nat) : vfieldAddr Try.prog 42 (.optr r 0) 0 = some (.optr r 0) := by kernel_rfl
theorem FL1 (r : Nat) : vfieldAddr Try.prog 42 (.optr r 0) 1 = some (.optr r 1) := by kernel_rfl
theorem FL2 (r : Nat) : vfieldAddr Try.prog 42 (.optr r 0) 2 = some (.optr r 2) := by kernel_rfl
theorem FK3 (r : Nat) : vfieldAddr Try.prog 32 (.optr r 0) 3 = some (.optr r 3) := by kernel_rfl
def tok0C : List V := [.int .i64 0, .str [], .int .i64 0, .int .i64 0]
theorem ZK : zeroT Try.prog 32 = some (.agg tok0C) := by kernel_rfl
theorem TRT : RowT Try.prog 23 32 4 40 := ⟨TT, SK, ⟨_, ZK, rfl⟩, by kernel_rfl, by omega⟩
theorem ofVal_str {a : ByteArray} : ofVal (.string a) = some (.str a.data.toList) := rfl
theorem vlen_str {t : TypeId} {s : List UInt8} (ht : Try.prog.underlying t = some .string) : vlen Try.prog t (.str s) = some (.int .i64 s.length) := by
  simp [vlen, ht]
theorem str_lo {s : List UInt8} {n : Nat} (h : n ≤ s.length) {k : IntKind} : vslice Try.prog 9 (.str s) (some (.int k (n : Int))) none none = some (.str (s.drop n)) := by
  have := vbounds_lo (len := s.length) (k := k) (n := n) (by omega) (by omega)
  have h2 : List.take (s.length - n) (List.drop n s) = List.drop n s := List.take_of_length_le (by rw [List.length_drop]; omega)
  simp [vslice, T9, this, h2]
theorem str_lohi {s : List UInt8} {n m : Nat} (h : n ≤ m) (hm : m ≤ s.length) {k k' : IntKind} : vslice Try.prog 9 (.str s) (some (.int k (n : Int))) (some (.int k' (m : Int))) none = some (.str ((s.take m).drop n)) := by
  have := vbounds_lohi (len := s.length) (k := k) (k' := k') (n := n) (m := m) (by omega) (by omega) (by omega)
  simp [vslice, T9, this, List.drop_take]
theorem str_at {s : List UInt8} {n : Nat} {c : UInt8} (h : s[n]? = some c) {k : IntKind} : vindex Try.prog 9 (.str s) (.int k (n : Int)) = some (.int .u8 (c.toNat : Int)) := by
  simp [vindex, T9, h]
theorem u8_eqd {c d : UInt8} : decide ((c.toNat : Int) = (d.toNat : Int)) = decide (c = d) := by
  by_cases h : c = d
  · subst h; simp
  · have : ¬ (c.toNat : Int) = (d.toNat : Int) := fun e => h (by rw [← UInt8.ofNat_toNat (x := c), show c.toNat = d.toNat by omega, UInt8.ofNat_toNat])
    simp [h, this]
theorem idx_wrap {i : Nat} (h : i + 1 ≤ 4294967296) : IntKind.i64.wrap ((i : Int) + 1) = ((i + 1 : Nat) : Int) := by rw [show ((i : Int) + 1) = ((i + 1 : Nat) : Int) from by omega]; exact wrap_nat (by omega)

/-- An object that is a lexer. -/
def IsL (σ : St) (p : Nat) (s : List UInt8) (n : Nat) (v : V) : Prop := σ.objs[p]? = some (.cells [.str s, .int .i64 n, v])
section
variable {σ : St} {p : Nat} {s : List UInt8} {n : Nat} {v : V}
theorem IsL.str (h : IsL σ p s n v) : vload Try.prog σ.objs 9 (.optr p 0) = some (.str s) := by rw [vload_obj h G9]; rfl
theorem IsL.at (h : IsL σ p s n v) : vload Try.prog σ.objs 3 (.optr p 1) = some (.int .i64 n) := by rw [vload_obj h G3]; rfl
theorem IsL.out (h : IsL σ p s n v) : vload Try.prog σ.objs 23 (.optr p 2) = some v := by rw [vload_obj h GT]; rfl
theorem IsL.setAt (h : IsL σ p s n v) (m : Nat) : ∃ σ', vstore Try.prog σ 3 (.optr p 1) (.int .i64 m) = some σ' ∧ IsL σ' p s m v ∧ KeepX p σ σ' ∧ σ'.toks = σ.toks := by
  obtain ⟨σ', e⟩ : ∃ σ' : St, σ' = ⟨σ.objs.set p (.cells [.str s, .int .i64 m, v]), σ.toks⟩ := ⟨_, rfl⟩
  obtain ⟨k, hk⟩ := KeepX.set_eq h e
  exact ⟨σ', by rw [vstore_obj h S3 rfl (by simp), e]; rfl, hk, k, by rw [e]⟩
theorem IsL.setOut (h : IsL σ p s n v) {u : V} (h1 : one u = true) : ∃ σ', vstore Try.prog σ 23 (.optr p 2) u = some σ' ∧ IsL σ' p s n u ∧ KeepX p σ σ' ∧ σ'.toks = σ.toks := by
  obtain ⟨σ', e⟩ : ∃ σ' : St, σ' = ⟨σ.objs.set p (.cells [.str s, .int .i64 n, u]), σ.toks⟩ := ⟨_, rfl⟩
  obtain ⟨k, hk⟩ := KeepX.set_eq h e
  exact ⟨σ', by rw [vstore_obj h ST h1 (by simp), e]; rfl, hk, k, by rw [e]⟩
end
theorem IsL.lt {σ : St} {p : Nat} {s : List UInt8} {n : Nat} {v : V} (h : IsL σ p s n v) : p < σ.objs.length := (List.getElem?_eq_some_iff.1 h).1

/-! ### run -/
theorem indexbyte_does (a : List UInt8) (c : UInt8) (σ : St) : Does Try.prog prims 24 [.str a, .int .u8 (c.toNat : Int)] σ (.ret (.int .i64 (Lib.indexByte a c))) σ := by
  apply k24_is.ret (by simp)
  have h := Does_indexByte a (c.toNat : Int) σ
  have e : ((c.toNat : Int).toNat).toUInt8 = c := by simp
  rw [e] at h
  simp only [k24_a, WK, vop, evAll, evOpt, evParts, vbuiltin, vun, vextract, Nat.reduceLT, Nat.reduceEqDiff, ↓reduceIte, reduceCtorEq, Nat.reduceAdd, Int.reduceLT, Int.reduceNeg, valloc_std, noSB]
  refine KD.ret h ?_
  simp only [k24_a, WK, vop, evAll, evOpt, evParts, vbuiltin, vun, vextract, Nat.reduceLT, Nat.reduceEqDiff, ↓reduceIte, reduceCtorEq, Nat.reduceAdd, Int.reduceLT, Int.reduceNeg, valloc_std, noSB]

theorem run_does {σ : St} {p : Nat} {s set : List UInt8} {n : Nat} {v : V} (h : IsL σ p s n v) (hn : n ≤ s.length) (hs : s.length ≤ 1000000000) {P : UInt8 → Bool} (hp : ∀ c, decide (0 ≤ Lib.indexByte set c) = P c) : Does Try.prog prims 23 [.optr p 0, .str set] σ (.ret (.int .i64 ((n + spanL P (s.drop n) : Nat) : Int))) σ := by
  have key : ∃ q σ', Does Try.prog prims 23 [.optr p 0, .str set] σ q σ' ∧ q = .ret (.int .i64 ((n + spanL P (s.drop n) : Nat) : Int)) ∧ σ' = σ := by
    apply k23_is.does (by simp)
    simp only [k23_a, WK, vop, evAll, evOpt, evParts, vbuiltin, vun, vextract, Nat.reduceLT, Nat.reduceEqDiff, ↓reduceIte, reduceCtorEq, Nat.reduceAdd, Int.reduceLT, Int.reduceNeg, valloc_std, noSB, FL1, h.at]
    refine Ev.loopF (fun i e σ' => e 5 = .int .i64 (i : Nat) ∧ n ≤ i ∧ i ≤ s.length ∧ i + spanL P (s.drop i) = n + spanL P (s.drop n) ∧ σ' = σ) (fun i => s.length - i) n ⟨by simp [upd_some], Nat.le_refl _, hn, rfl, rfl⟩ ?_
    rintro i e σ' ⟨h5, hni, hi, hsp, rfl⟩ hf
    have h0 : e 0 = .optr p 0 := (hf 0 (by decide)).trans (by simp [upd_some])
    have h1 : e 1 = .str set := (hf 1 (by decide)).trans (by simp [upd_some])
    clear hf
    by_cases hlt : i < s.length
    · have hlt' : (i : Int) < s.length := by omega
      obtain ⟨c, r, hcr⟩ : ∃ c r, s.drop i = c :: r := ⟨_, _, List.drop_eq_getElem_cons hlt⟩
      have hc : s[i]? = some c := by have := congrArg (·[0]?) hcr; simpa using this
      have hr : s.drop (i + 1) = r := by rw [← List.drop_drop, hcr]; rfl
      have hd := indexbyte_does set c σ'
      have hw := idx_wrap (i := i) (by omega)
      simp only [k23_a, WK, vop, evAll, evOpt, evParts, vbuiltin, vun, vextract, Nat.reduceLT, Nat.reduceEqDiff, ↓reduceIte, reduceCtorEq, Nat.reduceAdd, Int.reduceLT, Int.reduceNeg, valloc_std, noSB, h0, h1, h5, FL0, h.str, vlen_str T9, hlt', str_at hc]
      refine KD.ret hd ?_
      by_cases hin : 0 ≤ Lib.indexByte set c
      · simp only [k23_a, WK, vop, evAll, evOpt, evParts, vbuiltin, vun, vextract, Nat.reduceLT, Nat.reduceEqDiff, ↓reduceIte, reduceCtorEq, Nat.reduceAdd, Int.reduceLT, Int.reduceNeg, valloc_std, noSB, h0, h1, h5, hin, hw]
        have hPc : P c = true := by rw [← hp]; exact decide_eq_true hin
        refine ⟨i + 1, ⟨by simp [upd_some], by omega, hlt, ?_⟩, by omega⟩
        rw [← hsp, hcr, spanL_cons hPc, hr]
        omega
      · simp only [k23_a, WK, vop, evAll, evOpt, evParts, vbuiltin, vun, vextract, Nat.reduceLT, Nat.reduceEqDiff, ↓reduceIte, reduceCtorEq, Nat.reduceAdd, Int.reduceLT, Int.reduceNeg, valloc_std, noSB, h0, h1, h5, hin]
        have hPc : P c = false := by rw [← hp]; exact decide_eq_false hin
        rw [← hsp, hcr, spanL_stop hPc]
        simp
    · have hlt' : ¬ (i : Int) < s.length := by omega
      simp only [k23_a, WK, vop, evAll, evOpt, evParts, vbuiltin, vun, vextract, Nat.reduceLT, Nat.reduceEqDiff, ↓reduceIte, reduceCtorEq, Nat.reduceAdd, Int.reduceLT, Int.reduceNeg, valloc_std, noSB, h0, h1, h5, FL0, h.str, vlen_str T9, hlt']
      rw [← hsp, List.drop_of_length_le (by omega), spanL_nil]
      simp
  obtain ⟨q, σ', h1, rfl, rfl⟩ := key
  exact h1

/-! ### blank -/
theorem blank_does {σ : St} {p : Nat} {s : List UInt8} {n : Nat} {v : V} (h : IsL σ p s n v) (hn : n ≤ s.length) (hs : s.length ≤ 1000000000) : ∃ σ', Does Try.prog prims 14 [.optr p 0] σ (.ret (.tuple [])) σ' ∧ IsL σ' p s (n + skipL (s.drop n)) v ∧ KeepX p σ σ' ∧ σ'.toks = σ.toks := by
  have key : ∃ q σ', Does Try.prog prims 14 [.optr p 0] σ q σ' ∧ q = .ret (.tuple []) ∧ IsL σ' p s (n + skipL (s.drop n)) v ∧ KeepX p σ σ' ∧ σ'.toks = σ.toks := by
    apply k14_is.does (by simp)
    simp only [k14_a, WK, vop, evAll, evOpt, evParts, vbuiltin, vun, vextract, Nat.reduceLT, Nat.reduceEqDiff, ↓reduceIte, reduceCtorEq, Nat.reduceAdd, Int.reduceLT, Int.reduceNeg, valloc_std, noSB]
    refine Ev.loopF (fun i e σ' => i ≤ s.length ∧ n ≤ i ∧ IsL σ' p s i v ∧ i + skipL (s.drop i) = n + skipL (s.drop n) ∧ KeepX p σ σ' ∧ σ'.toks = σ.toks) (fun i => s.length - i) n ⟨hn, Nat.le_refl _, h, rfl, KeepX.refl _ _, rfl⟩ ?_
    rintro i e σ' ⟨hi, hni, hl, hsp, hk, ht⟩ hf
    have h0 : e 0 = .optr p 0 := (hf 0 (by decide)).trans (by simp)
    clear hf
    obtain ⟨j, hj⟩ : ∃ j, j = i + spanL isBl (s.drop i) := ⟨_, rfl⟩
    have hspl := spanL_le isBl (s.drop i)
    rw [List.length_drop] at hspl
    have hd := run_does hl hi hs in_blanks
    rw [← hj] at hd
    obtain ⟨s2, hst, l2, k2, t2⟩ := hl.setAt j
    have hjl : j ≤ s.length := by omega
    have hspj : j + skipL (s.drop j) = n + skipL (s.drop n) := by
      rw [← hsp, skipL_span (s.drop i), List.drop_drop, ← hj]; omega
    have fin : ∀ σ'', IsL σ'' p s j v → skipL (s.drop j) = 0 → IsL σ'' p s (n + skipL (s.drop n)) v := by
      intro σ'' h1 h2
      rw [← hspj, h2]; exact h1
    simp only [k14_a, WK, vop, evAll, evOpt, evParts, vbuiltin, vun, vextract, Nat.reduceLT, Nat.reduceEqDiff, ↓reduceIte, reduceCtorEq, Nat.reduceAdd, Int.reduceLT, Int.reduceNeg, valloc_std, noSB, h0, ofVal_str]
    refine KD.ret hd ?_
    by_cases hlt : j < s.length
    · obtain ⟨c, r, hcr⟩ : ∃ c r, s.drop j = c :: r := ⟨_, _, List.drop_eq_getElem_cons hlt⟩
      have hc : s[j]? = some c := by have := congrArg (·[0]?) hcr; simpa using this
      have hge : ¬ (s.length : Int) ≤ j := by omega
      have hbl : isBl c = false := span_stop (l := s.drop i) (by rw [List.drop_drop, ← hj]; exact hcr)
      by_cases h35 : c = 35
      · subst h35
        have h35' : ((35 : UInt8).toNat : Int) = 35 := rfl
        have hdx := indexbyte_does (s.drop j) 10 s2
        have h10 : ((10 : UInt8).toNat : Int) = 10 := rfl
        rw [h10] at hdx
        have hnote := skipL_note hcr
        have hix := Lib.indexByte_ge (s.drop j) 10
        obtain ⟨x, hx⟩ : ∃ x, x = Lib.indexByte (s.drop j) 10 := ⟨_, rfl⟩
        rw [← hx] at hdx hnote hix
        simp only [k14_a, WK, vop, evAll, evOpt, evParts, vbuiltin, vun, vextract, Nat.reduceLT, Nat.reduceEqDiff, ↓reduceIte, reduceCtorEq, Nat.reduceAdd, Int.reduceLT, Int.reduceNeg, valloc_std, noSB, h0, ofVal_str, FL0, FL1, hst, l2.str, l2.at, vlen_str T9, hge, str_at hc, h35', T9, str_lo hjl]
        refine KD.ret hdx ?_
        by_cases hx0 : 0 ≤ x
        · obtain ⟨y, rfl⟩ : ∃ y : Nat, x = (y : Int) := ⟨x.toNat, by omega⟩
          have hyl := (List.getElem?_eq_some_iff.1 (Lib.indexByte_some hx.symm).1).1
          rw [List.length_drop] at hyl
          rw [if_pos hx0, Int.toNat_natCast] at hnote
          have hw : IntKind.i64.wrap ((j : Int) + (y : Int)) = ((j + y : Nat) : Int) := by rw [show (j : Int) + (y : Int) = ((j + y : Nat) : Int) by omega]; exact wrap_nat (by omega)
          obtain ⟨s3, hst3, l3, k3, t3⟩ := l2.setAt (j + y)
          simp only [k14_a, WK, vop, evAll, evOpt, evParts, vbuiltin, vun, vextract, Nat.reduceLT, Nat.reduceEqDiff, ↓reduceIte, reduceCtorEq, Nat.reduceAdd, Int.reduceLT, Int.reduceNeg, valloc_std, noSB, h0, hx0, FL1, l2.at, hw, hst3]
          have hypos : 0 < y := by
            rcases Nat.eq_zero_or_pos y with h | h
            · subst h
              have h9 := (Lib.indexByte_some hx.symm).1
              rw [hcr] at h9
              simp at h9
            · exact h
          refine ⟨j + y, ⟨by omega, by omega, l3, ?_, (hk.trans k2).trans k3, t3.trans (t2.trans ht)⟩, by omega⟩
          rw [← hspj, hnote, List.drop_drop]
          omega
        · rw [if_neg hx0, List.length_drop] at hnote
          obtain ⟨s3, hst3, l3, k3, t3⟩ := l2.setAt s.length
          simp only [k14_a, WK, vop, evAll, evOpt, evParts, vbuiltin, vun, vextract, Nat.reduceLT, Nat.reduceEqDiff, ↓reduceIte, reduceCtorEq, Nat.reduceAdd, Int.reduceLT, Int.reduceNeg, valloc_std, noSB, h0, hx0, FL0, FL1, l2.str, vlen_str T9, hst3]
          refine ⟨s.length, ⟨Nat.le_refl _, by omega, l3, ?_, (hk.trans k2).trans k3, t3.trans (t2.trans ht)⟩, by omega⟩
          rw [← hspj, hnote, List.drop_of_length_le (Nat.le_refl _)]
          simp [skipL]
          omega
      · have h35' : ¬ (c.toNat : Int) = 35 := fun e => h35 (by rw [← UInt8.ofNat_toNat (x := c), show c.toNat = 35 by omega]; rfl)
        simp only [k14_a, WK, vop, evAll, evOpt, evParts, vbuiltin, vun, vextract, Nat.reduceLT, Nat.reduceEqDiff, ↓reduceIte, reduceCtorEq, Nat.reduceAdd, Int.reduceLT, Int.reduceNeg, valloc_std, noSB, h0, ofVal_str, FL0, FL1, hst, l2.str, l2.at, vlen_str T9, hge, str_at hc, h35']
        exact ⟨fin _ l2 (skipL_stop hcr hbl h35), hk.trans k2, t2.trans ht⟩
    · have hge : (s.length : Int) ≤ j := by omega
      simp only [k14_a, WK, vop, evAll, evOpt, evParts, vbuiltin, vun, vextract, Nat.reduceLT, Nat.reduceEqDiff, ↓reduceIte, reduceCtorEq, Nat.reduceAdd, Int.reduceLT, Int.reduceNeg, valloc_std, noSB, h0, ofVal_str, FL0, FL1, hst, l2.str, l2.at, vlen_str T9, hge]
      exact ⟨fin _ l2 (by rw [List.drop_of_length_le (by omega)]; rfl), hk.trans k2, t2.trans ht⟩
  obtain ⟨q, σ', h1, rfl, h2⟩ := key
  exact ⟨σ', h1, h2⟩

/-! ### fail and add -/
def faultV (n : Nat) (e : Int) : V := .iface 39 (.agg [.int .i64 n, .int .i64 e])
theorem BF (a b : Int) : vbuild Try.prog 39 [(0, .int .i64 a), (1, .int .i64 b)] = some (.agg [.int .i64 a, .int .i64 b]) := by kernel_rfl
theorem MF (v : V) : vmakeIface Try.prog 39 v = some (.iface 39 v) := by kernel_rfl
theorem fail_does (x : V) (n : Nat) (e : Int) (σ : St) : Does Try.prog prims 25 [x, .int .i64 n, .int .i64 e] σ (.pan (faultV n e)) σ := by
  have key : ∃ q σ', Does Try.prog prims 25 [x, .int .i64 n, .int .i64 e] σ q σ' ∧ q = .pan (faultV n e) ∧ σ' = σ := by
    apply k25_is.does (by simp)
    simp only [k25_a, WK, vop, evAll, evOpt, evParts, vbuiltin, vun, vextract, Nat.reduceLT, Nat.reduceEqDiff, ↓reduceIte, reduceCtorEq, Nat.reduceAdd, Int.reduceLT, Int.reduceNeg, valloc_std, noSB, BF, MF]
    rfl
  obtain ⟨q, σ', h, rfl, rfl⟩ := key
  exact h

/-- All objects but one, and the tokens below m, stay. -/
def KeepM (p m : Nat) (σ σ' : St) : Prop := (∀ (q : Nat) (o : Ob), q ≠ p → σ.objs[q]? = some o → σ'.objs[q]? = some o) ∧ σ.toks.length ≤ σ'.toks.length ∧ ∀ k, k < m → tokLive σ.toks k = true → tokLive σ'.toks k = true
theorem KeepM.refl (p m : Nat) (σ : St) : KeepM p m σ σ := ⟨fun _ _ _ h => h, Nat.le_refl _, fun _ _ h => h⟩
theorem KeepM.trans {p m : Nat} {a b c : St} (h : KeepM p m a b) (h2 : KeepM p m b c) : KeepM p m a c := ⟨fun q o hq ho => h2.1 q o hq (h.1 q o hq ho), Nat.le_trans h.2.1 h2.2.1, fun k hm hk => h2.2.2 k hm (h.2.2 k hm hk)⟩
theorem KeepX.m {p : Nat} {σ σ' : St} (h : KeepX p σ σ') (m : Nat) : KeepM p m σ σ' := ⟨h.1, h.2.1, fun k _ hk => h.2.2 k hk⟩
theorem Keep.m {σ σ' : St} (h : Keep σ σ') (p m : Nat) : KeepM p m σ σ' := ⟨fun q o _ ho => h.1 q o ho, h.2.1, fun k _ hk => h.2.2 k hk⟩
theorem KeepM.via {r p m : Nat} {σ σ1 σ2 : St} (h : KeepM r m σ σ1) (h2 : KeepM p m σ1 σ2) (hp : σ.objs.length ≤ p) : KeepM r m σ σ2 :=
  ⟨fun q o hq ho => h2.1 q o (by have := (List.getElem?_eq_some_iff.1 ho).1; omega) (h.1 q o hq ho), Nat.le_trans h.2.1 h2.2.1, fun k hm hk => h2.2.2 k hm (h.2.2 k hm hk)⟩
theorem OwnR.appendM {P : Program} {t t2 e : TypeId} {k by_ : Nat} (hT : RowT P t e k by_) {m : Nat} {σ : St} {v y : V} {cs ys : List V} {n l : Nat} (h : OwnR e k m σ v cs n) (hm : m ≤ σ.toks.length) (hnews : vnews P t2 y k = some (ys, l)) (hyl : ys.length = l * k) (hone : ys.all one = true) (hl : n + l ≤ 140737488355328) (hb : (n + l) * by_ ≤ 140737488355328) :
    ∃ v' σ', vappend P σ t t2 v y = some (v', σ') ∧ OwnR e k m σ' v' (cs ++ ys) (n + l) ∧ σ'.objs = σ.objs ∧ σ.toks.length ≤ σ'.toks.length ∧ ∀ k, k < m → tokLive σ.toks k = true → tokLive σ'.toks k = true := by
  have hlt : ∀ k, tokLive (σ.toks.take m) k = true → tokLive σ.toks k = true ∧ k < m := by
    intro k hk
    have h1 := tokLive_lt hk
    rw [List.length_take] at h1
    refine ⟨?_, by omega⟩
    unfold tokLive at hk ⊢
    rw [List.getD_eq_getElem?_getD, List.getElem?_take_of_lt (by omega)] at hk
    rw [List.getD_eq_getElem?_getD]; exact hk
  have hle : ∀ k, k < m → tokLive σ.toks k = true → tokLive (σ.toks.take m) k = true := by
    intro k hk h1
    unfold tokLive at h1 ⊢
    rw [List.getD_eq_getElem?_getD] at h1 ⊢
    rw [List.getElem?_take_of_lt hk]; exact h1
  have hgrow : ∀ (σ' : St) (v' : V), vappend P σ t t2 v y = some (v', σ') → σ.toks.length ≤ σ'.toks.length := by
    intro σ' v' ha
    unfold vappend at ha
    repeat' split at ha
    all_goals first
      | (cases ha; done)
      | (injection ha with ha; injection ha with h1 h2; subst h2; simp [killTok])
  obtain ⟨v', σ', h1, h2, h3, h4⟩ := h.append hT (σ0 := ⟨[], σ.toks.take m⟩) (by simp; omega) ⟨fun r o ho => by simp at ho, by simp; omega, fun k hk => (hlt k hk).1⟩ hnews hyl hone hl hb
  exact ⟨v', σ', h1, h2, h4, hgrow _ _ h1, fun k hk hl => h3.2.2 k (hle k hk hl)⟩

def tokC (t : Tok) : List V := [.int .i64 t.kind, .str t.text, .int .i64 t.num, .int .i64 t.pos]
theorem tokC_len (t : Tok) : (tokC t).length = 4 := rfl
def LexR (σ : St) (p : Nat) (s : List UInt8) (n : Nat) (toks : List Tok) (m : Nat) : Prop := ∃ v, IsL σ p s n v ∧ OwnR 32 4 m σ v (toks.flatMap tokC) toks.length ∧ m ≤ σ.toks.length
theorem build1T {c : List V} (hc : c.length = 4) : vbuildSlice Try.prog 23 1 [(0, .agg c)] = some (.slice .exact 4 c 1) := by
  obtain ⟨z', hz', hl'⟩ : ∃ z', z' = vcells (.agg tok0C) ∧ z'.length = 4 := ⟨_, rfl, rfl⟩
  simp only [vbuildSlice, TT, SK, ZK, ← hz', hl']
  have h0 : (zeroCellsV z' (1 * 4)).length = 4 := by simp [zeroCellsV]
  have h1 : vfill (fun i => some (i * 4, 4)) (zeroCellsV z' (1 * 4)) [(0, .agg c)] = some c := by
    simp only [vfill, vcells, hc, h0]
    rw [setAll_take _ _ _ (by rw [hc, h0]; omega)]
    have : List.drop (0 * 4 + c.length) (zeroCellsV z' (1 * 4)) = [] := List.drop_of_length_le (by rw [h0, hc]; omega)
    rw [this]
    simp
  simp [h1]
theorem LexR.at {σ : St} {p : Nat} {s : List UInt8} {n : Nat} {toks : List Tok} {m : Nat} (h : LexR σ p s n toks m) : ∃ v, IsL σ p s n v := let ⟨v, h1, _⟩ := h; ⟨v, h1⟩

/-- How a token's taking ends. -/
def AddR (p m : Nat) (s : List UInt8) (n : Nat) (toks : List Tok) (t : Tok) (w : Nat) (σ : St) (q : VRes) (σ' : St) : Prop :=
  KeepM p m σ σ' ∧ if 4096 ≤ toks.length then q = .pan (faultV n 36) else q = .ret (.tuple []) ∧ LexR σ' p s w (toks ++ [t]) m

set_option maxRecDepth 100000 in
theorem add_does {σ : St} {p : Nat} {s : List UInt8} {n : Nat} {toks : List Tok} {m : Nat} (h : LexR σ p s n toks m) (hl : toks.length ≤ 4096) (k : Int) (tx : List UInt8) (nm : Nat) (a0 : Int) (w : Nat) :
    ∃ q σ', Does Try.prog prims 16 [.optr p 0, .agg [.int .i64 k, .str tx, .int .i64 nm, .int .i64 a0], .int .i64 w] σ q σ' ∧ AddR p m s n toks ⟨k, tx, nm, n⟩ w σ q σ' := by
  apply k16_is.does (by simp)
  obtain ⟨v, hL, hO, hm⟩ := h
  obtain ⟨s1, hs1⟩ : ∃ s1 : St, s1 = ⟨σ.objs ++ [Ob.cells [.int .i64 k, .str tx, .int .i64 nm, .int .i64 a0]], σ.toks⟩ := ⟨_, rfl⟩
  have k1 : Keep σ s1 := by rw [hs1]; exact (Keep.refl σ).push _
  have b1 : s1.objs[σ.objs.length]? = some (.cells [.int .i64 k, .str tx, .int .i64 nm, .int .i64 a0]) := by rw [hs1]; exact push_new _ _
  have L1 : IsL s1 p s n v := k1.1 _ _ hL
  have hpb : p < σ.objs.length := hL.lt
  have t1 : s1.toks = σ.toks := by rw [hs1]
  simp only [k16_a, WK, vop, evAll, evOpt, evParts, vbuiltin, vun, vextract, Nat.reduceLT, Nat.reduceEqDiff, ↓reduceIte, reduceCtorEq, Nat.reduceAdd, Int.reduceLT, Int.reduceNeg, valloc_std, noSB, vbox, vcells, ← hs1, FL1, FL2, L1.out, hO.row.len TT, L1.at]
  by_cases h4 : 4096 ≤ toks.length
  · have h4' : (4096 : Int) ≤ toks.length := by omega
    simp only [k16_a, WK, vop, evAll, evOpt, evParts, vbuiltin, vun, vextract, Nat.reduceLT, Nat.reduceEqDiff, ↓reduceIte, reduceCtorEq, Nat.reduceAdd, Int.reduceLT, Int.reduceNeg, valloc_std, noSB, h4', FL1, L1.at]
    refine KD.pan (fail_does _ n 36 s1) ?_
    simp only [WK, vop, evAll, evOpt, evParts, vbuiltin, vun, vextract, Nat.reduceLT, Nat.reduceEqDiff, ↓reduceIte, reduceCtorEq, Nat.reduceAdd, Int.reduceLT, Int.reduceNeg, valloc_std, noSB]
    exact ⟨k1.m p m, by rw [if_pos h4]⟩
  · have h4' : ¬ (4096 : Int) ≤ toks.length := by omega
    obtain ⟨s2, hs2⟩ : ∃ s2 : St, s2 = ⟨s1.objs.set σ.objs.length (.cells [.int .i64 k, .str tx, .int .i64 nm, .int .i64 n]), s1.toks⟩ := ⟨_, rfl⟩
    obtain ⟨k2, b2⟩ := KeepX.set_eq b1 hs2
    have hst : vstore Try.prog s1 3 (.optr σ.objs.length 3) (.int .i64 n) = some s2 := by rw [vstore_obj b1 S3 rfl (by simp), hs2]; rfl
    have L2 : IsL s2 p s n v := k2.1 _ _ (by omega) L1
    have t2 : s2.toks = s1.toks := by rw [hs2]
    have O2 : OwnR 32 4 m s2 v (toks.flatMap tokC) toks.length := hO.keep fun k hk => by rw [t2, t1]; exact hk
    have hld : vload Try.prog s2.objs 32 (.optr σ.objs.length 0) = some (.agg [.int .i64 k, .str tx, .int .i64 nm, .int .i64 n]) := vload_agg b2 GK SK
    obtain ⟨v3, s3, ha3, ho3, hob3, hg3, hk3⟩ := O2.appendM TRT (by rw [t2, t1]; exact hm) (t2 := 23) (y := .slice .exact 4 [.int .i64 k, .str tx, .int .i64 nm, .int .i64 n] 1) (ys := [.int .i64 k, .str tx, .int .i64 nm, .int .i64 n]) (l := 1) (by simp [vnews, TT]) rfl rfl (by omega) (by omega)
    have L3 : IsL s3 p s n v := by unfold IsL; rw [hob3]; exact L2
    obtain ⟨s4, hst4, L4, k4, t4⟩ := L3.setOut ho3.row.one
    obtain ⟨s5, hst5, L5, k5, t5⟩ := L4.setAt w
    simp only [k16_a, WK, vop, evAll, evOpt, evParts, vbuiltin, vun, vextract, Nat.reduceLT, Nat.reduceEqDiff, ↓reduceIte, reduceCtorEq, Nat.reduceAdd, Int.reduceLT, Int.reduceNeg, valloc_std, noSB, h4', FL1, FL2, FK3, L1.at, hst, L2.out, hld, build1T (show [V.int .i64 k, .str tx, .int .i64 nm, .int .i64 n].length = 4 from rfl), ha3, hst4, hst5]
    have kk : KeepM p m s2 s3 := ⟨fun q o _ ho => by rw [hob3]; exact ho, hg3, hk3⟩
    refine ⟨((((k1.m p m).via (k2.m m) (Nat.le_refl _)).trans kk).trans (k4.m m)).trans (k5.m m), ?_⟩
    rw [if_neg h4]
    refine ⟨rfl, v3, L5, ?_, by rw [t5, t4]; rw [t2, t1] at hg3; omega⟩
    have : (toks ++ [(⟨k, tx, nm, n⟩ : Tok)]).flatMap tokC = toks.flatMap tokC ++ [.int .i64 k, .str tx, .int .i64 nm, .int .i64 n] := by simp [tokC]
    rw [this, List.length_append, List.length_singleton]
    exact ho3.keep fun k hk => by rw [t5, t4]; exact hk
end Go.Proofs.Ytodcajpeilgfgaa.Q
