import Derived.Test.YtmcadfejkcpblaaMm
set_option linter.unusedVariables false
set_option linter.unusedSimpArgs false
set_option maxRecDepth 100000
namespace Go.Proofs.Ytmcadfejkcpblaa.Q
open Go Go.RowKit Go.Proofs

theorem PT : Try.prog.underlying 40 = some (.pointer 54) := by kernel_rfl
theorem FA0 (r : Nat) : vfieldAddr Try.prog 54 (.optr r 0) 0 = some (.optr r 0) := by kernel_rfl
theorem FA1 (r : Nat) : vfieldAddr Try.prog 54 (.optr r 0) 1 = some (.optr r 1) := by kernel_rfl
theorem BU (v : V) (h : one v = true) : vbuild Try.prog 54 [(0, v)] = some (.agg [v, .bool false]) := by
  cases v <;> first | (cases h; done) | kernel_rfl
/-- Object r is a reader that has these bytes left. -/
def Rdr (σ : St) (r : Nat) (bs : List UInt8) (bad : Bool) : Prop := ∃ v, σ.objs[r]? = some (.cells [v, .bool bad]) ∧ BtsV v bs
theorem Rdr.keep {σ σ' : St} {r q : Nat} {bs : List UInt8} {bad : Bool} (h : Rdr σ r bs bad) (hk : KeepX q σ σ') (hne : r ≠ q) : Rdr σ' r bs bad := by
  obtain ⟨v, h1, h2⟩ := h
  exact ⟨v, hk.1 r _ hne h1, h2⟩
theorem Rdr.keep' {σ σ' : St} {r : Nat} {bs : List UInt8} {bad : Bool} (h : Rdr σ r bs bad) (hk : Keep σ σ') : Rdr σ' r bs bad := by
  obtain ⟨v, h1, h2⟩ := h
  exact ⟨v, hk.1 r _ h1, h2⟩

/-- A copy that is no written row. -/
theorem ownCopy {σ : St} {v : V} {bs : List UInt8} (hv : RB σ v bs) (hl : bs.length ≤ 140737488300000) : ∃ v' σ', vappend Try.prog σ 22 22 (.slice .exact 1 [] 0) v = some (v', σ') ∧ BtsV v' bs ∧ Keep σ σ' ∧ σ'.objs = σ.objs := by
  have ho1 : OwnV 5 σ.toks.length σ (.slice .exact 1 [] 0) [] := .inr ⟨_, rfl, .inl rfl⟩
  obtain ⟨v', σ', h1, h2, h3, h4⟩ := ho1.toR.appendO BT.row rfl (Keep.refl σ) (hv.news) (by simp) (byteV_one bs) (by simp; omega) (by simp; omega)
  refine ⟨v', σ', h1, ?_, h3, h4⟩
  rw [List.map_nil, List.nil_append] at h2
  exact (OwnR.toV h2).bts
theorem new_does {v : V} {bs : List UInt8} {σ : St} (hv : RB σ v bs) (hlen : bs.length ≤ 140737488300000) : ∃ σ', Does Try.prog prims 19 [v] σ (.ret (.optr σ.objs.length 0)) σ' ∧ Keep σ σ' ∧ Rdr σ' σ.objs.length bs false ∧ σ'.objs.length = σ.objs.length + 1 := by
  have key : ∃ r σ', Does Try.prog prims 19 [v] σ r σ' ∧ r = .ret (.optr σ.objs.length 0) ∧ Keep σ σ' ∧ Rdr σ' σ.objs.length bs false ∧ σ'.objs.length = σ.objs.length + 1 := by
    apply k19_is.does (by simp)
    obtain ⟨v', σ', ha, ho, hk, hob⟩ := ownCopy hv hlen
    simp only [k19_a, WK, vop, evAll, evOpt, evParts, vbuiltin, vun, vextract, Nat.reduceLT, Nat.reduceEqDiff, ↓reduceIte, reduceCtorEq, Nat.reduceAdd, Int.reduceLT, Int.reduceNeg, valloc_std, noSB, vhot, List.getD_cons_zero, build0 BT, ha, BU v' ho.one, vbox, vcells, hob]
    refine ⟨⟨fun r o h => ?_, hk.2⟩, ⟨v', ?_, ho⟩, by simp⟩
    · simp only
      rw [List.getElem?_append_left (List.getElem?_eq_some_iff.1 h).1]
      exact h
    · simp
  obtain ⟨r, σ', h1, rfl, h2, h3, h4⟩ := key
  exact ⟨σ', h1, h2, h3, h4⟩
theorem bytes_all {σ : St} {r : Nat} {bs : List UInt8} (h : Rdr σ r bs false) (hlen : bs.length ≤ 140737488300000) :
    ∃ v q σ', Does Try.prog prims 20 [.optr r 0, .int .i64 (bs.length : Nat)] σ (.ret v) σ' ∧ KeepX r σ σ' ∧ Rdr σ' r [] false ∧ HB σ' v q bs ∧ σ.objs.length ≤ q := by
  obtain ⟨v, hv, hb⟩ := h
  have hrl : r < σ.objs.length := (List.getElem?_eq_some_iff.1 hv).1
  have key : ∃ p σ', Does Try.prog prims 20 [.optr r 0, .int .i64 (bs.length : Nat)] σ p σ' ∧ ∃ w q, p = .ret w ∧ KeepX r σ σ' ∧ Rdr σ' r [] false ∧ HB σ' w q bs ∧ σ.objs.length ≤ q := by
    apply k20_is.does (by simp)
    have hn : ¬ ((bs.length : Nat) : Int) < 0 := by omega
    have hg : ¬ ((bs.length : Nat) : Int) < ((bs.length : Nat) : Int) := by omega
    obtain ⟨w1, hw1, ht1⟩ := hb.slice T22 S5 (lo := none) (hi := some (.int .i64 (bs.length : Nat))) (vbounds_hi (by omega) (by omega)) (by omega) (by omega)
    obtain ⟨w2, hw2, ht2⟩ := hb.slice T22 S5 (lo := some (.int .i64 (bs.length : Nat))) (hi := none) (vbounds_lo (by omega) (by omega)) (by omega) (by omega)
    have e1 : (bs.drop 0).take ((bs.length : Int).toNat - 0) = bs := by rw [List.drop_zero]; exact List.take_of_length_le (by omega)
    have e2 : (bs.drop (bs.length : Int).toNat).take (bs.length - (bs.length : Int).toNat) = [] := by rw [List.drop_of_length_le (by omega)]; simp
    rw [e1] at ht1
    rw [e2] at ht2
    obtain ⟨s1, hs1⟩ : ∃ s1 : St, s1 = ⟨σ.objs ++ [.cells []], σ.toks⟩ := ⟨_, rfl⟩
    have k1 : Keep σ s1 := by rw [hs1]; exact (Keep.refl σ).push _
    have hl0 := litRow0 σ
    rw [← hs1] at hl0
    have h1 : HB s1 (.hslice σ.objs.length 0 1 0) σ.objs.length [] := by rw [hs1]; exact made _ [] rfl
    obtain ⟨v2, q, s2, ha, h2, k2, hq⟩ := h1.append (y := w1) (ys := bs) (.inl ht1) (by simp; omega)
    rw [List.nil_append] at h2
    have k2' : Keep σ s2 := k1.overX k2 (Nat.le_refl _)
    have hq' : σ.objs.length ≤ q := by
      have := Keep.olen k1
      rcases hq with h | h <;> omega
    have hv1 := k1.1 _ _ hv
    have hv2 := k2'.1 _ _ hv
    have hst2 : vstore Try.prog s2 22 (.optr r 0) w2 = some ⟨s2.objs.set r (.cells [w2, .bool false]), s2.toks⟩ := by
      rw [vstore_obj hv2 S22 ht2.one (by simp)]; rfl
    simp only [k20_a, WK, vop, evAll, evOpt, evParts, vbuiltin, vun, vextract, Nat.reduceLT, Nat.reduceEqDiff, ↓reduceIte, reduceCtorEq, Nat.reduceAdd, Int.reduceLT, Int.reduceNeg, valloc_std, noSB, vhot, List.getD_cons_zero, List.getD_cons_succ, eql_optr PT, FA1, FA0, vload_obj hv G4, vload_obj hv G22, vload_obj hv1 G22, vload_obj hv2 G22, hb.len T22, hn, hg, T22, hw1, hw2, hl0, ha, hst2]
    refine ⟨_, q, rfl, (k2'.x r).trans (KeepX.set r _ s2), ⟨w2, obj_set hv2, ht2⟩, h2.keepX (KeepX.set r _ s2) (by omega), hq'⟩
  obtain ⟨p, σ', h1, w, q, rfl, h2⟩ := key
  exact ⟨w, q, σ', h1, h2⟩
theorem end_true {σ : St} {r : Nat} (h : Rdr σ r [] false) : Does Try.prog prims 21 [.optr r 0] σ (.ret (.bool true)) σ := by
  obtain ⟨v, hv, hb⟩ := h
  apply k21_is.ret (by simp)
  simp only [k21_a, WK, vop, evAll, evOpt, evParts, vbuiltin, vun, vextract, Nat.reduceLT, Nat.reduceEqDiff, ↓reduceIte, reduceCtorEq, Nat.reduceAdd, Int.reduceLT, Int.reduceNeg, valloc_std, noSB, vhot, List.getD_cons_zero, neq_optr PT, FA1, FA0, vload_obj hv G4, vload_obj hv G22, hb.len T22]
  rfl
theorem wakes_run : isTrue (vcall Try.prog prims 300 11 [] st0) = true := by kernel_rfl
theorem wakes_does : ∃ σ, Does Try.prog prims 11 [] st0 (.ret (.bool true)) σ := by
  obtain ⟨σ, h⟩ := isTrue_eq wakes_run
  exact ⟨σ, 300, h⟩

/-! ### Parts of the law -/
theorem litRow3 (σ : St) : vbuildRow Try.prog σ 22 3 [(0, .int .u8 71), (1, .int .u8 72), (2, .int .u8 73)] = some (.hslice σ.objs.length 0 1 3, ⟨σ.objs ++ [.cells [.int .u8 71, .int .u8 72, .int .u8 73]], σ.toks⟩) := by
  have hz := BT.z
  have e : List.range 3 = [0, 1, 2] := by decide
  simp [vbuildRow, T22, S5, hz, vcells, zeroCellsV, vfill, setAll, e]
/-- A byte is written. -/
theorem HB.set {σ : St} {v : V} {r : Nat} {bs : List UInt8} (h : HB σ v r bs) {i n : Nat} (hi : i < bs.length) (hn : n < 256) : ∃ σ', vindexAddr Try.prog 22 v (.int .i64 (i : Int)) = some (.optr r i) ∧ vstore Try.prog σ 5 (.optr r i) (.int .u8 (n : Int)) = some σ' ∧ HB σ' v r (bs.set i (UInt8.ofNat n)) ∧ KeepX r σ σ' := by
  have hi' : (i : Int) < bs.length := by omega
  have e : byteV (UInt8.ofNat n) = .int .u8 (n : Int) := by
    have : (UInt8.ofNat n).toNat = n := by simp; omega
    simp only [byteV, this]
  obtain ⟨σ', hs⟩ : ∃ σ' : St, σ' = ⟨σ.objs.set r (.cells ((bs.set i (UInt8.ofNat n)).map byteV)), σ.toks⟩ := ⟨_, rfl⟩
  obtain ⟨k, hk⟩ := KeepX.set_eq h.2 hs
  refine ⟨σ', by rw [h.1]; simp [vindexAddr, T22, S5, hi'], ?_, ⟨by rw [List.length_set]; exact h.1, hk⟩, k⟩
  rw [vstore_obj h.2 S5 rfl (by simpa using hi), hs, List.map_set, e]
theorem KeepX.over {σ σ1 σ2 : St} {r q : Nat} (h : KeepX r σ σ1) (h2 : KeepX q σ1 σ2) (hq : q = r ∨ σ.objs.length ≤ q) : KeepX r σ σ2 := by
  refine ⟨fun p o hp ho => h2.1 p o ?_ (h.1 p o hp ho), Nat.le_trans h.2.1 h2.2.1, fun k hk => h2.2.2 k (h.2.2 k hk)⟩
  have := (List.getElem?_eq_some_iff.1 ho).1
  rcases hq with hq | hq <;> omega
theorem IR : RowT Try.prog 30 3 1 8 := ⟨IT.u, by kernel_rfl, ⟨_, (by kernel_rfl : zeroT Try.prog 3 = some (.int .i64 0)), rfl⟩, by kernel_rfl, by omega⟩
theorem ib0 : vbuildSlice Try.prog 30 0 [] = some (.slice .exact 1 [] 0) := by kernel_rfl
theorem intsCopy {σ : St} {w : V} {xs : List Int} (hw : IntsV w xs) (hl : xs.length ≤ 1000000000) : ∃ v' σ', vappend Try.prog σ 30 30 (.slice .exact 1 [] 0) w = some (v', σ') ∧ IntsV v' xs ∧ Keep σ σ' ∧ σ'.objs = σ.objs := by
  have ho1 : OwnR 3 1 σ.toks.length σ (.slice .exact 1 [] 0) [] 0 := ⟨by simp, .inr ⟨_, rfl, .inl rfl⟩⟩
  have hn : vnews Try.prog 30 w 1 = some (xs.map i64V, xs.length) := by
    rcases hw.1 with ⟨rfl, rfl⟩ | ⟨p, rfl⟩ <;> simp [vnews, IT.u]
  have h1 : (xs.map i64V).all one = true := by
    rw [List.all_eq_true]
    intro v hv
    rw [List.mem_map] at hv
    obtain ⟨b, _, rfl⟩ := hv
    rfl
  obtain ⟨v', σ', ha, ho, hk, hob⟩ := ho1.append IR rfl (Keep.refl σ) hn (by simp) h1 (by omega) (by omega)
  refine ⟨v', σ', ha, ⟨?_, hw.2⟩, hk, hob⟩
  rw [List.nil_append, Nat.zero_add] at ho
  rcases ho.2 with ⟨h, h0⟩ | ⟨p, h, _⟩
  · exact .inl ⟨h, List.length_eq_zero_iff.1 h0⟩
  · exact .inr ⟨p, h⟩
end Go.Proofs.Ytmcadfejkcpblaa.Q
