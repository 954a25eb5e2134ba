import Derived.Test.YtlimedbanpfkgaaTd
set_option linter.unusedVariables false
set_option linter.unusedSimpArgs false
set_option maxRecDepth 100000
namespace Go.Proofs.Ytlimedbanpfkgaa.Q
open Go Go.RowKit Go.Proofs

/-- Whether n bytes can be read. -/
def canS (bs : List UInt8) (bad : Bool) (n : Int) : Bool := !bad && decide (0 ≤ n) && decide (n ≤ bs.length)
/-- What a reading of n bytes leaves. -/
def bytS (bs : List UInt8) (bad : Bool) (n : Int) : List UInt8 × List UInt8 × Bool := if canS bs bad n = true then (bs.take n.toNat, bs.drop n.toNat, false) else ([], bs, true)

theorem bytes_does {σ : St} {r : Nat} {bs : List UInt8} {bad : Bool} (h : Rdr σ r bs bad) (hlen : bs.length ≤ 140737488300000) (n : Int) :
    ∃ v σ', Does Try.prog prims 84 [.optr r 0, .int .i64 n] σ (.ret v) σ' ∧ KeepX r σ σ' ∧ Rdr σ' r (bytS bs bad n).2.1 (bytS bs bad n).2.2 ∧ BtsV v (bytS bs bad n).1 := by
  obtain ⟨v, hv, hb⟩ := h
  have key : ∃ q σ', Does Try.prog prims 84 [.optr r 0, .int .i64 n] σ q σ' ∧ ∃ w, q = .ret w ∧ KeepX r σ σ' ∧ Rdr σ' r (bytS bs bad n).2.1 (bytS bs bad n).2.2 ∧ BtsV w (bytS bs bad n).1 := by
    apply k84_is.does (by simp)
    cases bad with
    | true =>
      have hc : bytS bs true n = ([], bs, true) := by simp [bytS, canS]
      simp only [k84_a, WK, vop, evAll, evOpt, evParts, vbuiltin, vun, vextract, Nat.reduceLT, Nat.reduceEqDiff, ↓reduceIte, reduceCtorEq, Nat.reduceAdd, Int.reduceLT, Int.reduceNeg, List.getD_cons_zero, List.getD_cons_succ, eql_optr PT, FA1, vload_obj hv G4, hc]
      exact ⟨_, rfl, KeepX.refl _ _, ⟨v, hv, hb⟩, BtsV.nil⟩
    | false =>
      have hst : vstore Try.prog σ 4 (.optr r 1) (.bool true) = some ⟨σ.objs.set r (.cells [v, .bool true]), σ.toks⟩ := by
        rw [vstore_obj hv S4 rfl (by simp)]; rfl
      by_cases hn : n < 0
      · have hc : bytS bs false n = ([], bs, true) := by
          have : ¬ 0 ≤ n := by omega
          simp [bytS, canS, this]
        simp only [k84_a, WK, vop, evAll, evOpt, evParts, vbuiltin, vun, vextract, Nat.reduceLT, Nat.reduceEqDiff, ↓reduceIte, reduceCtorEq, Nat.reduceAdd, Int.reduceLT, Int.reduceNeg, List.getD_cons_zero, List.getD_cons_succ, eql_optr PT, FA1, FA0, vload_obj hv G4, vload_obj hv G22, hb.len T22, hc, hn, hst]
        exact ⟨_, rfl, KeepX.set r _ σ, ⟨v, obj_set hv, hb⟩, BtsV.nil⟩
      · by_cases hg : (bs.length : Int) < n
        · have hc : bytS bs false n = ([], bs, true) := by
            have : ¬ n ≤ bs.length := by omega
            simp [bytS, canS, this]
          simp only [k84_a, WK, vop, evAll, evOpt, evParts, vbuiltin, vun, vextract, Nat.reduceLT, Nat.reduceEqDiff, ↓reduceIte, reduceCtorEq, Nat.reduceAdd, Int.reduceLT, Int.reduceNeg, List.getD_cons_zero, List.getD_cons_succ, eql_optr PT, FA1, FA0, vload_obj hv G4, vload_obj hv G22, hb.len T22, hc, hn, hg, hst]
          exact ⟨_, rfl, KeepX.set r _ σ, ⟨v, obj_set hv, hb⟩, BtsV.nil⟩
        · have hc : bytS bs false n = (bs.take n.toNat, bs.drop n.toNat, false) := by
            have h1 : 0 ≤ n := by omega
            have h2 : n ≤ bs.length := by omega
            simp [bytS, canS, h1, h2]
          obtain ⟨s1, hs1, ht1⟩ := hb.slice T22 S5 (lo := none) (hi := some (.int .i64 n)) (vbounds_hi (by omega) (by omega)) (by omega) (by omega)
          obtain ⟨s2, hs2, ht2⟩ := hb.slice T22 S5 (lo := some (.int .i64 n)) (hi := none) (vbounds_lo (by omega) (by omega)) (by omega) (by omega)
          rw [List.drop_zero, Nat.sub_zero] at ht1
          rw [List.take_of_length_le (by rw [List.length_drop]; omega)] at ht2
          have ho1 : OwnV 5 σ.toks.length σ (.slice .exact 1 [] 0) [] := .inr ⟨_, rfl, .inl rfl⟩
          obtain ⟨v', σ', ha, ho, hk, hob⟩ := ho1.append' BT rfl (Keep.refl σ) T22 ht1 (by rw [List.length_take]; simp; omega)
          rw [List.nil_append] at ho
          have hv' : σ'.objs[r]? = some (.cells [v, .bool false]) := by rw [hob]; exact hv
          have hst2 : vstore Try.prog σ' 44 (.optr r 0) s2 = some ⟨σ'.objs.set r (.cells [s2, .bool false]), σ'.toks⟩ := by
            rw [vstore_obj hv' S22 ht2.one (by simp)]; rfl
          simp only [k84_a, WK, vop, evAll, evOpt, evParts, vbuiltin, vun, vextract, Nat.reduceLT, Nat.reduceEqDiff, ↓reduceIte, reduceCtorEq, Nat.reduceAdd, Int.reduceLT, Int.reduceNeg, List.getD_cons_zero, List.getD_cons_succ, eql_optr PT, FA1, FA0, vload_obj hv G4, vload_obj hv G22, vload_obj hv' G22, hb.len T22, hc, hn, hg, T22, hs1, hs2, build0 BT, ha, hst2]
          exact ⟨_, rfl, (hk.x r).trans (KeepX.set r _ σ'), ⟨s2, obj_set hv', ht2⟩, ho.bts⟩
  obtain ⟨q, σ', h1, w, rfl, h2⟩ := key
  exact ⟨w, σ', h1, h2⟩


theorem bad_does {σ : St} {r : Nat} {bs : List UInt8} {bad : Bool} (h : Rdr σ r bs bad) : Does Try.prog prims 85 [.optr r 0] σ (.ret (.bool bad)) σ := by
  obtain ⟨v, hv, hb⟩ := h
  apply k85_is.ret (by simp)
  simp only [k85_a, WK, vop, evAll, evOpt, evParts, vbuiltin, vun, vextract, Nat.reduceLT, Nat.reduceEqDiff, ↓reduceIte, reduceCtorEq, Nat.reduceAdd, Int.reduceLT, Int.reduceNeg, List.getD_cons_zero, neq_optr PT, FA1, FA0, vload_obj hv G4]

theorem end_does {σ : St} {r : Nat} {bs : List UInt8} {bad : Bool} (h : Rdr σ r bs bad) : Does Try.prog prims 64 [.optr r 0] σ (.ret (.bool (!bad && decide ((bs.length : Int) = 0)))) σ := by
  obtain ⟨v, hv, hb⟩ := h
  apply k64_is.ret (by simp)
  cases bad with
  | true => simp only [k64_a, WK, vop, evAll, evOpt, evParts, vbuiltin, vun, vextract, Nat.reduceLT, Nat.reduceEqDiff, ↓reduceIte, reduceCtorEq, Nat.reduceAdd, Int.reduceLT, Int.reduceNeg, List.getD_cons_zero, neq_optr PT, FA1, FA0, vload_obj hv G4]; rfl
  | false => simp only [k64_a, WK, vop, evAll, evOpt, evParts, vbuiltin, vun, vextract, Nat.reduceLT, Nat.reduceEqDiff, ↓reduceIte, reduceCtorEq, Nat.reduceAdd, Int.reduceLT, Int.reduceNeg, List.getD_cons_zero, neq_optr PT, FA1, FA0, vload_obj hv G4, vload_obj hv G22, hb.len T22]; rfl
end Go.Proofs.Ytlimedbanpfkgaa.Q
