import Derived.Test.YtlimedbanpfkgaaTf
set_option linter.unusedVariables false
set_option linter.unusedSimpArgs false
set_option maxRecDepth 100000
namespace Go.Proofs.Ytlimedbanpfkgaa.Q
open Go Go.RowKit Go.Proofs

theorem FB0 (r : Nat) : vfieldAddr Try.prog 75 (.optr r 0) 0 = some (.optr r 0) := by kernel_rfl
theorem FB1 (r : Nat) : vfieldAddr Try.prog 75 (.optr r 0) 1 = some (.optr r 1) := by kernel_rfl
theorem BV (v : V) (h : one v = true) : vbuild Try.prog 75 [(0, v)] = some (.agg [v, .bool false]) := by
  cases v <;> first | (cases h; done) | kernel_rfl

theorem numS_eq (bs : List UInt8) : numS bs false = if (takeS bs).2 = 0 then (0, bs, true) else ((takeS bs).1, bs.drop (takeS bs).2, false) := by
  unfold numS
  by_cases h : (takeS bs).2 = 0
  · simp [h, takeS_none h]
  · simp [h]

theorem refnumber_does {σ : St} {r : Nat} {bs : List UInt8} {bad : Bool} (h : Rdr σ r bs bad) (hml : bs.length ≤ maxLen) :
    ∃ σ', Does Try.prog prims 86 [.optr r 0] σ (.ret (.int .i64 ((numS bs bad).1 : Nat))) σ' ∧ KeepX r σ σ' ∧ Rdr σ' r (numS bs bad).2.1 (numS bs bad).2.2 := by
  obtain ⟨v, hv, hb⟩ := h
  have key : ∃ q σ', Does Try.prog prims 86 [.optr r 0] σ q σ' ∧ q = .ret (.int .i64 ((numS bs bad).1 : Nat)) ∧ KeepX r σ σ' ∧ Rdr σ' r (numS bs bad).2.1 (numS bs bad).2.2 := by
    apply k86_is.does (by simp)
    cases bad with
    | true =>
      simp only [k86_a, WK, vop, evAll, evOpt, evParts, vbuiltin, vun, vextract, Nat.reduceLT, Nat.reduceEqDiff, ↓reduceIte, reduceCtorEq, Nat.reduceAdd, Int.reduceLT, Int.reduceNeg, List.getD_cons_zero, FB1, vload_obj hv G4, numS]
      exact ⟨rfl, KeepX.refl _ _, v, hv, hb⟩
    | false =>
      obtain ⟨ht1, ht2, ht3⟩ := takeS_lt bs
      rw [numS_eq]
      by_cases hz : (takeS bs).2 = 0
      · have hd : decide (((takeS bs).2 : Int) = 0) = true := decide_eq_true (by omega)
        have hst : vstore Try.prog σ 4 (.optr r 1) (.bool true) = some ⟨σ.objs.set r (.cells [v, .bool true]), σ.toks⟩ := by
          rw [vstore_obj hv S4 rfl (by simp)]; rfl
        rw [if_pos hz]
        simp only [k86_a, WK, vop, evAll, evOpt, evParts, vbuiltin, vun, vextract, Nat.reduceLT, Nat.reduceEqDiff, ↓reduceIte, reduceCtorEq, Nat.reduceAdd, Int.reduceLT, Int.reduceNeg, List.getD_cons_zero, FB1, FB0, vload_obj hv G4, vload_obj hv G22]
        refine KD.ret (take2_does hb hml _) ?_
        simp only [k86_a, WK, vop, evAll, evOpt, evParts, vbuiltin, vun, vextract, Nat.reduceLT, Nat.reduceEqDiff, ↓reduceIte, reduceCtorEq, Nat.reduceAdd, Int.reduceLT, Int.reduceNeg, List.getD_cons_zero, FB1, FB0, hd, hst]
        exact ⟨rfl, KeepX.set r _ σ, v, obj_set hv, hb⟩
      · have hd : decide (((takeS bs).2 : Int) = 0) = false := decide_eq_false (by omega)
        obtain ⟨sl, hsl, htl⟩ := hb.slice T22 S5 (lo := some (.int .i64 ((takeS bs).2 : Nat))) (hi := none) (vbounds_lo (by omega) (by omega)) (by omega) (by omega)
        rw [List.take_of_length_le (by rw [List.length_drop]; omega), Int.toNat_natCast] at htl
        have hst : vstore Try.prog σ 44 (.optr r 0) sl = some ⟨σ.objs.set r (.cells [sl, .bool false]), σ.toks⟩ := by
          rw [vstore_obj hv S22 htl.one (by simp)]; rfl
        rw [if_neg hz]
        simp only [k86_a, WK, vop, evAll, evOpt, evParts, vbuiltin, vun, vextract, Nat.reduceLT, Nat.reduceEqDiff, ↓reduceIte, reduceCtorEq, Nat.reduceAdd, Int.reduceLT, Int.reduceNeg, List.getD_cons_zero, FB1, FB0, vload_obj hv G4, vload_obj hv G22]
        refine KD.ret (take2_does hb hml _) ?_
        simp only [k86_a, WK, vop, evAll, evOpt, evParts, vbuiltin, vun, vextract, Nat.reduceLT, Nat.reduceEqDiff, ↓reduceIte, reduceCtorEq, Nat.reduceAdd, Int.reduceLT, Int.reduceNeg, List.getD_cons_zero, FB1, FB0, hd, vload_obj hv G22, T22, hsl, hst]
        exact ⟨KeepX.set r _ σ, sl, obj_set hv, htl⟩
  obtain ⟨q, σ', h1, rfl, h2, h3⟩ := key
  exact ⟨σ', h1, h2, h3⟩

theorem refbytes_does {σ : St} {r : Nat} {bs : List UInt8} {bad : Bool} (h : Rdr σ r bs bad) (hlen : bs.length ≤ 140737488300000) (n : Int) :
    ∃ v σ', Does Try.prog prims 87 [.optr r 0, .int .i64 n] σ (.ret v) σ' ∧ KeepX r σ σ' ∧ Rdr σ' r (bytS bs bad n).2.1 (bytS bs bad n).2.2 ∧ BtsV v (bytS bs bad n).1 := by
  obtain ⟨v, hv, hb⟩ := h
  have key : ∃ q σ', Does Try.prog prims 87 [.optr r 0, .int .i64 n] σ q σ' ∧ ∃ w, q = .ret w ∧ KeepX r σ σ' ∧ Rdr σ' r (bytS bs bad n).2.1 (bytS bs bad n).2.2 ∧ BtsV w (bytS bs bad n).1 := by
    apply k87_is.does (by simp)
    have hst : vstore Try.prog σ 4 (.optr r 1) (.bool true) = some ⟨σ.objs.set r (.cells [v, .bool true]), σ.toks⟩ := by
      rw [vstore_obj hv S4 rfl (by simp)]; rfl
    cases bad with
    | true =>
      have hc : bytS bs true n = ([], bs, true) := by simp [bytS, canS]
      simp only [k87_a, WK, vop, evAll, evOpt, evParts, vbuiltin, vun, vextract, Nat.reduceLT, Nat.reduceEqDiff, ↓reduceIte, reduceCtorEq, Nat.reduceAdd, Int.reduceLT, Int.reduceNeg, List.getD_cons_zero, List.getD_cons_succ, FB1, vload_obj hv G4, hc, hst]
      exact ⟨_, rfl, KeepX.set r _ σ, ⟨v, obj_set hv, hb⟩, BtsV.nil⟩
    | false =>
      by_cases hn : n < 0
      · have hc : bytS bs false n = ([], bs, true) := by
          have : ¬ 0 ≤ n := by omega
          simp [bytS, canS, this]
        simp only [k87_a, WK, vop, evAll, evOpt, evParts, vbuiltin, vun, vextract, Nat.reduceLT, Nat.reduceEqDiff, ↓reduceIte, reduceCtorEq, Nat.reduceAdd, Int.reduceLT, Int.reduceNeg, List.getD_cons_zero, List.getD_cons_succ, FB1, FB0, vload_obj hv G4, vload_obj hv G22, hb.len T22, hc, hn, hst]
        exact ⟨_, rfl, KeepX.set r _ σ, ⟨v, obj_set hv, hb⟩, BtsV.nil⟩
      · by_cases hg : (bs.length : Int) < n
        · have hc : bytS bs false n = ([], bs, true) := by
            have : ¬ n ≤ bs.length := by omega
            simp [bytS, canS, this]
          simp only [k87_a, WK, vop, evAll, evOpt, evParts, vbuiltin, vun, vextract, Nat.reduceLT, Nat.reduceEqDiff, ↓reduceIte, reduceCtorEq, Nat.reduceAdd, Int.reduceLT, Int.reduceNeg, List.getD_cons_zero, List.getD_cons_succ, FB1, FB0, vload_obj hv G4, vload_obj hv G22, hb.len T22, hc, hn, hg, hst]
          exact ⟨_, rfl, KeepX.set r _ σ, ⟨v, obj_set hv, hb⟩, BtsV.nil⟩
        · have hc : bytS bs false n = (bs.take n.toNat, bs.drop n.toNat, false) := by
            have h1 : 0 ≤ n := by omega
            have h2 : n ≤ bs.length := by omega
            simp [bytS, canS, h1, h2]
          obtain ⟨s1, hs1, ht1⟩ := hb.slice T22 S5 (lo := none) (hi := some (.int .i64 n)) (vbounds_hi (by omega) (by omega)) (by omega) (by omega)
          obtain ⟨s2, hs2, ht2⟩ := hb.slice T22 S5 (lo := some (.int .i64 n)) (hi := none) (vbounds_lo (by omega) (by omega)) (by omega) (by omega)
          rw [List.drop_zero, Nat.sub_zero] at ht1
          rw [List.take_of_length_le (by rw [List.length_drop]; omega)] at ht2
          have ho1 : OwnV 5 σ.toks.length σ (.slice .exact 1 [] 0) [] := .inr ⟨_, rfl, .inl rfl⟩
          obtain ⟨v', σ', ha, ho, hk, hob⟩ := ho1.append' BT rfl (Keep.refl σ) T22 ht1 (by rw [List.length_take]; simp; omega)
          rw [List.nil_append] at ho
          have hv' : σ'.objs[r]? = some (.cells [v, .bool false]) := by rw [hob]; exact hv
          have hst2 : vstore Try.prog σ' 44 (.optr r 0) s2 = some ⟨σ'.objs.set r (.cells [s2, .bool false]), σ'.toks⟩ := by
            rw [vstore_obj hv' S22 ht2.one (by simp)]; rfl
          simp only [k87_a, WK, vop, evAll, evOpt, evParts, vbuiltin, vun, vextract, Nat.reduceLT, Nat.reduceEqDiff, ↓reduceIte, reduceCtorEq, Nat.reduceAdd, Int.reduceLT, Int.reduceNeg, List.getD_cons_zero, List.getD_cons_succ, FB1, FB0, vload_obj hv G4, vload_obj hv G22, vload_obj hv' G22, hb.len T22, hc, hn, hg, T22, hs1, hs2, build0 BT, ha, hst2]
          exact ⟨_, rfl, (hk.x r).trans (KeepX.set r _ σ'), ⟨s2, obj_set hv', ht2⟩, ho.bts⟩
  obtain ⟨q, σ', h1, w, rfl, h2⟩ := key
  exact ⟨w, σ', h1, h2⟩



/-! ### No reader -/
theorem none_number (σ : St) : Does Try.prog prims 83 [.nilp] σ (.ret (.int .i64 0)) σ := by
  apply k83_is.ret (by simp)
  simp only [k83_a, WK, vop, evAll, evOpt, evParts, vbuiltin, vun, vextract, Nat.reduceLT, Nat.reduceEqDiff, ↓reduceIte, reduceCtorEq, Nat.reduceAdd, Int.reduceLT, Int.reduceNeg, List.getD_cons_zero, eql_nilp PT]
theorem none_bytes (n : Int) (σ : St) : Does Try.prog prims 84 [.nilp, .int .i64 n] σ (.ret .nils) σ := by
  apply k84_is.ret (by simp)
  simp only [k84_a, WK, vop, evAll, evOpt, evParts, vbuiltin, vun, vextract, Nat.reduceLT, Nat.reduceEqDiff, ↓reduceIte, reduceCtorEq, Nat.reduceAdd, Int.reduceLT, Int.reduceNeg, List.getD_cons_zero, eql_nilp PT]
theorem none_bad (σ : St) : Does Try.prog prims 85 [.nilp] σ (.ret (.bool false)) σ := by
  apply k85_is.ret (by simp)
  simp only [k85_a, WK, vop, evAll, evOpt, evParts, vbuiltin, vun, vextract, Nat.reduceLT, Nat.reduceEqDiff, ↓reduceIte, reduceCtorEq, Nat.reduceAdd, Int.reduceLT, Int.reduceNeg, List.getD_cons_zero, neq_nilp PT]
theorem none_end (σ : St) : Does Try.prog prims 64 [.nilp] σ (.ret (.bool false)) σ := by
  apply k64_is.ret (by simp)
  simp only [k64_a, WK, vop, evAll, evOpt, evParts, vbuiltin, vun, vextract, Nat.reduceLT, Nat.reduceEqDiff, ↓reduceIte, reduceCtorEq, Nat.reduceAdd, Int.reduceLT, Int.reduceNeg, List.getD_cons_zero, neq_nilp PT]
end Go.Proofs.Ytlimedbanpfkgaa.Q
