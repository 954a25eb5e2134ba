import Derived.Test.YtlimedbanpfkgaaTl
set_option linter.unusedVariables false
set_option linter.unusedSimpArgs false
set_option maxRecDepth 100000
namespace Go.Proofs.Ytlimedbanpfkgaa.Q
open Go Go.RowKit Go.Proofs

/-- Object r is a reader that has these bytes left. -/
def Rdr (σ : St) (r : Nat) (bs : List UInt8) (bad : Bool) : Prop := ∃ v, σ.objs[r]? = some (.cells [v, .bool bad]) ∧ BtsV v bs

theorem Rdr.keep {σ σ' : St} {r q : Nat} {bs : List UInt8} {bad : Bool} (h : Rdr σ r bs bad) (hk : KeepX q σ σ') (hne : r ≠ q) : Rdr σ' r bs bad := by
  obtain ⟨v, h1, h2⟩ := h
  exact ⟨v, hk.1 r _ hne h1, h2⟩
theorem Rdr.keep' {σ σ' : St} {r : Nat} {bs : List UInt8} {bad : Bool} (h : Rdr σ r bs bad) (hk : Keep σ σ') : Rdr σ' r bs bad := by
  obtain ⟨v, h1, h2⟩ := h
  exact ⟨v, hk.1 r _ h1, h2⟩

theorem PT : Try.prog.underlying 70 = some (.pointer 92) := by kernel_rfl
theorem FA0 (r : Nat) : vfieldAddr Try.prog 92 (.optr r 0) 0 = some (.optr r 0) := by kernel_rfl
theorem FA1 (r : Nat) : vfieldAddr Try.prog 92 (.optr r 0) 1 = some (.optr r 1) := by kernel_rfl
theorem BU (v : V) (h : one v = true) : vbuild Try.prog 92 [(0, v)] = some (.agg [v, .bool false]) := by
  cases v <;> first | (cases h; done) | kernel_rfl

/-- New. -/
theorem new_does {v : V} {bs : List UInt8} (hv : BtsV v bs) (hlen : bs.length ≤ 140737488300000) (σ : St) : ∃ r σ', Does Try.prog prims 62 [v] σ (.ret (.optr r 0)) σ' ∧ Keep σ σ' ∧ r = σ.objs.length ∧ Rdr σ' r bs false := by
  have key : ∃ r σ', Does Try.prog prims 62 [v] σ r σ' ∧ r = .ret (.optr σ.objs.length 0) ∧ Keep σ σ' ∧ Rdr σ' σ.objs.length bs false := by
    apply k62_is.does (by simp)
    have ho1 : OwnV 5 σ.toks.length σ (.slice .exact 1 [] 0) [] := .inr ⟨_, rfl, .inl rfl⟩
    obtain ⟨v', σ', ha, ho, hk, hob⟩ := ho1.append' BT rfl (Keep.refl σ) T22 hv (by simp; omega)
    rw [List.nil_append] at ho
    simp only [k62_a, WK, vop, evAll, evOpt, evParts, vbuiltin, vun, vextract, Nat.reduceLT, Nat.reduceEqDiff, ↓reduceIte, reduceCtorEq, Nat.reduceAdd, Int.reduceLT, Int.reduceNeg, List.getD_cons_zero, build0 BT, ha, BU v' ho.bts.one, vbox, vcells, hob]
    refine ⟨⟨fun r o h => ?_, hk.2⟩, v', ?_, ho.bts⟩
    · simp only
      rw [List.getElem?_append_left (List.getElem?_eq_some_iff.1 h).1]
      exact h
    · simp
  obtain ⟨r, σ', h1, rfl, h2, h3⟩ := key
  exact ⟨_, σ', h1, h2, rfl, h3⟩

/-- What a number's reading leaves. -/
def numS (bs : List UInt8) (bad : Bool) : Nat × List UInt8 × Bool :=
  if bad then (0, bs, true) else ((takeS bs).1, bs.drop (takeS bs).2, (takeS bs).2 == 0)

theorem number_does {σ : St} {r : Nat} {bs : List UInt8} {bad : Bool} (h : Rdr σ r bs bad) (hml : bs.length ≤ maxLen) :
    ∃ σ', Does Try.prog prims 83 [.optr r 0] σ (.ret (.int .i64 ((numS bs bad).1 : Nat))) σ' ∧ KeepX r σ σ' ∧ Rdr σ' r (numS bs bad).2.1 (numS bs bad).2.2 := by
  obtain ⟨v, hv, hb⟩ := h
  have key : ∃ q σ', Does Try.prog prims 83 [.optr r 0] σ q σ' ∧ q = .ret (.int .i64 ((numS bs bad).1 : Nat)) ∧ KeepX r σ σ' ∧ Rdr σ' r (numS bs bad).2.1 (numS bs bad).2.2 := by
    apply k83_is.does (by simp)
    cases bad with
    | true =>
      simp only [k83_a, WK, vop, evAll, evOpt, evParts, vbuiltin, vun, vextract, Nat.reduceLT, Nat.reduceEqDiff, ↓reduceIte, reduceCtorEq, Nat.reduceAdd, Int.reduceLT, Int.reduceNeg, List.getD_cons_zero, eql_optr PT, FA1, vload_obj hv G4, numS]
      exact ⟨rfl, KeepX.refl _ _, v, hv, hb⟩
    | false =>
      obtain ⟨ht1, ht2, ht3⟩ := takeS_lt bs
      have hst : ∀ x, one x = true → vstore Try.prog σ 4 (.optr r 1) x = some ⟨σ.objs.set r (.cells [v, x]), σ.toks⟩ := fun x hx => by
        rw [vstore_obj hv S4 hx (by simp)]; rfl
      have hd : decide (((takeS bs).2 : Int) = 0) = ((takeS bs).2 == 0) := by
        rw [Bool.eq_iff_iff]; simp
      have hv2 : (σ.objs.set r (.cells [v, .bool ((takeS bs).2 == 0)]))[r]? = some (.cells [v, .bool ((takeS bs).2 == 0)]) := obj_set hv
      obtain ⟨sl, hsl, htl⟩ := hb.slice T22 S5 (lo := some (.int .i64 ((takeS bs).2 : Nat))) (hi := none) (vbounds_lo (by omega) (by omega)) (by omega) (by omega)
      have hst2 : vstore Try.prog ⟨σ.objs.set r (.cells [v, .bool ((takeS bs).2 == 0)]), σ.toks⟩ 44 (.optr r 0) sl = some ⟨(σ.objs.set r (.cells [v, .bool ((takeS bs).2 == 0)])).set r (.cells [sl, .bool ((takeS bs).2 == 0)]), σ.toks⟩ := by
        rw [vstore_obj hv2 S22 htl.one (by simp)]; rfl
      simp only [k83_a, WK, vop, evAll, evOpt, evParts, vbuiltin, vun, vextract, Nat.reduceLT, Nat.reduceEqDiff, ↓reduceIte, reduceCtorEq, Nat.reduceAdd, Int.reduceLT, Int.reduceNeg, List.getD_cons_zero, eql_optr PT, FA1, FA0, vload_obj hv G4, vload_obj hv G22, numS]
      refine KD.ret (take_does hb hml _) ?_
      simp only [k83_a, WK, vop, evAll, evOpt, evParts, vbuiltin, vun, vextract, Nat.reduceLT, Nat.reduceEqDiff, ↓reduceIte, reduceCtorEq, Nat.reduceAdd, Int.reduceLT, Int.reduceNeg, List.getD_cons_zero, FA1, FA0, vload_obj hv2 G22, hd, hst (.bool ((takeS bs).2 == 0)) rfl, T22, hsl, hst2]
      refine ⟨(KeepX.set r _ σ).trans (KeepX.set r _ _), sl, obj_set hv2, ?_⟩
      rw [List.take_of_length_le (by rw [List.length_drop]; omega)] at htl
      rw [Int.toNat_natCast] at htl
      exact htl
  obtain ⟨q, σ', h1, rfl, h2, h3⟩ := key
  exact ⟨σ', h1, h2, h3⟩
end Go.Proofs.Ytlimedbanpfkgaa.Q
