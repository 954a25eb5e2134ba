import Derived.Test.YtlimedbanpfkgaaVp
set_option linter.unusedVariables false
set_option linter.unusedSimpArgs false
namespace Go.Proofs.Ytlimedbanpfkgaa.Q
open Go Go.RowKit Go.Proofs

/-! ### Decode -/
def val0 : Val := .mk 0 0 [] []
def okS (T : Ty) (q : Val × RS) : Bool := !q.2.2 && (decide (q.2.1 = []) && fitsS (tyB T) q.1)
def decS (s b : List UInt8) : Val × Int := match tyS s with
  | none => (val0, 1)
  | some T => if okS T (rdS true T (b, false)) then ((rdS true T (b, false)).1, 0) else (val0, 11)
theorem fitsS_fits {T : Ty} (h4 : tyD T ≤ 4) {v : Val} : fitsS (tyB T) v = (decide ((weight v : Int) ≤ 16384) && fitsT T v) := by
  unfold fitsS
  rw [tyS_iff.2 ⟨rfl, h4⟩]
theorem len0 (l : List UInt8) : decide ((l.length : Int) = 0) = decide (l = []) := by cases l <;> simp <;> omega
/-- What was read strictly is read so too; what is read so and is what was put, is read strictly. -/
theorem dec_eq {T : Ty} (h4 : tyD T ≤ 4) (b : List UInt8) (hx : ∃ c, ValC (rdS false T (b, false)).1 c) (hy : ∃ c, ValC (rdS true T (b, false)).1 c) :
    decS (tyB T) b = if (okS T (rdS false T (b, false)) && decide (putV (rdS false T (b, false)).1 = b)) = true then ((rdS false T (b, false)).1, 0) else (val0, 11) := by
  unfold decS
  rw [tyS_iff.2 ⟨rfl, h4⟩]
  simp only
  by_cases h : okS T (rdS true T (b, false)) = true
  · rw [if_pos h]
    have h0 := h
    unfold okS at h
    simp only [Bool.and_eq_true, Bool.not_eq_true', decide_eq_true_eq] at h
    obtain ⟨h1, h2, h3⟩ := h
    rw [fitsS_fits h4, Bool.and_eq_true] at h3
    obtain ⟨_, h6⟩ := rdS_can T (b, false) h1
    rw [h2, List.append_nil] at h6
    simp only at h6
    have h7 := rdS_back false T _ [] h3.2 hy
    rw [List.append_nil, h6] at h7
    rw [h7]
    have h9 : okS T ((rdS true T (b, false)).1, ([], false)) = true := by
      unfold okS at h0 ⊢
      rw [h1, h2] at h0
      exact h0
    rw [h9]
    simp [h6]
  · rw [if_neg h]
    split
    · rename_i h0
      refine absurd ?_ h
      rw [Bool.and_eq_true, decide_eq_true_eq] at h0
      obtain ⟨h0, h5⟩ := h0
      have h0' := h0
      unfold okS at h0
      simp only [Bool.and_eq_true, Bool.not_eq_true', decide_eq_true_eq] at h0
      obtain ⟨h1, h2, h3⟩ := h0
      rw [fitsS_fits h4, Bool.and_eq_true] at h3
      have h7 := rdS_back true T _ [] h3.2 hx
      rw [List.append_nil, h5] at h7
      rw [h7]
      unfold okS at h0' ⊢
      rw [h1, h2] at h0'
      exact h0'
    · rfl
theorem val0_ok : ValC val0 (flatC 0 0 []) := flatC_ok [] (by unfold InI64; omega) (by unfold InI64; omega)

set_option maxRecDepth 100000 in
theorem decode_key {T : Ty} (h4 : tyD T ≤ 4) {b : List UInt8} {v : V} (hb : b.length ≤ 100000000) (hv : BtsV v b) (σ : St) : ∃ q σ', Does Try.prog prims 32 [v, .str (tyB T)] σ q σ' ∧
    ∃ c x, q = .ret (.tuple [.agg c, .int .i64 x.2]) ∧ Keep σ σ' ∧ ValC x.1 c ∧ (∃ c, ValC (rdS false T (b, false)).1 c) ∧ x = (if (okS T (rdS false T (b, false)) && decide (putV (rdS false T (b, false)).1 = b)) = true then ((rdS false T (b, false)).1, (0 : Int)) else (val0, 11)) := by
  have hsl := tyB_len T
  apply k32_is.does (by simp)
  obtain ⟨s1, hs1⟩ : ∃ s1 : St, s1 = ⟨σ.objs ++ [Ob.cells val0C], σ.toks⟩ := ⟨_, rfl⟩
  have k1 : Keep σ s1 := by rw [hs1]; exact (Keep.refl σ).push _
  have q1 : IsV s1 σ.objs.length val0C := by rw [hs1]; exact push_new _ _
  have dt := type_does (tyB T) (by omega) s1
  rw [tyS_iff.2 ⟨rfl, h4⟩] at dt
  simp only [Option.isSome_some] at dt
  obtain ⟨r, s2, d2, k2, hr, R2⟩ := new_does hv (by omega) s1
  have hrq : σ.objs.length ≠ r := by have := q1.lt; omega
  obtain ⟨rv, s3, d3, c, rfl, k3, R3, hcv⟩ := vtake_does T h4 R2 hb
  have q3 := k3.atV hrq (k2.atV q1)
  have K3 : Keep σ s3 := (k1.trans k2).viaX' k3 (by have := q1.lt; omega)
  have hw := rdS_weight false T (b, false)
  have hwB := wB_le T h4
  have hl3 := rdS_len false T (b, false)
  simp only at hw hl3
  generalize hD : rdS false T (b, false) = D at *
  obtain ⟨s4, hs4⟩ : ∃ s4 : St, s4 = ⟨(s3.objs ++ [Ob.cells val0C]).set s3.objs.length (Ob.cells c), s3.toks⟩ := ⟨_, rfl⟩
  have k4 : Keep s3 s4 := by rw [hs4]; exact (Keep.refl s3).madeV _ _
  have p4 : IsV s4 s3.objs.length c := by rw [hs4]; exact IsV.made
  have hpq : σ.objs.length < s3.objs.length := q3.lt
  have d5 := end_does (R3.keep' k4)
  obtain ⟨s6, d6, k6⟩ := vfits_does (s := tyB T) (by omega) s4 (by omega) hcv
  obtain ⟨w, s7, d7, k7, hw7⟩ := vput_does (v := .nils) (bs := []) s6 (by omega) hcv BtsV.nil (by simp)
  rw [List.nil_append] at hw7
  have e7 := hw7.str T22 (t2 := 9) (by kernel_rfl) T9
  have eb := hv.str T22 (t2 := 9) (by kernel_rfl) T9
  rw [len0] at d5
  have one := hcv.one
  simp only [k32_a, WK, vop, evAll, evOpt, evParts, vbuiltin, vun, vextract, Nat.reduceLT, Nat.reduceEqDiff, ↓reduceIte, reduceCtorEq, Nat.reduceAdd, Int.reduceLT, Int.reduceNeg, VZ24, vbox, vcells, ← hs1]
  refine KD.ret dt ?_
  simp only [k32_a, WK, vop, evAll, evOpt, evParts, vbuiltin, vun, vextract, Nat.reduceLT, Nat.reduceEqDiff, ↓reduceIte, reduceCtorEq, Nat.reduceAdd, Int.reduceLT, Int.reduceNeg]
  refine KD.ret d2 ?_
  simp only [k32_a, WK, vop, evAll, evOpt, evParts, vbuiltin, vun, vextract, Nat.reduceLT, Nat.reduceEqDiff, ↓reduceIte, reduceCtorEq, Nat.reduceAdd, Int.reduceLT, Int.reduceNeg]
  refine KD.ret d3 ?_
  simp only [k32_a, WK, vop, evAll, evOpt, evParts, vbuiltin, vun, vextract, Nat.reduceLT, Nat.reduceEqDiff, ↓reduceIte, reduceCtorEq, Nat.reduceAdd, Int.reduceLT, Int.reduceNeg, VZ24, vbox, vcells, IsV.new hcv.len (show val0C.length = 4 from rfl) one, ← hs4]
  refine KD.ret d5 ?_
  have bad : ∀ (s5 : St), Keep s4 s5 → okS T D = false ∨ decide (putV D.1 = b) = false → ∃ s8, vstore Try.prog s5 24 (.optr σ.objs.length 0) (.agg (flatC 0 0 [])) = some s8 ∧ vload Try.prog s8.objs 24 (.optr σ.objs.length 0) = some (.agg (flatC 0 0 [])) ∧
      ∃ c_1 x, (VRes.ret (.tuple [.agg (flatC 0 0 []), .int .i64 11])) = .ret (.tuple [.agg c_1, .int .i64 x.2]) ∧ Keep σ s8 ∧ ValC x.1 c_1 ∧ (∃ c, ValC D.1 c) ∧ x = (if (okS T D && decide (putV D.1 = b)) = true then (D.1, (0 : Int)) else (val0, 11)) := by
    intro s5 k5 hno
    obtain ⟨s8, g1, g2, g3⟩ := storeN (k5.atV (k4.atV q3)) (c := flatC 0 0 []) rfl rfl rfl
    refine ⟨s8, g1, g2.load rfl, flatC 0 0 [], (val0, 11), rfl, ((K3.trans k4).trans k5).viaX' g3 (Nat.le_refl _), val0_ok, ⟨_, hcv⟩, ?_⟩
    rw [if_neg]
    rcases hno with h | h <;> simp [h]
  cases hE : (!D.2.2 && decide (D.2.1 = [])) with
  | false =>
    obtain ⟨s8, g1, g2, g3⟩ := bad s4 (Keep.refl _) (.inl (by unfold okS; rw [← Bool.and_assoc, hE]; rfl))
    simp only [k32_a, WK, vop, evAll, evOpt, evParts, vbuiltin, vun, vextract, Nat.reduceLT, Nat.reduceEqDiff, ↓reduceIte, reduceCtorEq, Nat.reduceAdd, Int.reduceLT, Int.reduceNeg, hE, BV0, g1, g2]
    exact g3
  | true =>
    simp only [k32_a, WK, vop, evAll, evOpt, evParts, vbuiltin, vun, vextract, Nat.reduceLT, Nat.reduceEqDiff, ↓reduceIte, reduceCtorEq, Nat.reduceAdd, Int.reduceLT, Int.reduceNeg, hE, p4.load hcv.len]
    refine KD.ret d6 ?_
    cases hF : fitsS (tyB T) D.1 with
    | false =>
      obtain ⟨s8, g1, g2, g3⟩ := bad s6 k6 (.inl (by unfold okS; rw [hF]; simp))
      simp only [k32_a, WK, vop, evAll, evOpt, evParts, vbuiltin, vun, vextract, Nat.reduceLT, Nat.reduceEqDiff, ↓reduceIte, reduceCtorEq, Nat.reduceAdd, Int.reduceLT, Int.reduceNeg, BV0, g1, g2]
      exact g3
    | true =>
      simp only [k32_a, WK, vop, evAll, evOpt, evParts, vbuiltin, vun, vextract, Nat.reduceLT, Nat.reduceEqDiff, ↓reduceIte, reduceCtorEq, Nat.reduceAdd, Int.reduceLT, Int.reduceNeg, ofVal_nil, (k6.atV p4).load hcv.len]
      refine KD.ret d7 ?_
      by_cases hP : putV D.1 = b
      · obtain ⟨s8, g1, g2, g3⟩ := storeN (k7.atV (k6.atV (k4.atV q3))) (c := c) hcv.len rfl one
        simp only [k32_a, WK, vop, evAll, evOpt, evParts, vbuiltin, vun, vextract, Nat.reduceLT, Nat.reduceEqDiff, ↓reduceIte, reduceCtorEq, Nat.reduceAdd, Int.reduceLT, Int.reduceNeg, e7, eb, strBin, hP, ((k6.trans k7).atV p4).load hcv.len, g1, g2.load hcv.len]
        refine ⟨_, (D.1, 0), rfl, ((((K3.trans k4).trans k6).trans k7)).viaX' g3 (Nat.le_refl _), hcv, ⟨_, hcv⟩, ?_⟩
        rw [if_pos]
        unfold okS
        rw [← Bool.and_assoc, hE, hF]
        simp [hP]
      · obtain ⟨s8, g1, g2, g3⟩ := bad s7 (k6.trans k7) (.inr (decide_eq_false hP))
        simp only [k32_a, WK, vop, evAll, evOpt, evParts, vbuiltin, vun, vextract, Nat.reduceLT, Nat.reduceEqDiff, ↓reduceIte, reduceCtorEq, Nat.reduceAdd, Int.reduceLT, Int.reduceNeg, e7, eb, strBin, hP, BV0, g1, g2]
        rw [decide_eq_false hP] at g3
        exact g3
end Go.Proofs.Ytlimedbanpfkgaa.Q
set_option linter.unusedVariables false
set_option linter.unusedSimpArgs false
namespace Go.Proofs.Ytlimedbanpfkgaa.Q
open Go Go.RowKit Go.Proofs

theorem reftype_does' (s : List UInt8) (hl : s.length ≤ 4294967296) (σ : St) : Does Try.prog prims 34 [.str s] σ (.ret (.bool (tyS s).isSome)) σ := reftype_does s hl σ
theorem Rdr.getB {σ : St} {r : Nat} {bs : List UInt8} {bad : Bool} (h : Rdr σ r bs bad) : ∃ v, vload Try.prog σ.objs 44 (.optr r 0) = some v ∧ vlen Try.prog 44 v = some (.int .i64 bs.length) := by
  obtain ⟨v, h1, h2⟩ := h
  exact ⟨v, by rw [vload_obj h1 G22]; rfl, h2.len T22⟩
/-- A new reader of the document's kind. -/
theorem newRdr {v : V} {bs : List UInt8} (hv : BtsV v bs) (hlen : bs.length ≤ 140737488300000) (σ : St) : ∃ v' σ1 σ2, vappend Try.prog σ 44 44 (.slice .exact 1 [] 0) v = some (v', σ1) ∧ one v' = true ∧ σ2 = ⟨σ1.objs ++ [.cells [v', .bool false]], σ1.toks⟩ ∧ σ1.objs.length = σ.objs.length ∧ Keep σ σ2 ∧ Rdr σ2 σ.objs.length bs false := by
  obtain ⟨v', σ1, ha, ho, hk, hob⟩ := OwnV.append' BT (n := σ.toks.length) (σ0 := σ) (σ := σ) (v := .slice .exact 1 [] 0) (bs := []) (.inr ⟨.exact, rfl, .inl rfl⟩) rfl (Keep.refl σ) T22 hv (by simp; omega)
  rw [List.nil_append] at ho
  refine ⟨v', σ1, _, ha, ho.bts.one, rfl, by rw [hob], hk.push _, v', ?_, ho.bts⟩
  rw [← hob]
  exact push_new _ _

set_option maxRecDepth 100000 in
theorem refdecode_key {T : Ty} (h4 : tyD T ≤ 4) {b : List UInt8} {v : V} (hb : b.length ≤ 100000000) (hv : BtsV v b) (σ : St) : ∃ q σ', Does Try.prog prims 33 [v, .str (tyB T)] σ q σ' ∧
    ∃ c x, q = .ret (.tuple [.agg c, .int .i64 x.2]) ∧ Keep σ σ' ∧ ValC x.1 c ∧ (∃ c, ValC (rdS true T (b, false)).1 c) ∧ x = (if okS T (rdS true T (b, false)) = true then ((rdS true T (b, false)).1, (0 : Int)) else (val0, 11)) := by
  have hsl := tyB_len T
  apply k33_is.does (by simp)
  obtain ⟨s1, hs1⟩ : ∃ s1 : St, s1 = ⟨σ.objs ++ [Ob.cells val0C], σ.toks⟩ := ⟨_, rfl⟩
  have k1 : Keep σ s1 := by rw [hs1]; exact (Keep.refl σ).push _
  have q1 : IsV s1 σ.objs.length val0C := by rw [hs1]; exact push_new _ _
  have dt := reftype_does' (tyB T) (by omega) s1
  rw [tyS_iff.2 ⟨rfl, h4⟩] at dt
  simp only [Option.isSome_some] at dt
  obtain ⟨v', s2, s2', ha, ho, hs2, hl2, k2, R2⟩ := newRdr hv (by omega) s1
  have hrq : σ.objs.length ≠ s1.objs.length := by have := q1.lt; omega
  obtain ⟨rv, s3, d3, c, rfl, k3, R3, hcv⟩ := read_does T h4 R2 hb
  have q3 := k3.atV hrq (k2.atV q1)
  have K3 : Keep σ s3 := (k1.trans k2).viaX' k3 (by have := q1.lt; omega)
  have hw := rdS_weight true T (b, false)
  have hwB := wB_le T h4
  have hl3 := rdS_len true T (b, false)
  simp only at hw hl3
  generalize hD : rdS true T (b, false) = D at *
  obtain ⟨s4, hs4⟩ : ∃ s4 : St, s4 = ⟨(s3.objs ++ [Ob.cells val0C]).set s3.objs.length (Ob.cells c), s3.toks⟩ := ⟨_, rfl⟩
  have k4 : Keep s3 s4 := by rw [hs4]; exact (Keep.refl s3).madeV _ _
  have p4 : IsV s4 s3.objs.length c := by rw [hs4]; exact IsV.made
  have hpq : σ.objs.length < s3.objs.length := q3.lt
  have R4 := R3.keep' k4
  have gb := R4.getBad
  obtain ⟨u, gu, gl⟩ := R4.getB
  obtain ⟨s6, d6, k6⟩ := reffits_does (s := tyB T) (by omega) s4 (by omega) hcv
  have one := hcv.one
  simp only [k33_a, WK, vop, evAll, evOpt, evParts, vbuiltin, vun, vextract, Nat.reduceLT, Nat.reduceEqDiff, ↓reduceIte, reduceCtorEq, Nat.reduceAdd, Int.reduceLT, Int.reduceNeg, VZ24, vbox, vcells, ← hs1]
  refine KD.ret dt ?_
  simp only [k33_a, WK, vop, evAll, evOpt, evParts, vbuiltin, vun, vextract, Nat.reduceLT, Nat.reduceEqDiff, ↓reduceIte, reduceCtorEq, Nat.reduceAdd, Int.reduceLT, Int.reduceNeg, build0 BT, ha, BV v' ho, vbox, vcells, ← hs2, hl2]
  refine KD.ret d3 ?_
  have bad : ∀ (s5 : St), Keep s4 s5 → okS T D = false → ∃ s8, vstore Try.prog s5 24 (.optr σ.objs.length 0) (.agg (flatC 0 0 [])) = some s8 ∧ vload Try.prog s8.objs 24 (.optr σ.objs.length 0) = some (.agg (flatC 0 0 [])) ∧
      ∃ c_1 x, (VRes.ret (.tuple [.agg (flatC 0 0 []), .int .i64 11])) = .ret (.tuple [.agg c_1, .int .i64 x.2]) ∧ Keep σ s8 ∧ ValC x.1 c_1 ∧ (∃ c, ValC D.1 c) ∧ x = (if okS T D = true then (D.1, (0 : Int)) else (val0, 11)) := by
    intro s5 k5 hno
    obtain ⟨s8, g1, g2, g3⟩ := storeN (k5.atV (k4.atV q3)) (c := flatC 0 0 []) rfl rfl rfl
    exact ⟨s8, g1, g2.load rfl, flatC 0 0 [], (val0, 11), rfl, ((K3.trans k4).trans k5).viaX' g3 (Nat.le_refl _), val0_ok, ⟨_, hcv⟩, by rw [if_neg (by rw [hno]; decide)]⟩
  cases hE : D.2.2 with
  | true =>
    rw [hE] at gb
    obtain ⟨s8, g1, g2, g3⟩ := bad s4 (Keep.refl _) (by unfold okS; rw [hE]; rfl)
    simp only [k33_a, WK, vop, evAll, evOpt, evParts, vbuiltin, vun, vextract, Nat.reduceLT, Nat.reduceEqDiff, ↓reduceIte, reduceCtorEq, Nat.reduceAdd, Int.reduceLT, Int.reduceNeg, VZ24, vbox, vcells, IsV.new hcv.len (show val0C.length = 4 from rfl) one, ← hs4, FB0, FB1, gb, BV0, g1, g2]
    exact g3
  | false =>
    rw [hE] at gb
    by_cases hl0 : D.2.1 = []
    · have hl' : ¬ (0 : Int) < D.2.1.length := by rw [hl0]; simp
      simp only [k33_a, WK, vop, evAll, evOpt, evParts, vbuiltin, vun, vextract, Nat.reduceLT, Nat.reduceEqDiff, ↓reduceIte, reduceCtorEq, Nat.reduceAdd, Int.reduceLT, Int.reduceNeg, VZ24, vbox, vcells, IsV.new hcv.len (show val0C.length = 4 from rfl) one, ← hs4, FB0, FB1, gb, gu, gl, hl', p4.load hcv.len]
      refine KD.ret d6 ?_
      cases hF : fitsS (tyB T) D.1 with
      | false =>
        obtain ⟨s8, g1, g2, g3⟩ := bad s6 k6 (by unfold okS; rw [hF]; simp)
        simp only [k33_a, WK, vop, evAll, evOpt, evParts, vbuiltin, vun, vextract, Nat.reduceLT, Nat.reduceEqDiff, ↓reduceIte, reduceCtorEq, Nat.reduceAdd, Int.reduceLT, Int.reduceNeg, BV0, g1, g2]
        exact g3
      | true =>
        obtain ⟨s8, g1, g2, g3⟩ := storeN (k6.atV (k4.atV q3)) (c := c) hcv.len rfl one
        simp only [k33_a, WK, vop, evAll, evOpt, evParts, vbuiltin, vun, vextract, Nat.reduceLT, Nat.reduceEqDiff, ↓reduceIte, reduceCtorEq, Nat.reduceAdd, Int.reduceLT, Int.reduceNeg, (k6.atV p4).load hcv.len, g1, g2.load hcv.len]
        refine ⟨_, (D.1, 0), rfl, ((K3.trans k4).trans k6).viaX' g3 (Nat.le_refl _), hcv, ⟨_, hcv⟩, ?_⟩
        rw [if_pos]
        unfold okS
        rw [hE, hF, hl0]
        rfl
    · have hl' : (0 : Int) < D.2.1.length := by have := List.length_pos_iff.2 hl0; omega
      obtain ⟨s8, g1, g2, g3⟩ := bad s4 (Keep.refl _) (by unfold okS; simp [hl0])
      simp only [k33_a, WK, vop, evAll, evOpt, evParts, vbuiltin, vun, vextract, Nat.reduceLT, Nat.reduceEqDiff, ↓reduceIte, reduceCtorEq, Nat.reduceAdd, Int.reduceLT, Int.reduceNeg, VZ24, vbox, vcells, IsV.new hcv.len (show val0C.length = 4 from rfl) one, ← hs4, FB0, FB1, gb, gu, gl, hl', BV0, g1, g2]
      exact g3

/-- Both. -/
theorem decode_none {s : List UInt8} (hn : tyS s = none) (hl : s.length ≤ 4294967296) {v : V} (σ : St) : ∃ q σ', Does Try.prog prims 32 [v, .str s] σ q σ' ∧ q = .ret (.tuple [.agg (flatC 0 0 []), .int .i64 1]) ∧ Keep σ σ' := by
  apply k32_is.does (by simp)
  obtain ⟨s1, hs1⟩ : ∃ s1 : St, s1 = ⟨σ.objs ++ [Ob.cells val0C], σ.toks⟩ := ⟨_, rfl⟩
  have k1 : Keep σ s1 := by rw [hs1]; exact (Keep.refl σ).push _
  have q1 : IsV s1 σ.objs.length val0C := by rw [hs1]; exact push_new _ _
  have dt := type_does s hl s1
  rw [hn] at dt
  simp only [Option.isSome_none] at dt
  obtain ⟨s8, g1, g2, g3⟩ := storeN q1 (c := flatC 0 0 []) rfl rfl rfl
  simp only [k32_a, WK, vop, evAll, evOpt, evParts, vbuiltin, vun, vextract, Nat.reduceLT, Nat.reduceEqDiff, ↓reduceIte, reduceCtorEq, Nat.reduceAdd, Int.reduceLT, Int.reduceNeg, VZ24, vbox, vcells, ← hs1]
  refine KD.ret dt ?_
  simp only [k32_a, WK, vop, evAll, evOpt, evParts, vbuiltin, vun, vextract, Nat.reduceLT, Nat.reduceEqDiff, ↓reduceIte, reduceCtorEq, Nat.reduceAdd, Int.reduceLT, Int.reduceNeg, BV0, g1, g2.load (show (flatC 0 0 []).length = 4 from rfl)]
  exact k1.viaX' g3 (Nat.le_refl _)
theorem refdecode_none {s : List UInt8} (hn : tyS s = none) (hl : s.length ≤ 4294967296) {v : V} (σ : St) : ∃ q σ', Does Try.prog prims 33 [v, .str s] σ q σ' ∧ q = .ret (.tuple [.agg (flatC 0 0 []), .int .i64 1]) ∧ Keep σ σ' := by
  apply k33_is.does (by simp)
  obtain ⟨s1, hs1⟩ : ∃ s1 : St, s1 = ⟨σ.objs ++ [Ob.cells val0C], σ.toks⟩ := ⟨_, rfl⟩
  have k1 : Keep σ s1 := by rw [hs1]; exact (Keep.refl σ).push _
  have q1 : IsV s1 σ.objs.length val0C := by rw [hs1]; exact push_new _ _
  have dt := reftype_does' s hl s1
  rw [hn] at dt
  simp only [Option.isSome_none] at dt
  obtain ⟨s8, g1, g2, g3⟩ := storeN q1 (c := flatC 0 0 []) rfl rfl rfl
  simp only [k33_a, WK, vop, evAll, evOpt, evParts, vbuiltin, vun, vextract, Nat.reduceLT, Nat.reduceEqDiff, ↓reduceIte, reduceCtorEq, Nat.reduceAdd, Int.reduceLT, Int.reduceNeg, VZ24, vbox, vcells, ← hs1]
  refine KD.ret dt ?_
  simp only [k33_a, WK, vop, evAll, evOpt, evParts, vbuiltin, vun, vextract, Nat.reduceLT, Nat.reduceEqDiff, ↓reduceIte, reduceCtorEq, Nat.reduceAdd, Int.reduceLT, Int.reduceNeg, BV0, g1, g2.load (show (flatC 0 0 []).length = 4 from rfl)]
  exact k1.viaX' g3 (Nat.le_refl _)
theorem decS_none {s b : List UInt8} (hn : tyS s = none) : decS s b = (val0, 1) := by unfold decS; rw [hn]
theorem decode_both {s b : List UInt8} {v : V} (hl : s.length ≤ 4294967296) (hb : b.length ≤ 100000000) (hv : BtsV v b) :
    (∀ σ, ∃ c σ', Does Try.prog prims 32 [v, .str s] σ (.ret (.tuple [.agg c, .int .i64 (decS s b).2])) σ' ∧ Keep σ σ' ∧ ValC (decS s b).1 c) ∧
    (∀ σ, ∃ c σ', Does Try.prog prims 33 [v, .str s] σ (.ret (.tuple [.agg c, .int .i64 (decS s b).2])) σ' ∧ Keep σ σ' ∧ ValC (decS s b).1 c) := by
  cases hT : tyS s with
  | none =>
    rw [decS_none hT]
    refine ⟨fun σ => ?_, fun σ => ?_⟩
    · obtain ⟨q, σ', h1, rfl, h2⟩ := decode_none hT hl (v := v) σ
      exact ⟨_, _, h1, h2, val0_ok⟩
    · obtain ⟨q, σ', h1, rfl, h2⟩ := refdecode_none hT hl (v := v) σ
      exact ⟨_, _, h1, h2, val0_ok⟩
  | some T =>
    obtain ⟨rfl, h4⟩ := tyS_iff.1 hT
    have e2 : ∀ {x : Val × Int}, x = (if okS T (rdS true T (b, false)) = true then ((rdS true T (b, false)).1, (0 : Int)) else (val0, 11)) → decS (tyB T) b = x := by
      rintro x rfl
      unfold decS
      rw [hT]
    refine ⟨fun σ => ?_, fun σ => ?_⟩
    · obtain ⟨q, σ', h1, c, x, rfl, h2, h3, h5, h6⟩ := decode_key h4 hb hv σ
      obtain ⟨_, _, _, _, _, _, _, _, h7, _⟩ := refdecode_key h4 hb hv σ
      rw [dec_eq h4 b h5 h7, ← h6]
      exact ⟨_, _, h1, h2, h3⟩
    · obtain ⟨q, σ', h1, c, x, rfl, h2, h3, h5, h6⟩ := refdecode_key h4 hb hv σ
      rw [e2 h6]
      exact ⟨_, _, h1, h2, h3⟩
end Go.Proofs.Ytlimedbanpfkgaa.Q
