/- ValueZeros: for every input of bulk at most 1048576 the law answers true. -/
import Derived.Test.YtlimedbanpfkgaaLv
set_option linter.unusedVariables false
set_option linter.unusedSimpArgs false
namespace Go.Proofs.Ytlimedbanpfkgaa.Q
open Go Go.RowKit Go.Proofs

theorem fits_zero (T : Ty) : fitsT T (flatV (tyK T) 0 []) = true := by
  cases T <;> simp [flatV, tyK, fitsT, fitInt, fitBool, fitText, fitList, fitMap, okAll]
theorem fits_below {T : Ty} {k n : Int} {t : List UInt8} {l : List Val} (h : fitsT T (.mk k n t l) = true) : k = tyK T ∧ (k = 1 ∨ cmpV (flatV (tyK T) 0 []) (.mk k n t l) ≤ 0) := by
  have hk : k = tyK T := Classical.byContradiction fun h' => by rw [fitsT_kind h'] at h; cases h
  refine ⟨hk, ?_⟩
  subst hk
  cases T with
  | int => exact .inl rfl
  | bool =>
    right
    simp only [fitsT, fitBool, Bool.and_eq_true, Bool.or_eq_true, decide_eq_true_eq] at h
    obtain ⟨_, hn, rfl, hl⟩ := h
    have hl : l = [] := List.length_eq_zero_iff.1 (by omega)
    subst hl
    rcases hn with rfl | rfl <;> simp [flatV, cmpV, cmpL_nil, orI, sgn, Lib.compareBytes, tyK]
  | _ =>
    right
    simp only [fitsT, fitText, fitList, fitMap, Bool.and_eq_true, decide_eq_true_eq] at h
    obtain ⟨rfl, h⟩ := h
    cases t with
    | nil => cases l <;> simp [flatV, cmpV, cmpL_nil, orI, sgn, Lib.compareBytes, tyK]
    | cons c t => simp [flatV, cmpV, orI, sgn, Lib.compareBytes, tyK]

set_option maxRecDepth 100000 in
theorem zeros_true : LawTrue Try.prog prims 7 [9, 24] := by
  intro xs hA hb
  match xs, hA with
  | [x, y], ⟨hx, hy, _⟩ =>
    obtain ⟨s, rfl, hs⟩ := str_arg T9 hx
    obtain ⟨v, c, rfl, hc, wv⟩ := val_arg hy
    simp only [vbulks] at hb
    have wv' : weight v ≤ 4294967296 := by omega
    have hl : s.length ≤ 4294967296 := by omega
    have key : ∃ r σ', Does Try.prog prims 7 [.str s, .agg c] st0 r σ' ∧ r = .ret (.bool true) := by
      obtain ⟨k, n, t, l, w, rfl, rfl, hw, ik, im⟩ := hc.inv
      obtain ⟨c, hcc⟩ : ∃ c, c = [V.int .i64 k, .int .i64 n, .str t, w] := ⟨_, rfl⟩
      apply k7_is.does (by simp)
      obtain ⟨s1, hs1⟩ : ∃ s1 : St, s1 = ⟨st0.objs ++ [Ob.cells [.int .i64 k, .int .i64 n, .str t, w]], st0.toks⟩ := ⟨_, rfl⟩
      have q1 : IsV s1 0 [.int .i64 k, .int .i64 n, .str t, w] := by rw [hs1]; rfl
      obtain ⟨s2, d2, k2⟩ := wakes_does1 [.int .i64 k, .int .i64 n, .str t, w]
      have e1 : (⟨[Ob.cells [.int .i64 k, .int .i64 n, .str t, w]], []⟩ : St) = s1 := by rw [hs1]; rfl
      rw [e1] at d2 k2
      have q2 := k2.atV q1
      obtain ⟨l1, s3, d3, k3⟩ := large_does s2 wv' hc
      have q3 := k3.atV q2
      obtain ⟨s4, d4, k4⟩ := zero_does (σ := s3) s hl
      obtain ⟨s5, hs5⟩ : ∃ s5 : St, s5 = ⟨(s4.objs ++ [Ob.cells val0C]).set s4.objs.length (Ob.cells (zeroS s)), s4.toks⟩ := ⟨_, rfl⟩
      have k5 : Keep s4 s5 := by rw [hs5]; exact (Keep.refl s4).madeV _ _
      have p5 : IsV s5 s4.objs.length (zeroS s) := by rw [hs5]; exact IsV.made
      have q5 := k5.atV (k4.atV q3)
      have dt := reftype_does' s hl s5
      have hz := zeroS_ok s
      have wz : weight (flatV (kindS s) 0 []) = 1 := by simp [flatV, weight, weights]
      simp only [k7_a, WK, vop, evAll, evOpt, evParts, vbuiltin, vun, vextract, Nat.reduceLT, Nat.reduceEqDiff, ↓reduceIte, reduceCtorEq, Nat.reduceAdd, Int.reduceLT, Int.reduceNeg, vbox, vcells, List.length_nil, show st0.objs.length = 0 from rfl, ← hs1]
      refine KD.ret d2 ?_
      simp only [k7_a, WK, vop, evAll, evOpt, evParts, vbuiltin, vun, vextract, Nat.reduceLT, Nat.reduceEqDiff, ↓reduceIte, reduceCtorEq, Nat.reduceAdd, Int.reduceLT, Int.reduceNeg, q2.load hc.len]
      refine KD.ret d3 ?_
      cases l1 with
      | true => simp only [k7_a, WK, vop, evAll, evOpt, evParts, vbuiltin, vun, vextract, Nat.reduceLT, Nat.reduceEqDiff, ↓reduceIte, reduceCtorEq, Nat.reduceAdd, Int.reduceLT, Int.reduceNeg]
      | false =>
      simp only [k7_a, WK, vop, evAll, evOpt, evParts, vbuiltin, vun, vextract, Nat.reduceLT, Nat.reduceEqDiff, ↓reduceIte, reduceCtorEq, Nat.reduceAdd, Int.reduceLT, Int.reduceNeg]
      refine KD.ret d4 ?_
      simp only [k7_a, WK, vop, evAll, evOpt, evParts, vbuiltin, vun, vextract, Nat.reduceLT, Nat.reduceEqDiff, ↓reduceIte, reduceCtorEq, Nat.reduceAdd, Int.reduceLT, Int.reduceNeg, VZ24, vbox, vcells, IsV.new (zeroS_len s) (show val0C.length = 4 from rfl) hz.one, ← hs5]
      refine KD.ret dt ?_
      cases hT : tyS s with
      | none =>
        have hk0 : kindS s = 0 := by unfold kindS; rw [hT]
        have hF : ∀ v, fitsS s v = false := fun v => by unfold fitsS; rw [hT]
        obtain ⟨s6, d6, k6⟩ := vfits_does hl s5 (by omega) hz
        obtain ⟨s7, d7, k7⟩ := vfits_does hl s6 wv' hc
        rw [hF] at d6 d7
        have hzk : vload Try.prog s5.objs 3 (.optr s4.objs.length 0) = some (.int .i64 0) := by
          have := p5.kind
          rwa [hk0] at this
        simp only [k7_a, WK, vop, evAll, evOpt, evParts, vbuiltin, vun, vextract, Nat.reduceLT, Nat.reduceEqDiff, ↓reduceIte, reduceCtorEq, Nat.reduceAdd, Int.reduceLT, Int.reduceNeg, Option.isSome_none, FV0, hzk, p5.load (zeroS_len s)]
        refine KD.ret d6 ?_
        simp only [k7_a, WK, vop, evAll, evOpt, evParts, vbuiltin, vun, vextract, Nat.reduceLT, Nat.reduceEqDiff, ↓reduceIte, reduceCtorEq, Nat.reduceAdd, Int.reduceLT, Int.reduceNeg, (k6.atV q5).load hc.len]
        refine KD.ret d7 ?_
        simp only [k7_a, WK, vop, evAll, evOpt, evParts, vbuiltin, vun, vextract, Nat.reduceLT, Nat.reduceEqDiff, ↓reduceIte, reduceCtorEq, Nat.reduceAdd, Int.reduceLT, Int.reduceNeg]
      | some T =>
        obtain ⟨rfl, h4⟩ := tyS_iff.1 hT
        have hk : kindS (tyB T) = tyK T := kindS_ty h4
        have hF : fitsS (tyB T) (flatV (kindS (tyB T)) 0 []) = true := by rw [fitsS_fits h4, wz, hk, fits_zero]; rfl
        obtain ⟨r6, s6, d6, k6, b6⟩ := encode_does hl s5 (by omega) hz
        rw [encS_ok hF] at d6 b6
        simp only at d6 b6
        have hX0 := putV_len (weight (flatV (kindS (tyB T)) 0 [])) (Nat.le_refl _) (by omega) hz
        obtain ⟨D1, _⟩ := decode_both (s := tyB T) hl (b := putV (flatV (kindS (tyB T)) 0 [])) (by omega) b6
        obtain ⟨c7, s7, d7, k7, h7⟩ := D1 s6
        rw [decS_put ⟨_, hz⟩ hF] at d7 h7
        simp only at d7 h7
        obtain ⟨s8, hs8⟩ : ∃ s8 : St, s8 = ⟨(s7.objs ++ [Ob.cells val0C]).set s7.objs.length (Ob.cells c7), s7.toks⟩ := ⟨_, rfl⟩
        have k8 : Keep s7 s8 := by rw [hs8]; exact (Keep.refl s7).madeV _ _
        have p8 : IsV s8 s7.objs.length c7 := by rw [hs8]; exact IsV.made
        have z6 := k6.atV p5
        have z8 := k8.atV (k7.atV z6)
        have q8 := k8.atV (k7.atV (k6.atV q5))
        obtain ⟨s9, d9, k9⟩ := vfits_does hl s8 (by omega) hz
        rw [hF] at d9
        have z9 := k9.atV z8
        have p9 := k9.atV p8
        obtain ⟨s10, d10, k10⟩ := compare_does s9 (by omega) h7 hz
        rw [cmpV_refl] at d10
        have z10 := k10.atV z9
        obtain ⟨s11, d11, k11⟩ := weight_does s10 (by omega) hz
        rw [wz] at d11
        have q11 := k11.atV (k10.atV (k9.atV q8))
        obtain ⟨s12, d12, k12⟩ := vfits_does hl s11 wv' hc
        simp only [k7_a, WK, vop, evAll, evOpt, evParts, vbuiltin, vun, vextract, Nat.reduceLT, Nat.reduceEqDiff, ↓reduceIte, reduceCtorEq, Nat.reduceAdd, Int.reduceLT, Int.reduceNeg, Option.isSome_some, p5.load (zeroS_len _)]
        refine KD.ret d6 ?_
        simp only [k7_a, WK, vop, evAll, evOpt, evParts, vbuiltin, vun, vextract, Nat.reduceLT, Nat.reduceEqDiff, ↓reduceIte, reduceCtorEq, Nat.reduceAdd, Int.reduceLT, Int.reduceNeg]
        refine KD.ret d7 ?_
        simp only [k7_a, WK, vop, evAll, evOpt, evParts, vbuiltin, vun, vextract, Nat.reduceLT, Nat.reduceEqDiff, ↓reduceIte, reduceCtorEq, Nat.reduceAdd, Int.reduceLT, Int.reduceNeg, VZ24, vbox, vcells, IsV.new h7.len (show val0C.length = 4 from rfl) h7.one, ← hs8, z8.load (zeroS_len _)]
        refine KD.ret d9 ?_
        simp only [k7_a, WK, vop, evAll, evOpt, evParts, vbuiltin, vun, vextract, Nat.reduceLT, Nat.reduceEqDiff, ↓reduceIte, reduceCtorEq, Nat.reduceAdd, Int.reduceLT, Int.reduceNeg, z9.load (zeroS_len _), p9.load h7.len]
        refine KD.ret d10 ?_
        simp only [k7_a, WK, vop, evAll, evOpt, evParts, vbuiltin, vun, vextract, Nat.reduceLT, Nat.reduceEqDiff, ↓reduceIte, reduceCtorEq, Nat.reduceAdd, Int.reduceLT, Int.reduceNeg, z10.load (zeroS_len _)]
        refine KD.ret d11 ?_
        simp only [k7_a, WK, vop, evAll, evOpt, evParts, vbuiltin, vun, vextract, Nat.reduceLT, Nat.reduceEqDiff, ↓reduceIte, reduceCtorEq, Nat.reduceAdd, Int.reduceLT, Int.reduceNeg, q11.load hc.len, show ((1 : Nat) : Int) = 1 from rfl]
        refine KD.ret d12 ?_
        have q12 := k12.atV q11
        have z12 := k12.atV (k11.atV z10)
        cases hV : fitsS (tyB T) (.mk k n t l) with
        | false => simp only [k7_a, WK, vop, evAll, evOpt, evParts, vbuiltin, vun, vextract, Nat.reduceLT, Nat.reduceEqDiff, ↓reduceIte, reduceCtorEq, Nat.reduceAdd, Int.reduceLT, Int.reduceNeg]
        | true =>
          rw [fitsS_fits h4, Bool.and_eq_true] at hV
          obtain ⟨e1, e2⟩ := fits_below hV.2
          obtain ⟨s13, d13, k13⟩ := weight_does s12 wv' hc
          have q13 := k13.atV q12
          have z13 := k13.atV z12
          have hw1 := weight_pos (.mk k n t l)
          have hw1' : (1 : Int) ≤ (weight (.mk k n t l) : Nat) := by omega
          generalize weight (.mk k n t l) = W at d13 hw1'
          obtain ⟨s14, d14, k14⟩ := compare_does s13 (by omega) hz hc
          have hkk : kindS (tyB T) = k := by rw [hk, e1]
          have zk : vload Try.prog s12.objs 3 (.optr s4.objs.length 0) = some (.int .i64 k) := by
            have := z12.kind
            rwa [hkk] at this
          simp only [k7_a, WK, vop, evAll, evOpt, evParts, vbuiltin, vun, vextract, Nat.reduceLT, Nat.reduceEqDiff, ↓reduceIte, reduceCtorEq, Nat.reduceAdd, Int.reduceLT, Int.reduceNeg, FV0, q12.kind, zk, q12.load hc.len, eq_self]
          refine KD.ret d13 ?_
          by_cases h1 : k = 1
          · simp only [k7_a, WK, vop, evAll, evOpt, evParts, vbuiltin, vun, vextract, Nat.reduceLT, Nat.reduceEqDiff, ↓reduceIte, reduceCtorEq, Nat.reduceAdd, Int.reduceLT, Int.reduceNeg, FV0, hw1', q13.kind, h1]
          · have hle := e2.resolve_left h1
            simp only [hk] at d14
            simp only [k7_a, WK, vop, evAll, evOpt, evParts, vbuiltin, vun, vextract, Nat.reduceLT, Nat.reduceEqDiff, ↓reduceIte, reduceCtorEq, Nat.reduceAdd, Int.reduceLT, Int.reduceNeg, FV0, hw1', q13.kind, h1, z13.load (zeroS_len _), q13.load hc.len]
            refine KD.ret d14 ?_
            simp only [k7_a, WK, vop, evAll, evOpt, evParts, vbuiltin, vun, vextract, Nat.reduceLT, Nat.reduceEqDiff, ↓reduceIte, reduceCtorEq, Nat.reduceAdd, Int.reduceLT, Int.reduceNeg, hle]
    obtain ⟨r, σ', ⟨n, h⟩, rfl⟩ := key
    exact ⟨n, σ', h⟩
end Go.Proofs.Ytlimedbanpfkgaa.Q
