/- ValueTypes: for every input of bulk at most 1048576 the law answers true. -/
import Derived.Test.YtlimedbanpfkgaaVl
import Derived.Test.YtlimedbanpfkgaaTw
set_option linter.unusedVariables false
set_option linter.unusedSimpArgs false
namespace Go.Proofs.Ytlimedbanpfkgaa.Q
open Go Go.RowKit Go.Proofs

theorem str_arg {P : Program} {t : TypeId} (ht : P.underlying t = some .string) {x : V} (h : ArgT P t x) : ∃ s, x = .str s ∧ s.length ≤ vbulk x := by
  unfold ArgT at h
  simp only [ht] at h
  obtain ⟨k, h⟩ := h
  obtain ⟨l, h1, _⟩ := VT_str ht h
  injection h1 with h1
  subst h1
  exact ⟨l, rfl, by simp only [vbulk]; omega⟩
theorem UB : Try.prog.underlying 4 = some .bool := by kernel_rfl
theorem keyS_nil {s : List UInt8} : decide (keyS s = []) = !isMapS s := by
  unfold keyS isMapS
  split
  · rfl
  · rfl
  · rfl
theorem self_dec (v : Val) : decide (cmpV v v = 0) = true := decide_eq_true (cmpV_refl v)

set_option maxRecDepth 100000 in
theorem types_true : LawTrue Try.prog prims 3 [9, 24] := by
  intro xs hA hb
  match xs, hA with
  | [x, y], ⟨hx, hy, _⟩ =>
    obtain ⟨s, rfl, hs⟩ := str_arg T9 hx
    obtain ⟨v, c, rfl, hc, wv⟩ := val_arg hy
    simp only [vbulks] at hb
    have wv' : weight v ≤ 4294967296 := by omega
    have hl : s.length ≤ 4294967296 := by omega
    have key : ∃ r σ', Does Try.prog prims 3 [.str s, .agg c] st0 r σ' ∧ r = .ret (.bool true) := by
      obtain ⟨k, n, t, l, w, rfl, rfl, hw, ik, im⟩ := hc.inv
      apply k3_is.does (by simp)
      obtain ⟨s1, hs1⟩ : ∃ s1 : St, s1 = ⟨st0.objs ++ [Ob.cells [.int .i64 k, .int .i64 n, .str t, w]], st0.toks⟩ := ⟨_, rfl⟩
      have q1 : IsV s1 0 [.int .i64 k, .int .i64 n, .str t, w] := by rw [hs1]; rfl
      obtain ⟨s2, d2, k2⟩ := wakes_does1 [.int .i64 k, .int .i64 n, .str t, w]
      have e1 : (⟨[Ob.cells [.int .i64 k, .int .i64 n, .str t, w]], []⟩ : St) = s1 := by rw [hs1]; rfl
      rw [e1] at d2 k2
      have q2 := k2.atV q1
      obtain ⟨l1, s3, d3, k3⟩ := large_does s2 wv' hc
      have q3 := k3.atV q2
      obtain ⟨m, hm⟩ : ∃ m : Int, m = if decide (n = 1) then 1 else 0 := ⟨_, rfl⟩
      have im' : InI64 m := in0 (by rw [hm]; split <;> omega) (by rw [hm]; split <;> omega)
      obtain ⟨s4, d4, k4⟩ := boolv_does s3 (decide (n = 1))
      have f4 := flag_does s4 (decide (n = 1))
      rw [← hm] at d4 f4
      have q4 := k4.atV q3
      have b1 := flat_ok (k := 2) (n := m) [] (in0 (by omega) (by omega)) im'
      have b2 := flat_ok (k := 1) (n := n) [] (in0 (by omega) (by omega)) im
      have b3 := flat_ok (k := 3) (n := 0) t (in0 (by omega) (by omega)) (in0 (by omega) (by omega))
      have tw : t.length + 1 ≤ 4294967296 := by rw [weight] at wv'; omega
      obtain ⟨s5, d5, k5⟩ := same_does s4 (by simp [flatV, weight, weights]) b1 b1
      rw [self_dec] at d5
      have q5 := k5.atV q4
      obtain ⟨s6, d6, k6⟩ := intv_does s5 n
      have q6 := k6.atV q5
      obtain ⟨s7, d7, k7⟩ := same_does s6 (by simp [flatV, weight, weights]) b2 b2
      rw [self_dec] at d7
      have q7 := k7.atV q6
      obtain ⟨s8, d8, k8⟩ := textv_does s7 t
      have q8 := k8.atV q7
      obtain ⟨s9, d9, k9⟩ := same_does s8 (by simp only [flatV, weight, weights]; omega) b3 b3
      rw [self_dec] at d9
      have q9 := k9.atV q8
      obtain ⟨s10, d10, k10⟩ := zero_does s9 s hl
      have q10 := k10.atV q9
      obtain ⟨s11, d11, k11⟩ := refzero_does s10 s hl
      have q11 := k11.atV q10
      obtain ⟨s12, d12, k12⟩ := same_does s11 (by simp [flatV, weight, weights]) (zeroS_ok s) (zeroS_ok s)
      rw [self_dec] at d12
      have q12 := k12.atV q11
      obtain ⟨s13, d13, k13⟩ := vfits_does hl s12 wv' hc
      have q13 := k13.atV q12
      obtain ⟨s14, d14, k14⟩ := reffits_does hl s13 wv' hc
      simp only [k3_a, WK, vop, evAll, evOpt, evParts, vbuiltin, vun, vextract, Nat.reduceLT, Nat.reduceEqDiff, ↓reduceIte, reduceCtorEq, Nat.reduceAdd, Int.reduceLT, Int.reduceNeg, List.getD_cons_zero, List.getD_cons_succ, vbox, vcells, List.length_nil, show st0.objs.length = 0 from rfl, ← hs1]
      refine KD.ret d2 ?_
      simp only [k3_a, WK, vop, evAll, evOpt, evParts, vbuiltin, vun, vextract, Nat.reduceLT, Nat.reduceEqDiff, ↓reduceIte, reduceCtorEq, Nat.reduceAdd, Int.reduceLT, Int.reduceNeg, q2.load hc.len]
      refine KD.ret d3 ?_
      cases l1 with
      | true => simp only [k3_a, WK, vop, evAll, evOpt, evParts, vbuiltin, vun, vextract, Nat.reduceLT, Nat.reduceEqDiff, ↓reduceIte, reduceCtorEq, Nat.reduceAdd, Int.reduceLT, Int.reduceNeg]
      | false =>
      simp only [k3_a, WK, vop, evAll, evOpt, evParts, vbuiltin, vun, vextract, Nat.reduceLT, Nat.reduceEqDiff, ↓reduceIte, reduceCtorEq, Nat.reduceAdd, Int.reduceLT, Int.reduceNeg, FV1, FV2, q3.num]
      refine KD.ret d4 ?_
      simp only [k3_a, WK, vop, evAll, evOpt, evParts, vbuiltin, vun, vextract, Nat.reduceLT, Nat.reduceEqDiff, ↓reduceIte, reduceCtorEq, Nat.reduceAdd, Int.reduceLT, Int.reduceNeg, FV1, FV2, q3.num, q4.num]
      refine KD.ret f4 ?_
      simp only [k3_a, WK, vop, evAll, evOpt, evParts, vbuiltin, vun, vextract, Nat.reduceLT, Nat.reduceEqDiff, ↓reduceIte, reduceCtorEq, Nat.reduceAdd, Int.reduceLT, Int.reduceNeg, FV1, FV2, q3.num, q4.num, BVn]
      refine KD.ret d5 ?_
      simp only [k3_a, WK, vop, evAll, evOpt, evParts, vbuiltin, vun, vextract, Nat.reduceLT, Nat.reduceEqDiff, ↓reduceIte, reduceCtorEq, Nat.reduceAdd, Int.reduceLT, Int.reduceNeg, FV1, FV2, q3.num, q4.num, q5.num]
      refine KD.ret d6 ?_
      simp only [k3_a, WK, vop, evAll, evOpt, evParts, vbuiltin, vun, vextract, Nat.reduceLT, Nat.reduceEqDiff, ↓reduceIte, reduceCtorEq, Nat.reduceAdd, Int.reduceLT, Int.reduceNeg, FV1, FV2, q3.num, q4.num, q5.num, q6.num, BVn]
      refine KD.ret d7 ?_
      simp only [k3_a, WK, vop, evAll, evOpt, evParts, vbuiltin, vun, vextract, Nat.reduceLT, Nat.reduceEqDiff, ↓reduceIte, reduceCtorEq, Nat.reduceAdd, Int.reduceLT, Int.reduceNeg, FV1, FV2, q3.num, q4.num, q5.num, q6.num, q7.num, q7.text]
      refine KD.ret d8 ?_
      simp only [k3_a, WK, vop, evAll, evOpt, evParts, vbuiltin, vun, vextract, Nat.reduceLT, Nat.reduceEqDiff, ↓reduceIte, reduceCtorEq, Nat.reduceAdd, Int.reduceLT, Int.reduceNeg, FV1, FV2, q3.num, q4.num, q5.num, q6.num, q7.num, q7.text, q8.text, BVt]
      refine KD.ret d9 ?_
      simp only [k3_a, WK, vop, evAll, evOpt, evParts, vbuiltin, vun, vextract, Nat.reduceLT, Nat.reduceEqDiff, ↓reduceIte, reduceCtorEq, Nat.reduceAdd, Int.reduceLT, Int.reduceNeg, FV1, FV2, q3.num, q4.num, q5.num, q6.num, q7.num, q7.text, q8.text, q9.text, List.getD_cons_zero]
      refine KD.ret (vlist_does s hl s9) ?_
      simp only [k3_a, WK, vop, evAll, evOpt, evParts, vbuiltin, vun, vextract, Nat.reduceLT, Nat.reduceEqDiff, ↓reduceIte, reduceCtorEq, Nat.reduceAdd, Int.reduceLT, Int.reduceNeg, List.getD_cons_zero]
      refine KD.ret (vmap_does s hl s9) ?_
      simp only [k3_a, WK, vop, evAll, evOpt, evParts, vbuiltin, vun, vextract, Nat.reduceLT, Nat.reduceEqDiff, ↓reduceIte, reduceCtorEq, Nat.reduceAdd, Int.reduceLT, Int.reduceNeg, List.getD_cons_zero]
      refine KD.ret (refmap_does s hl s9) ?_
      simp only [k3_a, WK, vop, evAll, evOpt, evParts, vbuiltin, vun, vextract, Nat.reduceLT, Nat.reduceEqDiff, ↓reduceIte, reduceCtorEq, Nat.reduceAdd, Int.reduceLT, Int.reduceNeg, List.getD_cons_zero]
      refine KD.ret (reflist_does s hl s9) ?_
      have n1 := listS_nil (s := s)
      have n2 := keyS_nil (s := s)
      simp only [k3_a, WK, vop, evAll, evOpt, evParts, vbuiltin, vun, vextract, Nat.reduceLT, Nat.reduceEqDiff, ↓reduceIte, reduceCtorEq, Nat.reduceAdd, Int.reduceLT, Int.reduceNeg, List.getD_cons_zero, ofVal_str, strBin, vbin_beq UB, n1, n2, Bool.not_not, eq_self, beq_self_eq_true]
      refine KD.ret d10 ?_
      simp only [k3_a, WK, vop, evAll, evOpt, evParts, vbuiltin, vun, vextract, Nat.reduceLT, Nat.reduceEqDiff, ↓reduceIte, reduceCtorEq, Nat.reduceAdd, Int.reduceLT, Int.reduceNeg, List.getD_cons_zero]
      refine KD.ret d11 ?_
      simp only [k3_a, WK, vop, evAll, evOpt, evParts, vbuiltin, vun, vextract, Nat.reduceLT, Nat.reduceEqDiff, ↓reduceIte, reduceCtorEq, Nat.reduceAdd, Int.reduceLT, Int.reduceNeg, List.getD_cons_zero]
      refine KD.ret d12 ?_
      simp only [k3_a, WK, vop, evAll, evOpt, evParts, vbuiltin, vun, vextract, Nat.reduceLT, Nat.reduceEqDiff, ↓reduceIte, reduceCtorEq, Nat.reduceAdd, Int.reduceLT, Int.reduceNeg, List.getD_cons_zero, q12.load hc.len]
      refine KD.ret d13 ?_
      simp only [k3_a, WK, vop, evAll, evOpt, evParts, vbuiltin, vun, vextract, Nat.reduceLT, Nat.reduceEqDiff, ↓reduceIte, reduceCtorEq, Nat.reduceAdd, Int.reduceLT, Int.reduceNeg, List.getD_cons_zero, q12.load hc.len, q13.load hc.len]
      refine KD.ret d14 ?_
      simp only [k3_a, WK, vop, evAll, evOpt, evParts, vbuiltin, vun, vextract, Nat.reduceLT, Nat.reduceEqDiff, ↓reduceIte, reduceCtorEq, Nat.reduceAdd, Int.reduceLT, Int.reduceNeg, List.getD_cons_zero, q12.load hc.len, q13.load hc.len, vbin_beq UB, beq_self_eq_true]
    obtain ⟨r, σ', ⟨n, h⟩, rfl⟩ := key
    exact ⟨n, σ', h⟩
end Go.Proofs.Ytlimedbanpfkgaa.Q
