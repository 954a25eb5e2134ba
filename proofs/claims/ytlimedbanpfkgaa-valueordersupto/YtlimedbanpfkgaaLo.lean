/- ValueOrders: for every input of bulk at most 1048576 the law answers true. -/
import Derived.Test.YtlimedbanpfkgaaVe
import Derived.Test.YtlimedbanpfkgaaTw
set_option linter.unusedVariables false
set_option linter.unusedSimpArgs false
namespace Go.Proofs.Ytlimedbanpfkgaa.Q
open Go Go.RowKit Go.Proofs

set_option maxRecDepth 100000 in
theorem orders_true : LawTrue Try.prog prims 4 [24, 24, 24] := by
  intro xs hA hb
  match xs, hA with
  | [x, y, z], ⟨hx, hy, hz, _⟩ =>
    obtain ⟨a, ca, rfl, ha, wa⟩ := val_arg hx
    obtain ⟨b, cb, rfl, hb', wb⟩ := val_arg hy
    obtain ⟨c, cc, rfl, hc, wc⟩ := val_arg hz
    simp only [vbulks] at hb
    have wa' : weight a ≤ 4294967296 := by omega
    have wb' : weight b ≤ 4294967296 := by omega
    have wc' : weight c ≤ 4294967296 := by omega
    have key : ∃ r σ', Does Try.prog prims 4 [.agg ca, .agg cb, .agg cc] st0 r σ' ∧ r = .ret (.bool true) := by
      apply k4_is.does (by simp)
      obtain ⟨s1, hs1⟩ : ∃ s1 : St, s1 = ⟨((st0.objs ++ [Ob.cells ca]) ++ [Ob.cells cb]) ++ [Ob.cells cc], st0.toks⟩ := ⟨_, rfl⟩
      have a1 : IsV s1 0 ca := by rw [hs1]; rfl
      have b1 : IsV s1 1 cb := by rw [hs1]; rfl
      have c1 : IsV s1 2 cc := by rw [hs1]; rfl
      obtain ⟨s2, d2, k2⟩ := wakes_does ca cb cc
      have e1 : (⟨[Ob.cells ca, Ob.cells cb, Ob.cells cc], []⟩ : St) = s1 := by rw [hs1]; rfl
      rw [e1] at d2 k2
      obtain ⟨l1, s3, d3, k3⟩ := large_does s2 wa' ha
      obtain ⟨l2, s4, d4, k4⟩ := large_does s3 wb' hb'
      obtain ⟨l3, s5, d5, k5⟩ := large_does s4 wc' hc
      obtain ⟨s6, d6, k6⟩ := compare_does (a := a) (b := b) s5 wa' ha hb'
      obtain ⟨s7, d7, k7⟩ := refcompare_does (a := a) (b := b) s6 wa' ha hb'
      obtain ⟨s8, d8, k8⟩ := compare_does (a := b) (b := a) s7 wb' hb' ha
      obtain ⟨s9, d9, k9⟩ := compare_does (a := a) (b := a) s8 wa' ha ha
      obtain ⟨s10, d10, k10⟩ := weight_does s9 wa' ha
      obtain ⟨s11, d11, k11⟩ := refweight_does s10 wa' ha
      obtain ⟨s12, d12, k12⟩ := compare_does (a := b) (b := c) s11 wb' hb' hc
      obtain ⟨s13, d13, k13⟩ := compare_does (a := a) (b := c) s12 wa' ha hc
      obtain ⟨s14, d14, k14⟩ := compare_does (a := a) (b := c) s11 wa' ha hc
      have a2 := k2.atV a1
      have b3 := k3.atV (k2.atV b1)
      have c4 := k4.atV (k3.atV (k2.atV c1))
      have k25 := (k3.trans k4).trans k5
      have a5 := k25.atV a2
      have b5 := k5.atV (k4.atV b3)
      have c5 := k5.atV c4
      have a6 := k6.atV a5
      have b6 := k6.atV b5
      have a7 := k7.atV a6
      have b7 := k7.atV b6
      have a8 := k8.atV a7
      have a9 := k9.atV a8
      have a10 := k10.atV a9
      have k511 := ((((k6.trans k7).trans k8).trans k9).trans k10).trans k11
      have a11 := k511.atV a5
      have b11 := k511.atV b5
      have c11 := k511.atV c5
      have a12 := k12.atV a11
      have c12 := k12.atV c11
      have hrefl := cmpV_refl a
      rw [hrefl] at d9
      have hin := cmpV_in b a
      have hneg : IntKind.i64.wrap (0 - cmpV b a) = cmpV a b := by
        rw [wrap_i64 (by omega) (by omega), cmpV_anti a b]; omega
      simp only [k4_r0_e, k4_r1_e, k4_r2_e, k4_r3_e, k4_r4_e, k4_r5_e, k4_r6_e, k4_r7_e, k4_r8_e, k4_e, WK0, WK1, WK2, WK3, WK4, WK5, true_implies, vop, evAll, evOpt, evParts, vbuiltin, vun, vextract, Option.map_some, Option.map_none, Nat.reduceLT, Nat.reduceEqDiff, ↓reduceIte, reduceCtorEq, Nat.reduceAdd, Int.reduceLT, Int.reduceNeg, decide_true, decide_false, Bool.not_true, Bool.not_false, ne_eq, not_true_eq_false, not_false_eq_true, List.append_nil, Bool.false_eq_true, List.getElem?_cons_zero, List.getElem?_cons_succ, and_self, and_true, true_and, List.getD_cons_zero, List.getD_cons_succ, vbox, vcells, List.length_append, List.length_cons, List.length_nil, show st0.objs.length = 0 from rfl, ← hs1]
      refine KD.ret d2 ?_
      simp only [k4_r0_e, k4_r1_e, k4_r2_e, k4_r3_e, k4_r4_e, k4_r5_e, k4_r6_e, k4_r7_e, k4_r8_e, k4_e, WK0, WK1, WK2, WK3, WK4, WK5, true_implies, vop, evAll, evOpt, evParts, vbuiltin, vun, vextract, Option.map_some, Option.map_none, Nat.reduceLT, Nat.reduceEqDiff, ↓reduceIte, reduceCtorEq, Nat.reduceAdd, Int.reduceLT, Int.reduceNeg, decide_true, decide_false, Bool.not_true, Bool.not_false, ne_eq, not_true_eq_false, not_false_eq_true, List.append_nil, Bool.false_eq_true, List.getElem?_cons_zero, List.getElem?_cons_succ, and_self, and_true, true_and, a2.load ha.len]
      refine KD.ret d3 ?_
      cases l1 with
      | true => simp only [k4_r0_e, k4_r1_e, k4_r2_e, k4_r3_e, k4_r4_e, k4_r5_e, k4_r6_e, k4_r7_e, k4_r8_e, k4_e, WK0, WK1, WK2, WK3, WK4, WK5, true_implies, vop, evAll, evOpt, evParts, vbuiltin, vun, vextract, Option.map_some, Option.map_none, Nat.reduceLT, Nat.reduceEqDiff, ↓reduceIte, reduceCtorEq, Nat.reduceAdd, Int.reduceLT, Int.reduceNeg, decide_true, decide_false, Bool.not_true, Bool.not_false, ne_eq, not_true_eq_false, not_false_eq_true, List.append_nil, Bool.false_eq_true, List.getElem?_cons_zero, List.getElem?_cons_succ, and_self, and_true, true_and]
      | false =>
      simp only [k4_r0_e, k4_r1_e, k4_r2_e, k4_r3_e, k4_r4_e, k4_r5_e, k4_r6_e, k4_r7_e, k4_r8_e, k4_e, WK0, WK1, WK2, WK3, WK4, WK5, true_implies, vop, evAll, evOpt, evParts, vbuiltin, vun, vextract, Option.map_some, Option.map_none, Nat.reduceLT, Nat.reduceEqDiff, ↓reduceIte, reduceCtorEq, Nat.reduceAdd, Int.reduceLT, Int.reduceNeg, decide_true, decide_false, Bool.not_true, Bool.not_false, ne_eq, not_true_eq_false, not_false_eq_true, List.append_nil, Bool.false_eq_true, List.getElem?_cons_zero, List.getElem?_cons_succ, and_self, and_true, true_and, b3.load hb'.len]
      refine KD.ret d4 ?_
      cases l2 with
      | true => simp only [k4_r0_e, k4_r1_e, k4_r2_e, k4_r3_e, k4_r4_e, k4_r5_e, k4_r6_e, k4_r7_e, k4_r8_e, k4_e, WK0, WK1, WK2, WK3, WK4, WK5, true_implies, vop, evAll, evOpt, evParts, vbuiltin, vun, vextract, Option.map_some, Option.map_none, Nat.reduceLT, Nat.reduceEqDiff, ↓reduceIte, reduceCtorEq, Nat.reduceAdd, Int.reduceLT, Int.reduceNeg, decide_true, decide_false, Bool.not_true, Bool.not_false, ne_eq, not_true_eq_false, not_false_eq_true, List.append_nil, Bool.false_eq_true, List.getElem?_cons_zero, List.getElem?_cons_succ, and_self, and_true, true_and]
      | false =>
      simp only [k4_r0_e, k4_r1_e, k4_r2_e, k4_r3_e, k4_r4_e, k4_r5_e, k4_r6_e, k4_r7_e, k4_r8_e, k4_e, WK0, WK1, WK2, WK3, WK4, WK5, true_implies, vop, evAll, evOpt, evParts, vbuiltin, vun, vextract, Option.map_some, Option.map_none, Nat.reduceLT, Nat.reduceEqDiff, ↓reduceIte, reduceCtorEq, Nat.reduceAdd, Int.reduceLT, Int.reduceNeg, decide_true, decide_false, Bool.not_true, Bool.not_false, ne_eq, not_true_eq_false, not_false_eq_true, List.append_nil, Bool.false_eq_true, List.getElem?_cons_zero, List.getElem?_cons_succ, and_self, and_true, true_and, c4.load hc.len]
      refine KD.ret d5 ?_
      cases l3 with
      | true => simp only [k4_r0_e, k4_r1_e, k4_r2_e, k4_r3_e, k4_r4_e, k4_r5_e, k4_r6_e, k4_r7_e, k4_r8_e, k4_e, WK0, WK1, WK2, WK3, WK4, WK5, true_implies, vop, evAll, evOpt, evParts, vbuiltin, vun, vextract, Option.map_some, Option.map_none, Nat.reduceLT, Nat.reduceEqDiff, ↓reduceIte, reduceCtorEq, Nat.reduceAdd, Int.reduceLT, Int.reduceNeg, decide_true, decide_false, Bool.not_true, Bool.not_false, ne_eq, not_true_eq_false, not_false_eq_true, List.append_nil, Bool.false_eq_true, List.getElem?_cons_zero, List.getElem?_cons_succ, and_self, and_true, true_and]
      | false =>
      have fin : ∀ (e : Nat → V), e 3 = .optr 0 0 → e 4 = .optr 1 0 → e 5 = .optr 2 0 → e 7 = .int .i64 (cmpV a b) → Ev Try.prog prims 64 (.seq (.region k4_r8) .ret) e s11 (fnK Try.prog 64 [ResultVar.tmp 6] fun r σ' => r = .ret (.bool true)) := by
        intro e g3 g4 g5 g7
        by_cases h1 : cmpV a b ≤ 0
        · simp only [k4_r0_e, k4_r1_e, k4_r2_e, k4_r3_e, k4_r4_e, k4_r5_e, k4_r6_e, k4_r7_e, k4_r8_e, k4_e, WK0, WK1, WK2, WK3, WK4, WK5, true_implies, vop, evAll, evOpt, evParts, vbuiltin, vun, vextract, Option.map_some, Option.map_none, Nat.reduceLT, Nat.reduceEqDiff, ↓reduceIte, reduceCtorEq, Nat.reduceAdd, Int.reduceLT, Int.reduceNeg, decide_true, decide_false, Bool.not_true, Bool.not_false, ne_eq, not_true_eq_false, not_false_eq_true, List.append_nil, Bool.false_eq_true, List.getElem?_cons_zero, List.getElem?_cons_succ, and_self, and_true, true_and, g3, g4, g5, g7, h1, b11.load hb'.len, c11.load hc.len]
          refine KD.ret d12 ?_
          by_cases h2 : cmpV b c ≤ 0
          · have h3 := cmpV_trans h1 h2
            simp only [k4_r0_e, k4_r1_e, k4_r2_e, k4_r3_e, k4_r4_e, k4_r5_e, k4_r6_e, k4_r7_e, k4_r8_e, k4_e, WK0, WK1, WK2, WK3, WK4, WK5, true_implies, vop, evAll, evOpt, evParts, vbuiltin, vun, vextract, Option.map_some, Option.map_none, Nat.reduceLT, Nat.reduceEqDiff, ↓reduceIte, reduceCtorEq, Nat.reduceAdd, Int.reduceLT, Int.reduceNeg, decide_true, decide_false, Bool.not_true, Bool.not_false, ne_eq, not_true_eq_false, not_false_eq_true, List.append_nil, Bool.false_eq_true, List.getElem?_cons_zero, List.getElem?_cons_succ, and_self, and_true, true_and, g3, g4, g5, g7, h2, a12.load ha.len, c12.load hc.len]
            refine KD.ret d13 ?_
            simp only [k4_r0_e, k4_r1_e, k4_r2_e, k4_r3_e, k4_r4_e, k4_r5_e, k4_r6_e, k4_r7_e, k4_r8_e, k4_e, WK0, WK1, WK2, WK3, WK4, WK5, true_implies, vop, evAll, evOpt, evParts, vbuiltin, vun, vextract, Option.map_some, Option.map_none, Nat.reduceLT, Nat.reduceEqDiff, ↓reduceIte, reduceCtorEq, Nat.reduceAdd, Int.reduceLT, Int.reduceNeg, decide_true, decide_false, Bool.not_true, Bool.not_false, ne_eq, not_true_eq_false, not_false_eq_true, List.append_nil, Bool.false_eq_true, List.getElem?_cons_zero, List.getElem?_cons_succ, and_self, and_true, true_and, h3]
          · simp only [k4_r0_e, k4_r1_e, k4_r2_e, k4_r3_e, k4_r4_e, k4_r5_e, k4_r6_e, k4_r7_e, k4_r8_e, k4_e, WK0, WK1, WK2, WK3, WK4, WK5, true_implies, vop, evAll, evOpt, evParts, vbuiltin, vun, vextract, Option.map_some, Option.map_none, Nat.reduceLT, Nat.reduceEqDiff, ↓reduceIte, reduceCtorEq, Nat.reduceAdd, Int.reduceLT, Int.reduceNeg, decide_true, decide_false, Bool.not_true, Bool.not_false, ne_eq, not_true_eq_false, not_false_eq_true, List.append_nil, Bool.false_eq_true, List.getElem?_cons_zero, List.getElem?_cons_succ, and_self, and_true, true_and, g3, g4, g5, g7, h2]
        · simp only [k4_r0_e, k4_r1_e, k4_r2_e, k4_r3_e, k4_r4_e, k4_r5_e, k4_r6_e, k4_r7_e, k4_r8_e, k4_e, WK0, WK1, WK2, WK3, WK4, WK5, true_implies, vop, evAll, evOpt, evParts, vbuiltin, vun, vextract, Option.map_some, Option.map_none, Nat.reduceLT, Nat.reduceEqDiff, ↓reduceIte, reduceCtorEq, Nat.reduceAdd, Int.reduceLT, Int.reduceNeg, decide_true, decide_false, Bool.not_true, Bool.not_false, ne_eq, not_true_eq_false, not_false_eq_true, List.append_nil, Bool.false_eq_true, List.getElem?_cons_zero, List.getElem?_cons_succ, and_self, and_true, true_and, g3, g4, g5, g7, h1]
      simp only [WK0, WK1, WK2, WK3, WK4, WK5, true_implies, vop, evAll, evOpt, evParts, vbuiltin, vun, vextract, Option.map_some, Option.map_none, Nat.reduceLT, Nat.reduceEqDiff, ↓reduceIte, reduceCtorEq, Nat.reduceAdd, Int.reduceLT, Int.reduceNeg, decide_true, decide_false, Bool.not_true, Bool.not_false, ne_eq, not_true_eq_false, not_false_eq_true, List.append_nil, Bool.false_eq_true, List.getElem?_cons_zero, List.getElem?_cons_succ, and_self, and_true, true_and] at fin
      simp only [k4_r0_e, k4_r1_e, k4_r2_e, k4_r3_e, k4_r4_e, k4_r5_e, k4_r6_e, k4_r7_e, k4_r8_e, k4_e, WK0, WK1, WK2, WK3, WK4, WK5, true_implies, vop, evAll, evOpt, evParts, vbuiltin, vun, vextract, Option.map_some, Option.map_none, Nat.reduceLT, Nat.reduceEqDiff, ↓reduceIte, reduceCtorEq, Nat.reduceAdd, Int.reduceLT, Int.reduceNeg, decide_true, decide_false, Bool.not_true, Bool.not_false, ne_eq, not_true_eq_false, not_false_eq_true, List.append_nil, Bool.false_eq_true, List.getElem?_cons_zero, List.getElem?_cons_succ, and_self, and_true, true_and, a5.load ha.len, b5.load hb'.len]
      refine KD.ret d6 ?_
      simp only [k4_r0_e, k4_r1_e, k4_r2_e, k4_r3_e, k4_r4_e, k4_r5_e, k4_r6_e, k4_r7_e, k4_r8_e, k4_e, WK0, WK1, WK2, WK3, WK4, WK5, true_implies, vop, evAll, evOpt, evParts, vbuiltin, vun, vextract, Option.map_some, Option.map_none, Nat.reduceLT, Nat.reduceEqDiff, ↓reduceIte, reduceCtorEq, Nat.reduceAdd, Int.reduceLT, Int.reduceNeg, decide_true, decide_false, Bool.not_true, Bool.not_false, ne_eq, not_true_eq_false, not_false_eq_true, List.append_nil, Bool.false_eq_true, List.getElem?_cons_zero, List.getElem?_cons_succ, and_self, and_true, true_and, a6.load ha.len, b6.load hb'.len]
      refine KD.ret d7 ?_
      simp only [k4_r0_e, k4_r1_e, k4_r2_e, k4_r3_e, k4_r4_e, k4_r5_e, k4_r6_e, k4_r7_e, k4_r8_e, k4_e, WK0, WK1, WK2, WK3, WK4, WK5, true_implies, vop, evAll, evOpt, evParts, vbuiltin, vun, vextract, Option.map_some, Option.map_none, Nat.reduceLT, Nat.reduceEqDiff, ↓reduceIte, reduceCtorEq, Nat.reduceAdd, Int.reduceLT, Int.reduceNeg, decide_true, decide_false, Bool.not_true, Bool.not_false, ne_eq, not_true_eq_false, not_false_eq_true, List.append_nil, Bool.false_eq_true, List.getElem?_cons_zero, List.getElem?_cons_succ, and_self, and_true, true_and, a7.load ha.len, b7.load hb'.len]
      refine KD.ret d8 ?_
      simp only [k4_r0_e, k4_r1_e, k4_r2_e, k4_r3_e, k4_r4_e, k4_r5_e, k4_r6_e, k4_r7_e, k4_r8_e, k4_e, WK0, WK1, WK2, WK3, WK4, WK5, true_implies, vop, evAll, evOpt, evParts, vbuiltin, vun, vextract, Option.map_some, Option.map_none, Nat.reduceLT, Nat.reduceEqDiff, ↓reduceIte, reduceCtorEq, Nat.reduceAdd, Int.reduceLT, Int.reduceNeg, decide_true, decide_false, Bool.not_true, Bool.not_false, ne_eq, not_true_eq_false, not_false_eq_true, List.append_nil, Bool.false_eq_true, List.getElem?_cons_zero, List.getElem?_cons_succ, and_self, and_true, true_and, hneg, a8.load ha.len]
      refine KD.ret d9 ?_
      simp only [k4_r0_e, k4_r1_e, k4_r2_e, k4_r3_e, k4_r4_e, k4_r5_e, k4_r6_e, k4_r7_e, k4_r8_e, k4_e, WK0, WK1, WK2, WK3, WK4, WK5, true_implies, vop, evAll, evOpt, evParts, vbuiltin, vun, vextract, Option.map_some, Option.map_none, Nat.reduceLT, Nat.reduceEqDiff, ↓reduceIte, reduceCtorEq, Nat.reduceAdd, Int.reduceLT, Int.reduceNeg, decide_true, decide_false, Bool.not_true, Bool.not_false, ne_eq, not_true_eq_false, not_false_eq_true, List.append_nil, Bool.false_eq_true, List.getElem?_cons_zero, List.getElem?_cons_succ, and_self, and_true, true_and, a9.load ha.len]
      refine KD.ret d10 ?_
      simp only [k4_r0_e, k4_r1_e, k4_r2_e, k4_r3_e, k4_r4_e, k4_r5_e, k4_r6_e, k4_r7_e, k4_r8_e, k4_e, WK0, WK1, WK2, WK3, WK4, WK5, true_implies, vop, evAll, evOpt, evParts, vbuiltin, vun, vextract, Option.map_some, Option.map_none, Nat.reduceLT, Nat.reduceEqDiff, ↓reduceIte, reduceCtorEq, Nat.reduceAdd, Int.reduceLT, Int.reduceNeg, decide_true, decide_false, Bool.not_true, Bool.not_false, ne_eq, not_true_eq_false, not_false_eq_true, List.append_nil, Bool.false_eq_true, List.getElem?_cons_zero, List.getElem?_cons_succ, and_self, and_true, true_and, a9.load ha.len, a10.load ha.len]
      refine KD.ret d11 ?_
      simp only [k4_r7_e, WK0, WK1, WK2, WK3, WK4, WK5, true_implies, vop, evAll, evOpt, evParts, vbuiltin, vun, vextract, Option.map_some, Option.map_none, Nat.reduceLT, Nat.reduceEqDiff, ↓reduceIte, reduceCtorEq, Nat.reduceAdd, Int.reduceLT, Int.reduceNeg, decide_true, decide_false, Bool.not_true, Bool.not_false, ne_eq, not_true_eq_false, not_false_eq_true, List.append_nil, Bool.false_eq_true, List.getElem?_cons_zero, List.getElem?_cons_succ, and_self, and_true, true_and, a9.load ha.len, a10.load ha.len]
      exact fin _ (by simp [upd_some]) (by simp [upd_some]) (by simp [upd_some]) (by simp [upd_some])
    obtain ⟨r, σ', ⟨n, h⟩, rfl⟩ := key
    exact ⟨n, σ', h⟩
end Go.Proofs.Ytlimedbanpfkgaa.Q
