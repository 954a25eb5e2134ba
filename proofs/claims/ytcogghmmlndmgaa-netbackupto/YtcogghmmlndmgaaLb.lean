/- NetBack: for every input of bulk at most 1048576 the law answers true. -/
import Derived.Test.YtcogghmmlndmgaaLs
set_option linter.unusedVariables false
set_option linter.unusedSimpArgs false
namespace Go.Proofs.Ytcogghmmlndmgaa.Q
open Go Go.RowKit Go.Proofs

theorem netback_tail {σ : St} {y : V} {bs : List UInt8} (hB : BtsV y bs) (hl : bs.length ≤ 2000000) {e : Nat → V} (h1 : e 1 = y) :
    Ev Try.prog noPrim 99 (.seq (.region k7_r19) (.seq (.seq (.region k7_r20) (.cond (.tmp 77) (.seq (.region k7_r21) .ret) .skip)) (.seq (.region k7_r22) (.seq (.region k7_r23) .ret)))) e σ (fun x e' _ => x = .ret ∧ e' 4 = .bool true) := by
  obtain ⟨r1, s1, d1, k1, w, rfl, hw⟩ := decode22_does hB (by omega) σ
  obtain ⟨p, hp⟩ : ∃ p, p = (decodeS bs).getD msg0 := ⟨_, rfl⟩
  rw [← hp] at hw d1
  obtain ⟨s2, hs2⟩ : ∃ s2 : St, s2 = ⟨(s1.objs ++ [Ob.cells (msgCells msg0 .nils)]).set s1.objs.length (Ob.cells (msgCells p w)), s1.toks⟩ := ⟨_, rfl⟩
  have p2 : IsM s2 s1.objs.length p w := by rw [hs2]; exact IsM.made
  simp only [k7_r0_e, k7_r1_e, k7_r2_e, k7_r3_e, k7_r4_e, k7_r5_e, k7_r6_e, k7_r7_e, k7_r8_e, k7_r9_e, k7_r10_e, k7_r11_e, k7_r13_e, k7_r14_e, k7_r15_e, k7_r12_e, k7_l0_e, k7_r16_e, k7_r17_e, k7_r18_e, k7_r19_e, k7_r20_e, k7_r21_e, k7_r22_e, k7_r23_e, k7_e, WK0, WK1, WK2, WK3, WK4, WK5, true_implies, vop, evAll, evOpt, evParts, vbuiltin, vun, vextract, Option.map_some, Option.map_none, Nat.reduceLT, Nat.reduceEqDiff, ↓reduceIte, reduceCtorEq, Nat.reduceAdd, Int.reduceLT, Int.reduceNeg, decide_true, decide_false, Bool.not_true, Bool.not_false, ne_eq, not_true_eq_false, not_false_eq_true, List.append_nil, Bool.false_eq_true, List.getElem?_cons_zero, List.getElem?_cons_succ, and_self, and_true, true_and, h1]
  refine KD.ret d1 ?_
  cases hd : decodeS bs with
  | none =>
    rw [hd] at hp
    simp only [Option.getD_none] at hp
    subst hp
    obtain ⟨s3, d3, k3⟩ := samemessage_does (m := msg0) (k := msg0) hw ItemsV.nil (by simp [msg0]) s2
    simp only [k7_r0_e, k7_r1_e, k7_r2_e, k7_r3_e, k7_r4_e, k7_r5_e, k7_r6_e, k7_r7_e, k7_r8_e, k7_r9_e, k7_r10_e, k7_r11_e, k7_r13_e, k7_r14_e, k7_r15_e, k7_r12_e, k7_l0_e, k7_r16_e, k7_r17_e, k7_r18_e, k7_r19_e, k7_r20_e, k7_r21_e, k7_r22_e, k7_r23_e, k7_e, WK0, WK1, WK2, WK3, WK4, WK5, true_implies, vop, evAll, evOpt, evParts, vbuiltin, vun, vextract, Option.map_some, Option.map_none, Nat.reduceLT, Nat.reduceEqDiff, ↓reduceIte, reduceCtorEq, Nat.reduceAdd, Int.reduceLT, Int.reduceNeg, decide_true, decide_false, Bool.not_true, Bool.not_false, ne_eq, not_true_eq_false, not_false_eq_true, List.append_nil, Bool.false_eq_true, List.getElem?_cons_zero, List.getElem?_cons_succ, and_self, and_true, true_and, ZM, BM0, vbox, vcells, IsM.new hw.one, ← hs2, p2.load, Option.isSome_none, Int.reduceEq]
    refine KD.ret d3 ?_
    simp only [k7_r0_e, k7_r1_e, k7_r2_e, k7_r3_e, k7_r4_e, k7_r5_e, k7_r6_e, k7_r7_e, k7_r8_e, k7_r9_e, k7_r10_e, k7_r11_e, k7_r13_e, k7_r14_e, k7_r15_e, k7_r12_e, k7_l0_e, k7_r16_e, k7_r17_e, k7_r18_e, k7_r19_e, k7_r20_e, k7_r21_e, k7_r22_e, k7_r23_e, k7_e, WK0, WK1, WK2, WK3, WK4, WK5, true_implies, vop, evAll, evOpt, evParts, vbuiltin, vun, vextract, Option.map_some, Option.map_none, Nat.reduceLT, Nat.reduceEqDiff, ↓reduceIte, reduceCtorEq, Nat.reduceAdd, Int.reduceLT, Int.reduceNeg, decide_true, decide_false, Bool.not_true, Bool.not_false, ne_eq, not_true_eq_false, not_false_eq_true, List.append_nil, Bool.false_eq_true, List.getElem?_cons_zero, List.getElem?_cons_succ, and_self, and_true, true_and]
  | some k =>
    rw [hd] at hp
    simp only [Option.getD_some] at hp
    subst hp
    obtain ⟨k1, k2, k3, k4, k5⟩ := decodeS_some hd
    have hk16 := (msgOk_parts k1).1.2.2.2.2.2.2.2
    obtain ⟨r3, s3, d3, _, hb3⟩ := encode22_does k2 hw k4 (by omega) (by omega) s2
    rw [k1] at d3 hb3
    simp only [if_true] at d3 hb3
    simp only [k7_r0_e, k7_r1_e, k7_r2_e, k7_r3_e, k7_r4_e, k7_r5_e, k7_r6_e, k7_r7_e, k7_r8_e, k7_r9_e, k7_r10_e, k7_r11_e, k7_r13_e, k7_r14_e, k7_r15_e, k7_r12_e, k7_l0_e, k7_r16_e, k7_r17_e, k7_r18_e, k7_r19_e, k7_r20_e, k7_r21_e, k7_r22_e, k7_r23_e, k7_e, WK0, WK1, WK2, WK3, WK4, WK5, true_implies, vop, evAll, evOpt, evParts, vbuiltin, vun, vextract, Option.map_some, Option.map_none, Nat.reduceLT, Nat.reduceEqDiff, ↓reduceIte, reduceCtorEq, Nat.reduceAdd, Int.reduceLT, Int.reduceNeg, decide_true, decide_false, Bool.not_true, Bool.not_false, ne_eq, not_true_eq_false, not_false_eq_true, List.append_nil, Bool.false_eq_true, List.getElem?_cons_zero, List.getElem?_cons_succ, and_self, and_true, true_and, ZM, BM0, vbox, vcells, IsM.new hw.one, ← hs2, p2.load, Option.isSome_some, Int.reduceEq]
    refine KD.ret d3 ?_
    simp only [k7_r0_e, k7_r1_e, k7_r2_e, k7_r3_e, k7_r4_e, k7_r5_e, k7_r6_e, k7_r7_e, k7_r8_e, k7_r9_e, k7_r10_e, k7_r11_e, k7_r13_e, k7_r14_e, k7_r15_e, k7_r12_e, k7_l0_e, k7_r16_e, k7_r17_e, k7_r18_e, k7_r19_e, k7_r20_e, k7_r21_e, k7_r22_e, k7_r23_e, k7_e, WK0, WK1, WK2, WK3, WK4, WK5, true_implies, vop, evAll, evOpt, evParts, vbuiltin, vun, vextract, Option.map_some, Option.map_none, Nat.reduceLT, Nat.reduceEqDiff, ↓reduceIte, reduceCtorEq, Nat.reduceAdd, Int.reduceLT, Int.reduceNeg, decide_true, decide_false, Bool.not_true, Bool.not_false, ne_eq, not_true_eq_false, not_false_eq_true, List.append_nil, Bool.false_eq_true, List.getElem?_cons_zero, List.getElem?_cons_succ, and_self, and_true, true_and, h1, hb3.str T22 U27 T9, hB.str T22 U27 T9, strBin, ← k3, Int.reduceEq]

theorem netback_true : LawTrue Try.prog noPrim 7 [24, 27] := by
  intro xs hA hb
  match xs, hA with
  | [x, y], ⟨hx, hy, _⟩ =>
    obtain ⟨m, v, rfl, hv, hm, hmi, hml, hmb⟩ := msg_arg hx
    obtain ⟨bs, hB, hBl⟩ := bytes_arg T22 T5 C5 hy
    obtain ⟨bx, hbx⟩ : ∃ n, n = vbulk (.agg (msgCells m v)) := ⟨_, rfl⟩
    simp only [vbulks] at hb
    rw [← hbx] at hmi hml hmb hb
    have inm : ItmsIn m.items := fun y hy => ⟨(hmi y hy).1, by have := (hmi y hy).2; omega⟩
    have key : ∃ r σ', Does Try.prog noPrim 7 [.agg (msgCells m v), y] st0 r σ' ∧ r = .ret (.bool true) := by
      apply k7_is.does (by simp)
      obtain ⟨s1, hs1⟩ : ∃ s1 : St, s1 = ⟨st0.objs ++ [Ob.cells (msgCells m v)], st0.toks⟩ := ⟨_, rfl⟩
      have m1 : IsM s1 0 m v := by rw [hs1]; rfl
      obtain ⟨s2, d2, k2⟩ := wakes22_does s1
      have m2 := k2.at m1
      obtain ⟨b3, s3, d3, k3⟩ := heavy22_does hv (fun x hx => by have := (hmi x hx).2; omega) (by omega) (by omega) s2
      have m3 := k3.at m2
      obtain ⟨r4, s4, d4, k4, e4⟩ := encode22_does hm hv inm (by omega) (by omega) s3
      have m4 := k4.at m3
      have tail : ∀ (e : Nat → V) (σ : St), e 1 = y → Ev Try.prog noPrim 99 (.seq (.region k7_r19) (.seq (.seq (.region k7_r20) (.cond (.tmp 77) (.seq (.region k7_r21) .ret) .skip)) (.seq (.region k7_r22) (.seq (.region k7_r23) .ret)))) e σ (fnK Try.prog 99 [ResultVar.tmp 4] fun r σ' => r = .ret (.bool true)) := by
        intro e σ h1
        refine Ev.cut (netback_tail hB (by omega) h1) ?_
        rintro x e' σ' ⟨rfl, h4⟩ _
        simp only [WK0, WK1, WK2, WK3, WK4, WK5, true_implies, vop, evAll, evOpt, evParts, vbuiltin, vun, vextract, Option.map_some, Option.map_none, Nat.reduceLT, Nat.reduceEqDiff, ↓reduceIte, reduceCtorEq, Nat.reduceAdd, Int.reduceLT, Int.reduceNeg, decide_true, decide_false, Bool.not_true, Bool.not_false, ne_eq, not_true_eq_false, not_false_eq_true, List.append_nil, Bool.false_eq_true, List.getElem?_cons_zero, List.getElem?_cons_succ, and_self, and_true, true_and, h4]
      simp only [WK0, WK1, WK2, WK3, WK4, WK5, true_implies, vop, evAll, evOpt, evParts, vbuiltin, vun, vextract, Option.map_some, Option.map_none, Nat.reduceLT, Nat.reduceEqDiff, ↓reduceIte, reduceCtorEq, Nat.reduceAdd, Int.reduceLT, Int.reduceNeg, decide_true, decide_false, Bool.not_true, Bool.not_false, ne_eq, not_true_eq_false, not_false_eq_true, List.append_nil, Bool.false_eq_true, List.getElem?_cons_zero, List.getElem?_cons_succ, and_self, and_true, true_and] at tail
      simp only [k7_r0_e, k7_r1_e, k7_r2_e, k7_r3_e, k7_r4_e, k7_r5_e, k7_r6_e, k7_r7_e, k7_r8_e, k7_r9_e, k7_r10_e, k7_r11_e, k7_r13_e, k7_r14_e, k7_r15_e, k7_r12_e, k7_l0_e, k7_r16_e, k7_r17_e, k7_r18_e, k7_r19_e, k7_r20_e, k7_r21_e, k7_r22_e, k7_r23_e, k7_e, WK0, WK1, WK2, WK3, WK4, WK5, true_implies, vop, evAll, evOpt, evParts, vbuiltin, vun, vextract, Option.map_some, Option.map_none, Nat.reduceLT, Nat.reduceEqDiff, ↓reduceIte, reduceCtorEq, Nat.reduceAdd, Int.reduceLT, Int.reduceNeg, decide_true, decide_false, Bool.not_true, Bool.not_false, ne_eq, not_true_eq_false, not_false_eq_true, List.append_nil, Bool.false_eq_true, List.getElem?_cons_zero, List.getElem?_cons_succ, and_self, and_true, true_and, List.getD_cons_zero, List.getD_cons_succ, vbox, vcells, ← hs1]
      refine KD.ret d2 ?_
      simp only [k7_r0_e, k7_r1_e, k7_r2_e, k7_r3_e, k7_r4_e, k7_r5_e, k7_r6_e, k7_r7_e, k7_r8_e, k7_r9_e, k7_r10_e, k7_r11_e, k7_r13_e, k7_r14_e, k7_r15_e, k7_r12_e, k7_l0_e, k7_r16_e, k7_r17_e, k7_r18_e, k7_r19_e, k7_r20_e, k7_r21_e, k7_r22_e, k7_r23_e, k7_e, WK0, WK1, WK2, WK3, WK4, WK5, true_implies, vop, evAll, evOpt, evParts, vbuiltin, vun, vextract, Option.map_some, Option.map_none, Nat.reduceLT, Nat.reduceEqDiff, ↓reduceIte, reduceCtorEq, Nat.reduceAdd, Int.reduceLT, Int.reduceNeg, decide_true, decide_false, Bool.not_true, Bool.not_false, ne_eq, not_true_eq_false, not_false_eq_true, List.append_nil, Bool.false_eq_true, List.getElem?_cons_zero, List.getElem?_cons_succ, and_self, and_true, true_and, show st0.objs.length = 0 from rfl, m2.load]
      refine KD.ret d3 ?_
      cases b3 with
      | true => simp only [k7_r0_e, k7_r1_e, k7_r2_e, k7_r3_e, k7_r4_e, k7_r5_e, k7_r6_e, k7_r7_e, k7_r8_e, k7_r9_e, k7_r10_e, k7_r11_e, k7_r13_e, k7_r14_e, k7_r15_e, k7_r12_e, k7_l0_e, k7_r16_e, k7_r17_e, k7_r18_e, k7_r19_e, k7_r20_e, k7_r21_e, k7_r22_e, k7_r23_e, k7_e, WK0, WK1, WK2, WK3, WK4, WK5, true_implies, vop, evAll, evOpt, evParts, vbuiltin, vun, vextract, Option.map_some, Option.map_none, Nat.reduceLT, Nat.reduceEqDiff, ↓reduceIte, reduceCtorEq, Nat.reduceAdd, Int.reduceLT, Int.reduceNeg, decide_true, decide_false, Bool.not_true, Bool.not_false, ne_eq, not_true_eq_false, not_false_eq_true, List.append_nil, Bool.false_eq_true, List.getElem?_cons_zero, List.getElem?_cons_succ, and_self, and_true, true_and]
      | false =>
      by_cases hbig : (16384 : Int) < bs.length
      · simp only [k7_r0_e, k7_r1_e, k7_r2_e, k7_r3_e, k7_r4_e, k7_r5_e, k7_r6_e, k7_r7_e, k7_r8_e, k7_r9_e, k7_r10_e, k7_r11_e, k7_r13_e, k7_r14_e, k7_r15_e, k7_r12_e, k7_l0_e, k7_r16_e, k7_r17_e, k7_r18_e, k7_r19_e, k7_r20_e, k7_r21_e, k7_r22_e, k7_r23_e, k7_e, WK0, WK1, WK2, WK3, WK4, WK5, true_implies, vop, evAll, evOpt, evParts, vbuiltin, vun, vextract, Option.map_some, Option.map_none, Nat.reduceLT, Nat.reduceEqDiff, ↓reduceIte, reduceCtorEq, Nat.reduceAdd, Int.reduceLT, Int.reduceNeg, decide_true, decide_false, Bool.not_true, Bool.not_false, ne_eq, not_true_eq_false, not_false_eq_true, List.append_nil, Bool.false_eq_true, List.getElem?_cons_zero, List.getElem?_cons_succ, and_self, and_true, true_and, List.getD_cons_zero, List.getD_cons_succ, hB.len T22, hbig]
      · simp only [k7_r0_e, k7_r1_e, k7_r2_e, k7_r3_e, k7_r4_e, k7_r5_e, k7_r6_e, k7_r7_e, k7_r8_e, k7_r9_e, k7_r10_e, k7_r11_e, k7_r13_e, k7_r14_e, k7_r15_e, k7_r12_e, k7_l0_e, k7_r16_e, k7_r17_e, k7_r18_e, k7_r19_e, k7_r20_e, k7_r21_e, k7_r22_e, k7_r23_e, k7_e, WK0, WK1, WK2, WK3, WK4, WK5, true_implies, vop, evAll, evOpt, evParts, vbuiltin, vun, vextract, Option.map_some, Option.map_none, Nat.reduceLT, Nat.reduceEqDiff, ↓reduceIte, reduceCtorEq, Nat.reduceAdd, Int.reduceLT, Int.reduceNeg, decide_true, decide_false, Bool.not_true, Bool.not_false, ne_eq, not_true_eq_false, not_false_eq_true, List.append_nil, Bool.false_eq_true, List.getElem?_cons_zero, List.getElem?_cons_succ, and_self, and_true, true_and, List.getD_cons_zero, List.getD_cons_succ, hB.len T22, hbig, m3.load]
        refine KD.ret d4 ?_
        cases hok : msgOk m with
        | false =>
          simp only [WK0, WK1, WK2, WK3, WK4, WK5, true_implies, vop, evAll, evOpt, evParts, vbuiltin, vun, vextract, Option.map_some, Option.map_none, Nat.reduceLT, Nat.reduceEqDiff, ↓reduceIte, reduceCtorEq, Nat.reduceAdd, Int.reduceLT, Int.reduceNeg, decide_true, decide_false, Bool.not_true, Bool.not_false, ne_eq, not_true_eq_false, not_false_eq_true, List.append_nil, Bool.false_eq_true, List.getElem?_cons_zero, List.getElem?_cons_succ, and_self, and_true, true_and, hok, Int.reduceEq, k7_r5_e, k7_r6_e]
          exact tail _ _ (by simp [upd_some])
        | true =>
          rw [hok] at e4
          simp only [if_true] at e4
          have hXl := msgB_len hok hm inm (by omega)
          obtain ⟨X, hX⟩ : ∃ X, X = msgB m := ⟨_, rfl⟩
          have dX := decodeS_msgB hok hm inm (by omega)
          have dpre : ∀ i, i < X.length → decodeS (X.take i) = none := fun i hi => by rw [hX]; exact decodeS_pre hok hm inm (by omega) (by rw [hX] at hi; exact hi)
          have dmore := decodeS_more hok hm inm (by omega) 0
          rw [← hX] at e4 hXl dX dmore
          obtain ⟨r5, s5, d5, k5, w5, rfl, h5⟩ := decode22_does e4 (by omega) s4
          rw [dX] at d5 h5
          simp only [Option.getD_some, Option.isSome_some, if_true] at d5 h5
          obtain ⟨s6, hs6⟩ : ∃ s6 : St, s6 = ⟨(s5.objs ++ [Ob.cells (msgCells msg0 .nils)]).set s5.objs.length (Ob.cells (msgCells m w5)), s5.toks⟩ := ⟨_, rfl⟩
          have p6 : IsM s6 s5.objs.length m w5 := by rw [hs6]; exact IsM.made
          have k6 : Keep s5 s6 := by rw [hs6]; exact (Keep.refl s5).madeM _ _ _ _
          have m6 := k6.at (k5.at m4)
          obtain ⟨s7, d7, k7⟩ := samemessage_does (m := m) (k := m) h5 hv (by unfold maxLen; omega) s6
          simp only [k7_r0_e, k7_r1_e, k7_r2_e, k7_r3_e, k7_r4_e, k7_r5_e, k7_r6_e, k7_r7_e, k7_r8_e, k7_r9_e, k7_r10_e, k7_r11_e, k7_r13_e, k7_r14_e, k7_r15_e, k7_r12_e, k7_l0_e, k7_r16_e, k7_r17_e, k7_r18_e, k7_r19_e, k7_r20_e, k7_r21_e, k7_r22_e, k7_r23_e, k7_e, WK0, WK1, WK2, WK3, WK4, WK5, true_implies, vop, evAll, evOpt, evParts, vbuiltin, vun, vextract, Option.map_some, Option.map_none, Nat.reduceLT, Nat.reduceEqDiff, ↓reduceIte, reduceCtorEq, Nat.reduceAdd, Int.reduceLT, Int.reduceNeg, decide_true, decide_false, Bool.not_true, Bool.not_false, ne_eq, not_true_eq_false, not_false_eq_true, List.append_nil, Bool.false_eq_true, List.getElem?_cons_zero, List.getElem?_cons_succ, and_self, and_true, true_and, hok, Int.reduceEq]
          refine KD.ret d5 ?_
          simp only [k7_r0_e, k7_r1_e, k7_r2_e, k7_r3_e, k7_r4_e, k7_r5_e, k7_r6_e, k7_r7_e, k7_r8_e, k7_r9_e, k7_r10_e, k7_r11_e, k7_r13_e, k7_r14_e, k7_r15_e, k7_r12_e, k7_l0_e, k7_r16_e, k7_r17_e, k7_r18_e, k7_r19_e, k7_r20_e, k7_r21_e, k7_r22_e, k7_r23_e, k7_e, WK0, WK1, WK2, WK3, WK4, WK5, true_implies, vop, evAll, evOpt, evParts, vbuiltin, vun, vextract, Option.map_some, Option.map_none, Nat.reduceLT, Nat.reduceEqDiff, ↓reduceIte, reduceCtorEq, Nat.reduceAdd, Int.reduceLT, Int.reduceNeg, decide_true, decide_false, Bool.not_true, Bool.not_false, ne_eq, not_true_eq_false, not_false_eq_true, List.append_nil, Bool.false_eq_true, List.getElem?_cons_zero, List.getElem?_cons_succ, and_self, and_true, true_and, ZM, vbox, vcells, IsM.new h5.one, ← hs6, p6.load, m6.load, Int.reduceEq]
          refine KD.ret d7 ?_
          simp only [k7_r0_e, k7_r1_e, k7_r2_e, k7_r3_e, k7_r4_e, k7_r5_e, k7_r6_e, k7_r7_e, k7_r8_e, k7_r9_e, k7_r10_e, k7_r11_e, k7_r13_e, k7_r14_e, k7_r15_e, k7_r12_e, k7_l0_e, k7_r16_e, k7_r17_e, k7_r18_e, k7_r19_e, k7_r20_e, k7_r21_e, k7_r22_e, k7_r23_e, k7_e, WK0, WK1, WK2, WK3, WK4, WK5, true_implies, vop, evAll, evOpt, evParts, vbuiltin, vun, vextract, Option.map_some, Option.map_none, Nat.reduceLT, Nat.reduceEqDiff, ↓reduceIte, reduceCtorEq, Nat.reduceAdd, Int.reduceLT, Int.reduceNeg, decide_true, decide_false, Bool.not_true, Bool.not_false, ne_eq, not_true_eq_false, not_false_eq_true, List.append_nil, Bool.false_eq_true, List.getElem?_cons_zero, List.getElem?_cons_succ, and_self, and_true, true_and, Int.reduceEq]
          refine Ev.loopF (fun i e σ => e 9 = .int .i64 (i : Nat)) (fun i => X.length - i) 0 (by simp [upd_some]) ?_
          rintro i e σ h9 hf
          have g5 : e 5 = r4 := (hf 5 (by decide)).trans (by simp [upd_some])
          have g1 : e 1 = y := (hf 1 (by decide)).trans (by simp [upd_some])
          clear hf
          by_cases hlt : i < X.length
          · have hlt' : (i : Int) < (X.length : Int) := by omega
            obtain ⟨sl, hsl, hbt⟩ := e4.slice T22 S5 (lo := none) (hi := some (.int .i64 (i : Nat))) (vbounds_hi (by omega) (by omega)) (by omega) (by omega)
            simp only [Int.toNat_natCast, List.drop_zero, Nat.sub_zero] at hbt
            obtain ⟨r8, s8, d8, k8, w8, rfl, h8⟩ := decode22_does hbt (by rw [List.length_take]; omega) σ
            rw [dpre i hlt] at d8
            simp only [Option.getD_none, Option.isSome_none, Bool.false_eq_true, if_false] at d8
            have hq : (X.length : Int).tdiv 30 = ((X.length / 30 : Nat) : Int) := by rw [Int.ofNat_tdiv]; rfl
            have w1 : IntKind.i64.wrap ((X.length / 30 : Nat) : Int) = ((X.length / 30 : Nat) : Int) := wrap_i64 (by omega) (by omega)
            have w2 : IntKind.i64.wrap (1 + ((X.length / 30 : Nat) : Int)) = 1 + ((X.length / 30 : Nat) : Int) := wrap_i64 (by omega) (by omega)
            have w3 : IntKind.i64.wrap ((i : Int) + (1 + ((X.length / 30 : Nat) : Int))) = ((i + 1 + X.length / 30 : Nat) : Int) := by rw [wrap_i64 (by omega) (by omega)]; omega
            simp only [k7_r0_e, k7_r1_e, k7_r2_e, k7_r3_e, k7_r4_e, k7_r5_e, k7_r6_e, k7_r7_e, k7_r8_e, k7_r9_e, k7_r10_e, k7_r11_e, k7_r13_e, k7_r14_e, k7_r15_e, k7_r12_e, k7_l0_e, k7_r16_e, k7_r17_e, k7_r18_e, k7_r19_e, k7_r20_e, k7_r21_e, k7_r22_e, k7_r23_e, k7_e, WK0, WK1, WK2, WK3, WK4, WK5, true_implies, vop, evAll, evOpt, evParts, vbuiltin, vun, vextract, Option.map_some, Option.map_none, Nat.reduceLT, Nat.reduceEqDiff, ↓reduceIte, reduceCtorEq, Nat.reduceAdd, Int.reduceLT, Int.reduceNeg, decide_true, decide_false, Bool.not_true, Bool.not_false, ne_eq, not_true_eq_false, not_false_eq_true, List.append_nil, Bool.false_eq_true, List.getElem?_cons_zero, List.getElem?_cons_succ, and_self, and_true, true_and, g5, h9, e4.len T22, hlt', T22, hsl]
            refine KD.ret d8 ?_
            simp only [k7_r0_e, k7_r1_e, k7_r2_e, k7_r3_e, k7_r4_e, k7_r5_e, k7_r6_e, k7_r7_e, k7_r8_e, k7_r9_e, k7_r10_e, k7_r11_e, k7_r13_e, k7_r14_e, k7_r15_e, k7_r12_e, k7_l0_e, k7_r16_e, k7_r17_e, k7_r18_e, k7_r19_e, k7_r20_e, k7_r21_e, k7_r22_e, k7_r23_e, k7_e, WK0, WK1, WK2, WK3, WK4, WK5, true_implies, vop, evAll, evOpt, evParts, vbuiltin, vun, vextract, Option.map_some, Option.map_none, Nat.reduceLT, Nat.reduceEqDiff, ↓reduceIte, reduceCtorEq, Nat.reduceAdd, Int.reduceLT, Int.reduceNeg, decide_true, decide_false, Bool.not_true, Bool.not_false, ne_eq, not_true_eq_false, not_false_eq_true, List.append_nil, Bool.false_eq_true, List.getElem?_cons_zero, List.getElem?_cons_succ, and_self, and_true, true_and, g5, h9, e4.len T22, Int.reduceEq, hq, w1, w2, w3]
            exact ⟨i + 1 + X.length / 30, by simp [upd_some], by omega⟩
          · have hlt' : ¬ (i : Int) < (X.length : Int) := by omega
            have ho1 : OwnV 5 σ.toks.length σ (.slice .exact 1 [] 0) [] := .inr ⟨_, rfl, .inl rfl⟩
            obtain ⟨v9, s9, ha9, ho9, k9⟩ := ho1.append BT rfl (Keep.refl σ) T22 e4 (by simp; omega)
            rw [List.nil_append] at ho9
            have hb0 := buildByte BT (n := 0) (by omega)
            obtain ⟨va, sa, haa, hoa, ka⟩ := ho9.append BT rfl k9 T22 hb0.2 (by simp; omega)
            obtain ⟨rb, sb, db, kb, wb, rfl, hb'⟩ := decode22_does hoa.bts (by simp; omega) sa
            have hz : (X ++ [UInt8.ofNat 0]) = X ++ [0] := rfl
            rw [hz, dmore] at db
            simp only [Option.getD_none, Option.isSome_none, Bool.false_eq_true, if_false] at db
            have hb01 := hb0.1
            simp only [Int.ofNat_zero, Int.natCast_zero, Int.cast_ofNat_Int] at hb01 haa
            simp only [k7_r0_e, k7_r1_e, k7_r2_e, k7_r3_e, k7_r4_e, k7_r5_e, k7_r6_e, k7_r7_e, k7_r8_e, k7_r9_e, k7_r10_e, k7_r11_e, k7_r13_e, k7_r14_e, k7_r15_e, k7_r12_e, k7_l0_e, k7_r16_e, k7_r17_e, k7_r18_e, k7_r19_e, k7_r20_e, k7_r21_e, k7_r22_e, k7_r23_e, k7_e, WK0, WK1, WK2, WK3, WK4, WK5, true_implies, vop, evAll, evOpt, evParts, vbuiltin, vun, vextract, Option.map_some, Option.map_none, Nat.reduceLT, Nat.reduceEqDiff, ↓reduceIte, reduceCtorEq, Nat.reduceAdd, Int.reduceLT, Int.reduceNeg, decide_true, decide_false, Bool.not_true, Bool.not_false, ne_eq, not_true_eq_false, not_false_eq_true, List.append_nil, Bool.false_eq_true, List.getElem?_cons_zero, List.getElem?_cons_succ, and_self, and_true, true_and, g5, h9, e4.len T22, hlt', build0 BT, ha9, hb01, haa]
            refine KD.ret db ?_
            simp only [WK0, WK1, WK2, WK3, WK4, WK5, true_implies, vop, evAll, evOpt, evParts, vbuiltin, vun, vextract, Option.map_some, Option.map_none, Nat.reduceLT, Nat.reduceEqDiff, ↓reduceIte, reduceCtorEq, Nat.reduceAdd, Int.reduceLT, Int.reduceNeg, decide_true, decide_false, Bool.not_true, Bool.not_false, ne_eq, not_true_eq_false, not_false_eq_true, List.append_nil, Bool.false_eq_true, List.getElem?_cons_zero, List.getElem?_cons_succ, and_self, and_true, true_and, Int.reduceEq, k7_r16_e, k7_r17_e]
            exact tail _ _ (by simp [upd_some, g1])
    obtain ⟨r, σ', ⟨n, h⟩, rfl⟩ := key
    exact ⟨n, σ', h⟩
end Go.Proofs.Ytcogghmmlndmgaa.Q
