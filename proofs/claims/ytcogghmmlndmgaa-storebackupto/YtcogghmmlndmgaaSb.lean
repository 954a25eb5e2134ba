/- StoreBack: for every input of bulk at most 1048576 the law answers true. -/
import Derived.Test.YtcogghmmlndmgaaSa
set_option linter.unusedVariables false
set_option linter.unusedSimpArgs false
namespace Go.Proofs.Ytcogghmmlndmgaa.Q
open Go Go.RowKit Go.Proofs

theorem storeback_tail {σ : St} {y : V} {bs : List UInt8} {size : Int} (hB : BtsV y bs) (hl : bs.length ≤ 2000000) {e : Nat → V} (h1 : e 1 = .int .i64 size) (h2 : e 2 = y) :
    Ev Try.prog noPrim 119 (.seq (.region k4_r19) (.seq (.seq (.region k4_r20) (.cond (.tmp 84) (.seq (.region k4_r21) .ret) .skip)) (.seq (.region k4_r22) (.seq (.region k4_r23) .ret)))) e σ (fun x e' _ => x = .ret ∧ e' 6 = .bool true) := by
  obtain ⟨r1, s1, d1, k1, hR⟩ := decode21_does hB (by omega) size σ
  obtain ⟨w, rfl, hw⟩ := hR.out
  obtain ⟨p, hp⟩ : ∃ p, p = decR bs size := ⟨_, rfl⟩
  rw [← hp] at hw d1
  obtain ⟨s2, hs2⟩ : ∃ s2 : St, s2 = ⟨(s1.objs ++ [Ob.cells (lgCells lg0 .nils)]).set s1.objs.length (Ob.cells (lgCells p.1 w)), s1.toks⟩ := ⟨_, rfl⟩
  have p2 : IsL s2 s1.objs.length p.1 w := by rw [hs2]; exact IsL.made
  simp only [k4_r0_e, k4_r1_e, k4_r2_e, k4_r3_e, k4_r4_e, k4_r5_e, k4_r6_e, k4_r7_e, k4_r8_e, k4_r9_e, k4_r10_e, k4_r11_e, k4_r13_e, k4_r14_e, k4_r15_e, k4_r12_e, k4_l0_e, k4_r16_e, k4_r17_e, k4_r18_e, k4_r19_e, k4_r20_e, k4_r21_e, k4_r22_e, k4_r23_e, k4_e, WK0, WK1, WK2, WK3, WK4, WK5, true_implies, vop, evAll, evOpt, evParts, vbuiltin, vun, vextract, Option.map_some, Option.map_none, Nat.reduceLT, Nat.reduceEqDiff, ↓reduceIte, reduceCtorEq, Nat.reduceAdd, Int.reduceLT, Int.reduceNeg, decide_true, decide_false, Bool.not_true, Bool.not_false, ne_eq, not_true_eq_false, not_false_eq_true, List.append_nil, Bool.false_eq_true, List.getElem?_cons_zero, List.getElem?_cons_succ, and_self, and_true, true_and, h1, h2]
  refine KD.ret d1 ?_
  have hcase : (p.2 ≠ 0 ∧ p.1 = lg0) ∨ (p.2 = 0 ∧ 1 ≤ size ∧ size ≤ 7 ∧ decodeL bs size = some p.1) := by
    rw [hp]
    unfold decR
    split
    · rename_i hs
      cases hd : decodeL bs size with
      | none => left; simp
      | some k => right; simp [hs]
    · left; simp
  rcases hcase with ⟨hne, hlg⟩ | ⟨h0, hz1, hz2, hd⟩
  · rw [hlg] at hw p2
    rw [hlg] at hs2
    have hne' : ¬ p.2 = 0 := hne
    have hlen : vlen Try.prog 22 w = some (.int .i64 0) := by
      have := hw.len
      simpa [lg0] using this
    simp only [k4_r0_e, k4_r1_e, k4_r2_e, k4_r3_e, k4_r4_e, k4_r5_e, k4_r6_e, k4_r7_e, k4_r8_e, k4_r9_e, k4_r10_e, k4_r11_e, k4_r13_e, k4_r14_e, k4_r15_e, k4_r12_e, k4_l0_e, k4_r16_e, k4_r17_e, k4_r18_e, k4_r19_e, k4_r20_e, k4_r21_e, k4_r22_e, k4_r23_e, k4_e, WK0, WK1, WK2, WK3, WK4, WK5, true_implies, vop, evAll, evOpt, evParts, vbuiltin, vun, vextract, Option.map_some, Option.map_none, Nat.reduceLT, Nat.reduceEqDiff, ↓reduceIte, reduceCtorEq, Nat.reduceAdd, Int.reduceLT, Int.reduceNeg, decide_true, decide_false, Bool.not_true, Bool.not_false, ne_eq, not_true_eq_false, not_false_eq_true, List.append_nil, Bool.false_eq_true, List.getElem?_cons_zero, List.getElem?_cons_succ, and_self, and_true, true_and, ZL, vbox, vcells, hlg, IsL.new hw.one, ← hs2, hne', FL0, FL4, FL5, p2.i, p2.s, p2.r, lgC0, lgC4, lgC5, hlen, show lg0.term = 0 from rfl, show lg0.book = [] from rfl, ofVal_str, strBin, Int.reduceEq, decide_true]
  · obtain ⟨k1', k3, k4, k5⟩ := decodeL_some hd
    have hk256 := (lgOk_parts k1').1.2.2.2.2.2.2.2
    have hE : encOk p.1 size = true := by unfold encOk; rw [decide_eq_true (by omega), k1']; rfl
    obtain ⟨r3, s3, d3, kk3, hb3⟩ := encode21_does (size := size) hw k4 (by omega) (by omega) s2
    rw [hE] at d3 hb3
    simp only [if_true] at d3 hb3
    have p3 := kk3.atL p2
    obtain ⟨s4, d4, _⟩ := goodlog_does (size := size) hw (by omega) s3
    rw [k1'] at d4
    simp only [k4_r0_e, k4_r1_e, k4_r2_e, k4_r3_e, k4_r4_e, k4_r5_e, k4_r6_e, k4_r7_e, k4_r8_e, k4_r9_e, k4_r10_e, k4_r11_e, k4_r13_e, k4_r14_e, k4_r15_e, k4_r12_e, k4_l0_e, k4_r16_e, k4_r17_e, k4_r18_e, k4_r19_e, k4_r20_e, k4_r21_e, k4_r22_e, k4_r23_e, k4_e, WK0, WK1, WK2, WK3, WK4, WK5, true_implies, vop, evAll, evOpt, evParts, vbuiltin, vun, vextract, Option.map_some, Option.map_none, Nat.reduceLT, Nat.reduceEqDiff, ↓reduceIte, reduceCtorEq, Nat.reduceAdd, Int.reduceLT, Int.reduceNeg, decide_true, decide_false, Bool.not_true, Bool.not_false, ne_eq, not_true_eq_false, not_false_eq_true, List.append_nil, Bool.false_eq_true, List.getElem?_cons_zero, List.getElem?_cons_succ, and_self, and_true, true_and, ZL, vbox, vcells, IsL.new hw.one, ← hs2, h0, p2.load, h1, Int.reduceEq]
    refine KD.ret d3 ?_
    simp only [k4_r0_e, k4_r1_e, k4_r2_e, k4_r3_e, k4_r4_e, k4_r5_e, k4_r6_e, k4_r7_e, k4_r8_e, k4_r9_e, k4_r10_e, k4_r11_e, k4_r13_e, k4_r14_e, k4_r15_e, k4_r12_e, k4_l0_e, k4_r16_e, k4_r17_e, k4_r18_e, k4_r19_e, k4_r20_e, k4_r21_e, k4_r22_e, k4_r23_e, k4_e, WK0, WK1, WK2, WK3, WK4, WK5, true_implies, vop, evAll, evOpt, evParts, vbuiltin, vun, vextract, Option.map_some, Option.map_none, Nat.reduceLT, Nat.reduceEqDiff, ↓reduceIte, reduceCtorEq, Nat.reduceAdd, Int.reduceLT, Int.reduceNeg, decide_true, decide_false, Bool.not_true, Bool.not_false, ne_eq, not_true_eq_false, not_false_eq_true, List.append_nil, Bool.false_eq_true, List.getElem?_cons_zero, List.getElem?_cons_succ, and_self, and_true, true_and, h1, h2, hb3.str T22 U27 T9, hB.str T22 U27 T9, strBin, ← k3, Int.reduceEq, p3.load]
    refine KD.ret d4 ?_
    simp only [k4_r0_e, k4_r1_e, k4_r2_e, k4_r3_e, k4_r4_e, k4_r5_e, k4_r6_e, k4_r7_e, k4_r8_e, k4_r9_e, k4_r10_e, k4_r11_e, k4_r13_e, k4_r14_e, k4_r15_e, k4_r12_e, k4_l0_e, k4_r16_e, k4_r17_e, k4_r18_e, k4_r19_e, k4_r20_e, k4_r21_e, k4_r22_e, k4_r23_e, k4_e, WK0, WK1, WK2, WK3, WK4, WK5, true_implies, vop, evAll, evOpt, evParts, vbuiltin, vun, vextract, Option.map_some, Option.map_none, Nat.reduceLT, Nat.reduceEqDiff, ↓reduceIte, reduceCtorEq, Nat.reduceAdd, Int.reduceLT, Int.reduceNeg, decide_true, decide_false, Bool.not_true, Bool.not_false, ne_eq, not_true_eq_false, not_false_eq_true, List.append_nil, Bool.false_eq_true, List.getElem?_cons_zero, List.getElem?_cons_succ, and_self, and_true, true_and]

theorem storeback_true : LawTrue Try.prog noPrim 4 [33, 3, 27] := by
  intro xs hA hb
  match xs, hA with
  | [x, yy, y], ⟨hx, hyy, hy, _⟩ =>
    obtain ⟨m, v, rfl, hv, hmi, hml, hmb⟩ := log_arg hx
    obtain ⟨size, rfl, hsz⟩ := int_arg T3 hyy
    obtain ⟨bs, hB, hBl⟩ := bytes_arg T22 T5 C5 hy
    obtain ⟨bx, hbx⟩ : ∃ n, n = vbulk (.agg (lgCells m v)) := ⟨_, rfl⟩
    simp only [vbulks] at hb
    rw [← hbx] at hmi hml hmb hb
    have inm : ItmsIn m.items := fun y hy => ⟨(hmi y hy).1, by have := (hmi y hy).2; omega⟩
    have key : ∃ r σ', Does Try.prog noPrim 4 [.agg (lgCells m v), .int .i64 size, y] st0 r σ' ∧ r = .ret (.bool true) := by
      apply k4_is.does (by simp)
      obtain ⟨s1, hs1⟩ : ∃ s1 : St, s1 = ⟨st0.objs ++ [Ob.cells (lgCells m v)], st0.toks⟩ := ⟨_, rfl⟩
      have m1 : IsL s1 0 m v := by rw [hs1]; rfl
      obtain ⟨s2, d2, k2⟩ := wakes21_does s1
      have m2 := k2.atL m1
      obtain ⟨b3, s3, d3, k3⟩ := heavy21_does hv (fun x hx => by have := (hmi x hx).2; omega) (by omega) (by omega) s2
      have m3 := k3.atL m2
      obtain ⟨r4, s4, d4, k4, e4⟩ := encode21_does (size := size) hv inm (by omega) (by omega) s3
      have m4 := k4.atL m3
      have tail : ∀ (e : Nat → V) (σ : St), e 1 = .int .i64 size → e 2 = y → Ev Try.prog noPrim 119 (.seq (.region k4_r19) (.seq (.seq (.region k4_r20) (.cond (.tmp 84) (.seq (.region k4_r21) .ret) .skip)) (.seq (.region k4_r22) (.seq (.region k4_r23) .ret)))) e σ (fnK Try.prog 119 [ResultVar.tmp 6] fun r σ' => r = .ret (.bool true)) := by
        intro e σ h1 h2
        refine Ev.cut (storeback_tail hB (by omega) h1 h2) ?_
        rintro x e' σ' ⟨rfl, h4⟩ _
        simp only [WK0, WK1, WK2, WK3, WK4, WK5, true_implies, vop, evAll, evOpt, evParts, vbuiltin, vun, vextract, Option.map_some, Option.map_none, Nat.reduceLT, Nat.reduceEqDiff, ↓reduceIte, reduceCtorEq, Nat.reduceAdd, Int.reduceLT, Int.reduceNeg, decide_true, decide_false, Bool.not_true, Bool.not_false, ne_eq, not_true_eq_false, not_false_eq_true, List.append_nil, Bool.false_eq_true, List.getElem?_cons_zero, List.getElem?_cons_succ, and_self, and_true, true_and, h4]
      simp only [WK0, WK1, WK2, WK3, WK4, WK5, true_implies, vop, evAll, evOpt, evParts, vbuiltin, vun, vextract, Option.map_some, Option.map_none, Nat.reduceLT, Nat.reduceEqDiff, ↓reduceIte, reduceCtorEq, Nat.reduceAdd, Int.reduceLT, Int.reduceNeg, decide_true, decide_false, Bool.not_true, Bool.not_false, ne_eq, not_true_eq_false, not_false_eq_true, List.append_nil, Bool.false_eq_true, List.getElem?_cons_zero, List.getElem?_cons_succ, and_self, and_true, true_and] at tail
      simp only [k4_r0_e, k4_r1_e, k4_r2_e, k4_r3_e, k4_r4_e, k4_r5_e, k4_r6_e, k4_r7_e, k4_r8_e, k4_r9_e, k4_r10_e, k4_r11_e, k4_r13_e, k4_r14_e, k4_r15_e, k4_r12_e, k4_l0_e, k4_r16_e, k4_r17_e, k4_r18_e, k4_r19_e, k4_r20_e, k4_r21_e, k4_r22_e, k4_r23_e, k4_e, WK0, WK1, WK2, WK3, WK4, WK5, true_implies, vop, evAll, evOpt, evParts, vbuiltin, vun, vextract, Option.map_some, Option.map_none, Nat.reduceLT, Nat.reduceEqDiff, ↓reduceIte, reduceCtorEq, Nat.reduceAdd, Int.reduceLT, Int.reduceNeg, decide_true, decide_false, Bool.not_true, Bool.not_false, ne_eq, not_true_eq_false, not_false_eq_true, List.append_nil, Bool.false_eq_true, List.getElem?_cons_zero, List.getElem?_cons_succ, and_self, and_true, true_and, List.getD_cons_zero, List.getD_cons_succ, vbox, vcells, ← hs1]
      refine KD.ret d2 ?_
      simp only [k4_r0_e, k4_r1_e, k4_r2_e, k4_r3_e, k4_r4_e, k4_r5_e, k4_r6_e, k4_r7_e, k4_r8_e, k4_r9_e, k4_r10_e, k4_r11_e, k4_r13_e, k4_r14_e, k4_r15_e, k4_r12_e, k4_l0_e, k4_r16_e, k4_r17_e, k4_r18_e, k4_r19_e, k4_r20_e, k4_r21_e, k4_r22_e, k4_r23_e, k4_e, WK0, WK1, WK2, WK3, WK4, WK5, true_implies, vop, evAll, evOpt, evParts, vbuiltin, vun, vextract, Option.map_some, Option.map_none, Nat.reduceLT, Nat.reduceEqDiff, ↓reduceIte, reduceCtorEq, Nat.reduceAdd, Int.reduceLT, Int.reduceNeg, decide_true, decide_false, Bool.not_true, Bool.not_false, ne_eq, not_true_eq_false, not_false_eq_true, List.append_nil, Bool.false_eq_true, List.getElem?_cons_zero, List.getElem?_cons_succ, and_self, and_true, true_and, show st0.objs.length = 0 from rfl, m2.load]
      refine KD.ret d3 ?_
      cases b3 with
      | true => simp only [k4_r0_e, k4_r1_e, k4_r2_e, k4_r3_e, k4_r4_e, k4_r5_e, k4_r6_e, k4_r7_e, k4_r8_e, k4_r9_e, k4_r10_e, k4_r11_e, k4_r13_e, k4_r14_e, k4_r15_e, k4_r12_e, k4_l0_e, k4_r16_e, k4_r17_e, k4_r18_e, k4_r19_e, k4_r20_e, k4_r21_e, k4_r22_e, k4_r23_e, k4_e, WK0, WK1, WK2, WK3, WK4, WK5, true_implies, vop, evAll, evOpt, evParts, vbuiltin, vun, vextract, Option.map_some, Option.map_none, Nat.reduceLT, Nat.reduceEqDiff, ↓reduceIte, reduceCtorEq, Nat.reduceAdd, Int.reduceLT, Int.reduceNeg, decide_true, decide_false, Bool.not_true, Bool.not_false, ne_eq, not_true_eq_false, not_false_eq_true, List.append_nil, Bool.false_eq_true, List.getElem?_cons_zero, List.getElem?_cons_succ, and_self, and_true, true_and]
      | false =>
      by_cases hbig : (16384 : Int) < bs.length
      · simp only [k4_r0_e, k4_r1_e, k4_r2_e, k4_r3_e, k4_r4_e, k4_r5_e, k4_r6_e, k4_r7_e, k4_r8_e, k4_r9_e, k4_r10_e, k4_r11_e, k4_r13_e, k4_r14_e, k4_r15_e, k4_r12_e, k4_l0_e, k4_r16_e, k4_r17_e, k4_r18_e, k4_r19_e, k4_r20_e, k4_r21_e, k4_r22_e, k4_r23_e, k4_e, WK0, WK1, WK2, WK3, WK4, WK5, true_implies, vop, evAll, evOpt, evParts, vbuiltin, vun, vextract, Option.map_some, Option.map_none, Nat.reduceLT, Nat.reduceEqDiff, ↓reduceIte, reduceCtorEq, Nat.reduceAdd, Int.reduceLT, Int.reduceNeg, decide_true, decide_false, Bool.not_true, Bool.not_false, ne_eq, not_true_eq_false, not_false_eq_true, List.append_nil, Bool.false_eq_true, List.getElem?_cons_zero, List.getElem?_cons_succ, and_self, and_true, true_and, List.getD_cons_zero, List.getD_cons_succ, hB.len T22, hbig]
      · simp only [k4_r0_e, k4_r1_e, k4_r2_e, k4_r3_e, k4_r4_e, k4_r5_e, k4_r6_e, k4_r7_e, k4_r8_e, k4_r9_e, k4_r10_e, k4_r11_e, k4_r13_e, k4_r14_e, k4_r15_e, k4_r12_e, k4_l0_e, k4_r16_e, k4_r17_e, k4_r18_e, k4_r19_e, k4_r20_e, k4_r21_e, k4_r22_e, k4_r23_e, k4_e, WK0, WK1, WK2, WK3, WK4, WK5, true_implies, vop, evAll, evOpt, evParts, vbuiltin, vun, vextract, Option.map_some, Option.map_none, Nat.reduceLT, Nat.reduceEqDiff, ↓reduceIte, reduceCtorEq, Nat.reduceAdd, Int.reduceLT, Int.reduceNeg, decide_true, decide_false, Bool.not_true, Bool.not_false, ne_eq, not_true_eq_false, not_false_eq_true, List.append_nil, Bool.false_eq_true, List.getElem?_cons_zero, List.getElem?_cons_succ, and_self, and_true, true_and, List.getD_cons_zero, List.getD_cons_succ, hB.len T22, hbig, m3.load]
        refine KD.ret d4 ?_
        cases hok : encOk m size with
        | false =>
          simp only [WK0, WK1, WK2, WK3, WK4, WK5, true_implies, vop, evAll, evOpt, evParts, vbuiltin, vun, vextract, Option.map_some, Option.map_none, Nat.reduceLT, Nat.reduceEqDiff, ↓reduceIte, reduceCtorEq, Nat.reduceAdd, Int.reduceLT, Int.reduceNeg, decide_true, decide_false, Bool.not_true, Bool.not_false, ne_eq, not_true_eq_false, not_false_eq_true, List.append_nil, Bool.false_eq_true, List.getElem?_cons_zero, List.getElem?_cons_succ, and_self, and_true, true_and, hok, Int.reduceEq, k4_r5_e, k4_r6_e]
          exact tail _ _ (by simp [upd_some]) (by simp [upd_some])
        | true =>
          obtain ⟨z1, z2, hok'⟩ := encOk_parts hok
          rw [hok] at e4
          simp only [if_true] at e4
          have hXl := lgB_len hok' z2 inm (by omega)
          obtain ⟨X, hX⟩ : ∃ X, X = lgB m := ⟨_, rfl⟩
          have dX := decodeL_lgB hok' z2 inm (by omega)
          have dpre : ∀ i, i < X.length → decodeL (X.take i) size = none := fun i hi => by rw [hX]; exact decodeL_pre hok' z2 inm (by omega) (by rw [hX] at hi; exact hi)
          have dmore := decodeL_more hok' z2 inm (by omega) 0
          rw [← hX] at e4 hXl dX dmore
          have dR : ∀ b, decR b size = ((decodeL b size).getD lg0, if (decodeL b size).isSome then 0 else 11) := fun b => by unfold decR; rw [if_pos ⟨z1, z2⟩]
          obtain ⟨r5, s5, d5, k5, hR5⟩ := decode21_does e4 (by omega) size s4
          obtain ⟨w5, rfl, h5⟩ := hR5.out
          rw [dR, dX] at d5 h5
          simp only [Option.getD_some, Option.isSome_some, if_true] at d5 h5
          obtain ⟨s6, hs6⟩ : ∃ s6 : St, s6 = ⟨(s5.objs ++ [Ob.cells (lgCells lg0 .nils)]).set s5.objs.length (Ob.cells (lgCells m w5)), s5.toks⟩ := ⟨_, rfl⟩
          have p6 : IsL s6 s5.objs.length m w5 := by rw [hs6]; exact IsL.made
          have k6 : Keep s5 s6 := by rw [hs6]; exact (Keep.refl s5).madeL _ _ _ _
          have m6 := k6.atL (k5.atL m4)
          obtain ⟨s7, d7, k7⟩ := samelog_does (l := m) (k := m) h5 hv (by unfold maxLen; omega) s6
          simp only [k4_r0_e, k4_r1_e, k4_r2_e, k4_r3_e, k4_r4_e, k4_r5_e, k4_r6_e, k4_r7_e, k4_r8_e, k4_r9_e, k4_r10_e, k4_r11_e, k4_r13_e, k4_r14_e, k4_r15_e, k4_r12_e, k4_l0_e, k4_r16_e, k4_r17_e, k4_r18_e, k4_r19_e, k4_r20_e, k4_r21_e, k4_r22_e, k4_r23_e, k4_e, WK0, WK1, WK2, WK3, WK4, WK5, true_implies, vop, evAll, evOpt, evParts, vbuiltin, vun, vextract, Option.map_some, Option.map_none, Nat.reduceLT, Nat.reduceEqDiff, ↓reduceIte, reduceCtorEq, Nat.reduceAdd, Int.reduceLT, Int.reduceNeg, decide_true, decide_false, Bool.not_true, Bool.not_false, ne_eq, not_true_eq_false, not_false_eq_true, List.append_nil, Bool.false_eq_true, List.getElem?_cons_zero, List.getElem?_cons_succ, and_self, and_true, true_and, hok, Int.reduceEq, List.getD_cons_zero, List.getD_cons_succ]
          refine KD.ret d5 ?_
          simp only [k4_r0_e, k4_r1_e, k4_r2_e, k4_r3_e, k4_r4_e, k4_r5_e, k4_r6_e, k4_r7_e, k4_r8_e, k4_r9_e, k4_r10_e, k4_r11_e, k4_r13_e, k4_r14_e, k4_r15_e, k4_r12_e, k4_l0_e, k4_r16_e, k4_r17_e, k4_r18_e, k4_r19_e, k4_r20_e, k4_r21_e, k4_r22_e, k4_r23_e, k4_e, WK0, WK1, WK2, WK3, WK4, WK5, true_implies, vop, evAll, evOpt, evParts, vbuiltin, vun, vextract, Option.map_some, Option.map_none, Nat.reduceLT, Nat.reduceEqDiff, ↓reduceIte, reduceCtorEq, Nat.reduceAdd, Int.reduceLT, Int.reduceNeg, decide_true, decide_false, Bool.not_true, Bool.not_false, ne_eq, not_true_eq_false, not_false_eq_true, List.append_nil, Bool.false_eq_true, List.getElem?_cons_zero, List.getElem?_cons_succ, and_self, and_true, true_and, ZL, vbox, vcells, IsL.new h5.one, ← hs6, p6.load, m6.load, Int.reduceEq]
          refine KD.ret d7 ?_
          simp only [k4_r0_e, k4_r1_e, k4_r2_e, k4_r3_e, k4_r4_e, k4_r5_e, k4_r6_e, k4_r7_e, k4_r8_e, k4_r9_e, k4_r10_e, k4_r11_e, k4_r13_e, k4_r14_e, k4_r15_e, k4_r12_e, k4_l0_e, k4_r16_e, k4_r17_e, k4_r18_e, k4_r19_e, k4_r20_e, k4_r21_e, k4_r22_e, k4_r23_e, k4_e, WK0, WK1, WK2, WK3, WK4, WK5, true_implies, vop, evAll, evOpt, evParts, vbuiltin, vun, vextract, Option.map_some, Option.map_none, Nat.reduceLT, Nat.reduceEqDiff, ↓reduceIte, reduceCtorEq, Nat.reduceAdd, Int.reduceLT, Int.reduceNeg, decide_true, decide_false, Bool.not_true, Bool.not_false, ne_eq, not_true_eq_false, not_false_eq_true, List.append_nil, Bool.false_eq_true, List.getElem?_cons_zero, List.getElem?_cons_succ, and_self, and_true, true_and, Int.reduceEq]
          refine Ev.loopF (fun i e σ => e 11 = .int .i64 (i : Nat)) (fun i => X.length - i) 0 (by simp [upd_some]) ?_
          rintro i e σ h9 hf
          have g5 : e 7 = r4 := (hf 7 (by decide)).trans (by simp [upd_some])
          have g1 : e 1 = .int .i64 size := (hf 1 (by decide)).trans (by simp [upd_some])
          have g2 : e 2 = y := (hf 2 (by decide)).trans (by simp [upd_some])
          clear hf
          by_cases hlt : i < X.length
          · have hlt' : (i : Int) < (X.length : Int) := by omega
            obtain ⟨sl, hsl, hbt⟩ := e4.slice T22 S5 (lo := none) (hi := some (.int .i64 (i : Nat))) (vbounds_hi (by omega) (by omega)) (by omega) (by omega)
            simp only [Int.toNat_natCast, List.drop_zero, Nat.sub_zero] at hbt
            obtain ⟨r8, s8, d8, k8, hR8⟩ := decode21_does hbt (by rw [List.length_take]; omega) size σ
            obtain ⟨w8, rfl, h8⟩ := hR8.out
            rw [dR, dpre i hlt] at d8
            simp only [Option.getD_none, Option.isSome_none, Bool.false_eq_true, if_false] at d8
            have hq : (X.length : Int).tdiv 30 = ((X.length / 30 : Nat) : Int) := by rw [Int.ofNat_tdiv]; rfl
            have w1 : IntKind.i64.wrap ((X.length / 30 : Nat) : Int) = ((X.length / 30 : Nat) : Int) := wrap_i64 (by omega) (by omega)
            have w2 : IntKind.i64.wrap (1 + ((X.length / 30 : Nat) : Int)) = 1 + ((X.length / 30 : Nat) : Int) := wrap_i64 (by omega) (by omega)
            have w3 : IntKind.i64.wrap ((i : Int) + (1 + ((X.length / 30 : Nat) : Int))) = ((i + 1 + X.length / 30 : Nat) : Int) := by rw [wrap_i64 (by omega) (by omega)]; omega
            simp only [k4_r0_e, k4_r1_e, k4_r2_e, k4_r3_e, k4_r4_e, k4_r5_e, k4_r6_e, k4_r7_e, k4_r8_e, k4_r9_e, k4_r10_e, k4_r11_e, k4_r13_e, k4_r14_e, k4_r15_e, k4_r12_e, k4_l0_e, k4_r16_e, k4_r17_e, k4_r18_e, k4_r19_e, k4_r20_e, k4_r21_e, k4_r22_e, k4_r23_e, k4_e, WK0, WK1, WK2, WK3, WK4, WK5, true_implies, vop, evAll, evOpt, evParts, vbuiltin, vun, vextract, Option.map_some, Option.map_none, Nat.reduceLT, Nat.reduceEqDiff, ↓reduceIte, reduceCtorEq, Nat.reduceAdd, Int.reduceLT, Int.reduceNeg, decide_true, decide_false, Bool.not_true, Bool.not_false, ne_eq, not_true_eq_false, not_false_eq_true, List.append_nil, Bool.false_eq_true, List.getElem?_cons_zero, List.getElem?_cons_succ, and_self, and_true, true_and, g1, g5, h9, e4.len T22, hlt', T22, hsl]
            refine KD.ret d8 ?_
            simp only [k4_r0_e, k4_r1_e, k4_r2_e, k4_r3_e, k4_r4_e, k4_r5_e, k4_r6_e, k4_r7_e, k4_r8_e, k4_r9_e, k4_r10_e, k4_r11_e, k4_r13_e, k4_r14_e, k4_r15_e, k4_r12_e, k4_l0_e, k4_r16_e, k4_r17_e, k4_r18_e, k4_r19_e, k4_r20_e, k4_r21_e, k4_r22_e, k4_r23_e, k4_e, WK0, WK1, WK2, WK3, WK4, WK5, true_implies, vop, evAll, evOpt, evParts, vbuiltin, vun, vextract, Option.map_some, Option.map_none, Nat.reduceLT, Nat.reduceEqDiff, ↓reduceIte, reduceCtorEq, Nat.reduceAdd, Int.reduceLT, Int.reduceNeg, decide_true, decide_false, Bool.not_true, Bool.not_false, ne_eq, not_true_eq_false, not_false_eq_true, List.append_nil, Bool.false_eq_true, List.getElem?_cons_zero, List.getElem?_cons_succ, and_self, and_true, true_and, g5, h9, e4.len T22, Int.reduceEq, hq, w1, w2, w3]
            exact ⟨i + 1 + X.length / 30, by simp [upd_some], by omega⟩
          · have hlt' : ¬ (i : Int) < (X.length : Int) := by omega
            have ho1 : OwnV 5 σ.toks.length σ (.slice .exact 1 [] 0) [] := .inr ⟨_, rfl, .inl rfl⟩
            obtain ⟨v9, s9, ha9, ho9, k9⟩ := ho1.append BT rfl (Keep.refl σ) T22 e4 (by simp; omega)
            rw [List.nil_append] at ho9
            have hb0 := buildByte BT (n := 0) (by omega)
            obtain ⟨va, sa, haa, hoa, ka⟩ := ho9.append BT rfl k9 T22 hb0.2 (by simp; omega)
            obtain ⟨rb, sb, db, kb, hRb⟩ := decode21_does hoa.bts (by simp; omega) size sa
            obtain ⟨wb, rfl, hb'⟩ := hRb.out
            have hz : (X ++ [UInt8.ofNat 0]) = X ++ [0] := rfl
            rw [hz, dR, dmore] at db
            simp only [Option.getD_none, Option.isSome_none, Bool.false_eq_true, if_false] at db
            have hb01 := hb0.1
            simp only [Int.ofNat_zero, Int.natCast_zero, Int.cast_ofNat_Int] at hb01 haa
            simp only [k4_r0_e, k4_r1_e, k4_r2_e, k4_r3_e, k4_r4_e, k4_r5_e, k4_r6_e, k4_r7_e, k4_r8_e, k4_r9_e, k4_r10_e, k4_r11_e, k4_r13_e, k4_r14_e, k4_r15_e, k4_r12_e, k4_l0_e, k4_r16_e, k4_r17_e, k4_r18_e, k4_r19_e, k4_r20_e, k4_r21_e, k4_r22_e, k4_r23_e, k4_e, WK0, WK1, WK2, WK3, WK4, WK5, true_implies, vop, evAll, evOpt, evParts, vbuiltin, vun, vextract, Option.map_some, Option.map_none, Nat.reduceLT, Nat.reduceEqDiff, ↓reduceIte, reduceCtorEq, Nat.reduceAdd, Int.reduceLT, Int.reduceNeg, decide_true, decide_false, Bool.not_true, Bool.not_false, ne_eq, not_true_eq_false, not_false_eq_true, List.append_nil, Bool.false_eq_true, List.getElem?_cons_zero, List.getElem?_cons_succ, and_self, and_true, true_and, g1, g5, h9, e4.len T22, hlt', build0 BT, ha9, hb01, haa]
            refine KD.ret db ?_
            simp only [WK0, WK1, WK2, WK3, WK4, WK5, true_implies, vop, evAll, evOpt, evParts, vbuiltin, vun, vextract, Option.map_some, Option.map_none, Nat.reduceLT, Nat.reduceEqDiff, ↓reduceIte, reduceCtorEq, Nat.reduceAdd, Int.reduceLT, Int.reduceNeg, decide_true, decide_false, Bool.not_true, Bool.not_false, ne_eq, not_true_eq_false, not_false_eq_true, List.append_nil, Bool.false_eq_true, List.getElem?_cons_zero, List.getElem?_cons_succ, and_self, and_true, true_and, Int.reduceEq, k4_r16_e, k4_r17_e]
            exact tail _ _ (by simp [upd_some, g1]) (by simp [upd_some, g2])
    obtain ⟨r, σ', ⟨n, h⟩, rfl⟩ := key
    exact ⟨n, σ', h⟩
end Go.Proofs.Ytcogghmmlndmgaa.Q
