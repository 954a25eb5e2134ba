/- NetBytes: for every input of bulk at most 1048576 the law answers true. -/
import Derived.Test.YtcogghmmlndmgaaEp
set_option linter.unusedVariables false
set_option linter.unusedSimpArgs false
namespace Go.Proofs.Ytcogghmmlndmgaa.Q
open Go Go.RowKit Go.Proofs

theorem IsM.made {σ : St} {o m : Msg} {u w : V} : IsM ⟨(σ.objs ++ [Ob.cells (msgCells o u)]).set σ.objs.length (Ob.cells (msgCells m w)), σ.toks⟩ σ.objs.length m w := obj_set (push_new _ _)
theorem Keep.madeM {σ0 σ : St} (h : Keep σ0 σ) (o m : Msg) (u w : V) : Keep σ0 ⟨(σ.objs ++ [Ob.cells (msgCells o u)]).set σ.objs.length (Ob.cells (msgCells m w)), σ.toks⟩ :=
  h.trans (((Keep.refl σ).push (.cells (msgCells o u))).setNew (Nat.le_refl _) _)
theorem Keep.at {σ σ' : St} {q : Nat} {m : Msg} {w : V} (h : Keep σ σ') (hq : IsM σ q m w) : IsM σ' q m w := h.1 _ _ hq

theorem netbytes_true : LawTrue Try.prog noPrim 6 [24, 27] := by
  intro xs hA hb
  match xs, hA with
  | [x, y], ⟨hx, hy, _⟩ =>
    obtain ⟨m, v, rfl, hv, hm, hmi, hml, hmb⟩ := msg_arg hx
    obtain ⟨bs, hB, hBl⟩ := bytes_arg T22 T5 C5 hy
    obtain ⟨bx, hbx⟩ : ∃ n, n = vbulk (.agg (msgCells m v)) := ⟨_, rfl⟩
    simp only [vbulks] at hb
    rw [← hbx] at hmi hml hmb hb
    have inm : ItmsIn m.items := fun y hy => ⟨(hmi y hy).1, by have := (hmi y hy).2; omega⟩
    have key : ∃ r σ', Does Try.prog noPrim 6 [.agg (msgCells m v), y] st0 r σ' ∧ r = .ret (.bool true) := by
      apply k6_is.does (by simp)
      obtain ⟨s1, hs1⟩ : ∃ s1 : St, s1 = ⟨st0.objs ++ [Ob.cells (msgCells m v)], st0.toks⟩ := ⟨_, rfl⟩
      have m1 : IsM s1 0 m v := by rw [hs1]; rfl
      obtain ⟨s2, d2, k2⟩ := wakes22_does s1
      have m2 := k2.at m1
      obtain ⟨b3, s3, d3, k3⟩ := heavy22_does hv (fun x hx => by have := (hmi x hx).2; omega) (by omega) (by omega) s2
      have m3 := k3.at m2
      obtain ⟨r4, s4, d4, k4, e4⟩ := encode22_does hm hv inm (by omega) (by omega) s3
      have m4 := k4.at m3
      obtain ⟨r5, s5, d5, k5, e5⟩ := refencode22_does hm hv inm (by omega) (by omega) s4
      have m5 := k5.at m4
      obtain ⟨r6, s6, d6, k6, w6, rfl, h6⟩ := decode22_does hB (by omega) s5
      have m6 := k6.at m5
      obtain ⟨p, hp⟩ : ∃ p, p = (decodeS bs).getD msg0 := ⟨_, rfl⟩
      rw [← hp] at h6 d6
      have hpl : p.items.length ≤ 16 := by
        rw [hp]
        cases hd : decodeS bs with
        | none => simp [msg0]
        | some k => have := (msgOk_parts (decodeS_some hd).1).1.2.2.2.2.2.2.2; simp only [Option.getD_some]; omega
      obtain ⟨s7, hs7⟩ : ∃ s7 : St, s7 = ⟨(s6.objs ++ [Ob.cells (msgCells msg0 .nils)]).set s6.objs.length (Ob.cells (msgCells p w6)), s6.toks⟩ := ⟨_, rfl⟩
      have p7 : IsM s7 s6.objs.length p w6 := by rw [hs7]; exact IsM.made
      have k7 : Keep s6 s7 := by rw [hs7]; exact (Keep.refl s6).madeM _ _ _ _
      have m7 := k7.at m6
      obtain ⟨r8, s8, d8, k8, w8, rfl, h8⟩ := refdecode22_does hB (by omega) s7
      rw [← hp] at h8 d8
      have m8 := k8.at m7
      have p8 := k8.at p7
      obtain ⟨s9, hs9⟩ : ∃ s9 : St, s9 = ⟨(s8.objs ++ [Ob.cells (msgCells msg0 .nils)]).set s8.objs.length (Ob.cells (msgCells p w8)), s8.toks⟩ := ⟨_, rfl⟩
      have q9 : IsM s9 s8.objs.length p w8 := by rw [hs9]; exact IsM.made
      have k9 : Keep s8 s9 := by rw [hs9]; exact (Keep.refl s8).madeM _ _ _ _
      have m9 := k9.at m8
      have p9 := k9.at p8
      obtain ⟨s10, d10, k10⟩ := valid22_does hv inm (by omega) s9
      have m10 := k10.at m9
      obtain ⟨s11, d11, k11⟩ := refvalid22_does hv (by omega) s10
      have p11 := k11.at (k10.at p9)
      have q11 := k11.at (k10.at q9)
      obtain ⟨s12, d12, k12⟩ := samemessage_does (m := p) (k := p) h6 h8 (by unfold maxLen; omega) s11
      simp only [k6_r0_e, k6_r1_e, k6_r2_e, k6_r3_e, k6_r4_e, k6_r5_e, k6_r6_e, k6_r7_e, k6_r8_e, k6_r9_e, k6_e, WK0, WK1, WK2, WK3, WK4, WK5, true_implies, vop, evAll, evOpt, evParts, vbuiltin, vun, vextract, Option.map_some, Option.map_none, Nat.reduceLT, Nat.reduceEqDiff, ↓reduceIte, reduceCtorEq, Nat.reduceAdd, Int.reduceLT, Int.reduceNeg, decide_true, decide_false, Bool.not_true, Bool.not_false, ne_eq, not_true_eq_false, not_false_eq_true, List.append_nil, Bool.false_eq_true, List.getElem?_cons_zero, List.getElem?_cons_succ, and_self, and_true, true_and, List.getD_cons_zero, List.getD_cons_succ, vbox, vcells, ← hs1]
      refine KD.ret d2 ?_
      simp only [k6_r0_e, k6_r1_e, k6_r2_e, k6_r3_e, k6_r4_e, k6_r5_e, k6_r6_e, k6_r7_e, k6_r8_e, k6_r9_e, k6_e, WK0, WK1, WK2, WK3, WK4, WK5, true_implies, vop, evAll, evOpt, evParts, vbuiltin, vun, vextract, Option.map_some, Option.map_none, Nat.reduceLT, Nat.reduceEqDiff, ↓reduceIte, reduceCtorEq, Nat.reduceAdd, Int.reduceLT, Int.reduceNeg, decide_true, decide_false, Bool.not_true, Bool.not_false, ne_eq, not_true_eq_false, not_false_eq_true, List.append_nil, Bool.false_eq_true, List.getElem?_cons_zero, List.getElem?_cons_succ, and_self, and_true, true_and, show st0.objs.length = 0 from rfl, m2.load]
      refine KD.ret d3 ?_
      cases b3 with
      | true => simp only [k6_r0_e, k6_r1_e, k6_r2_e, k6_r3_e, k6_r4_e, k6_r5_e, k6_r6_e, k6_r7_e, k6_r8_e, k6_r9_e, k6_e, WK0, WK1, WK2, WK3, WK4, WK5, true_implies, vop, evAll, evOpt, evParts, vbuiltin, vun, vextract, Option.map_some, Option.map_none, Nat.reduceLT, Nat.reduceEqDiff, ↓reduceIte, reduceCtorEq, Nat.reduceAdd, Int.reduceLT, Int.reduceNeg, decide_true, decide_false, Bool.not_true, Bool.not_false, ne_eq, not_true_eq_false, not_false_eq_true, List.append_nil, Bool.false_eq_true, List.getElem?_cons_zero, List.getElem?_cons_succ, and_self, and_true, true_and]
      | false =>
      by_cases hbig : (16384 : Int) < bs.length
      · simp only [k6_r0_e, k6_r1_e, k6_r2_e, k6_r3_e, k6_r4_e, k6_r5_e, k6_r6_e, k6_r7_e, k6_r8_e, k6_r9_e, k6_e, WK0, WK1, WK2, WK3, WK4, WK5, true_implies, vop, evAll, evOpt, evParts, vbuiltin, vun, vextract, Option.map_some, Option.map_none, Nat.reduceLT, Nat.reduceEqDiff, ↓reduceIte, reduceCtorEq, Nat.reduceAdd, Int.reduceLT, Int.reduceNeg, decide_true, decide_false, Bool.not_true, Bool.not_false, ne_eq, not_true_eq_false, not_false_eq_true, List.append_nil, Bool.false_eq_true, List.getElem?_cons_zero, List.getElem?_cons_succ, and_self, and_true, true_and, List.getD_cons_zero, List.getD_cons_succ, hB.len T22, hbig]
      · simp only [k6_r0_e, k6_r1_e, k6_r2_e, k6_r3_e, k6_r4_e, k6_r5_e, k6_r6_e, k6_r7_e, k6_r8_e, k6_r9_e, k6_e, WK0, WK1, WK2, WK3, WK4, WK5, true_implies, vop, evAll, evOpt, evParts, vbuiltin, vun, vextract, Option.map_some, Option.map_none, Nat.reduceLT, Nat.reduceEqDiff, ↓reduceIte, reduceCtorEq, Nat.reduceAdd, Int.reduceLT, Int.reduceNeg, decide_true, decide_false, Bool.not_true, Bool.not_false, ne_eq, not_true_eq_false, not_false_eq_true, List.append_nil, Bool.false_eq_true, List.getElem?_cons_zero, List.getElem?_cons_succ, and_self, and_true, true_and, List.getD_cons_zero, List.getD_cons_succ, hB.len T22, hbig, m3.load]
        refine KD.ret d4 ?_
        simp only [k6_r0_e, k6_r1_e, k6_r2_e, k6_r3_e, k6_r4_e, k6_r5_e, k6_r6_e, k6_r7_e, k6_r8_e, k6_r9_e, k6_e, WK0, WK1, WK2, WK3, WK4, WK5, true_implies, vop, evAll, evOpt, evParts, vbuiltin, vun, vextract, Option.map_some, Option.map_none, Nat.reduceLT, Nat.reduceEqDiff, ↓reduceIte, reduceCtorEq, Nat.reduceAdd, Int.reduceLT, Int.reduceNeg, decide_true, decide_false, Bool.not_true, Bool.not_false, ne_eq, not_true_eq_false, not_false_eq_true, List.append_nil, Bool.false_eq_true, List.getElem?_cons_zero, List.getElem?_cons_succ, and_self, and_true, true_and, m4.load]
        refine KD.ret d5 ?_
        simp only [k6_r0_e, k6_r1_e, k6_r2_e, k6_r3_e, k6_r4_e, k6_r5_e, k6_r6_e, k6_r7_e, k6_r8_e, k6_r9_e, k6_e, WK0, WK1, WK2, WK3, WK4, WK5, true_implies, vop, evAll, evOpt, evParts, vbuiltin, vun, vextract, Option.map_some, Option.map_none, Nat.reduceLT, Nat.reduceEqDiff, ↓reduceIte, reduceCtorEq, Nat.reduceAdd, Int.reduceLT, Int.reduceNeg, decide_true, decide_false, Bool.not_true, Bool.not_false, ne_eq, not_true_eq_false, not_false_eq_true, List.append_nil, Bool.false_eq_true, List.getElem?_cons_zero, List.getElem?_cons_succ, and_self, and_true, true_and, List.getD_cons_zero, List.getD_cons_succ]
        refine KD.ret d6 ?_
        simp only [k6_r0_e, k6_r1_e, k6_r2_e, k6_r3_e, k6_r4_e, k6_r5_e, k6_r6_e, k6_r7_e, k6_r8_e, k6_r9_e, k6_e, WK0, WK1, WK2, WK3, WK4, WK5, true_implies, vop, evAll, evOpt, evParts, vbuiltin, vun, vextract, Option.map_some, Option.map_none, Nat.reduceLT, Nat.reduceEqDiff, ↓reduceIte, reduceCtorEq, Nat.reduceAdd, Int.reduceLT, Int.reduceNeg, decide_true, decide_false, Bool.not_true, Bool.not_false, ne_eq, not_true_eq_false, not_false_eq_true, List.append_nil, Bool.false_eq_true, List.getElem?_cons_zero, List.getElem?_cons_succ, and_self, and_true, true_and, ZM, vbox, vcells, IsM.new h6.one, ← hs7, List.getD_cons_zero, List.getD_cons_succ]
        refine KD.ret d8 ?_
        simp only [k6_r0_e, k6_r1_e, k6_r2_e, k6_r3_e, k6_r4_e, k6_r5_e, k6_r6_e, k6_r7_e, k6_r8_e, k6_r9_e, k6_e, WK0, WK1, WK2, WK3, WK4, WK5, true_implies, vop, evAll, evOpt, evParts, vbuiltin, vun, vextract, Option.map_some, Option.map_none, Nat.reduceLT, Nat.reduceEqDiff, ↓reduceIte, reduceCtorEq, Nat.reduceAdd, Int.reduceLT, Int.reduceNeg, decide_true, decide_false, Bool.not_true, Bool.not_false, ne_eq, not_true_eq_false, not_false_eq_true, List.append_nil, Bool.false_eq_true, List.getElem?_cons_zero, List.getElem?_cons_succ, and_self, and_true, true_and, ZM, vbox, vcells, IsM.new h8.one, ← hs9, m9.load]
        refine KD.ret d10 ?_
        simp only [k6_r0_e, k6_r1_e, k6_r2_e, k6_r3_e, k6_r4_e, k6_r5_e, k6_r6_e, k6_r7_e, k6_r8_e, k6_r9_e, k6_e, WK0, WK1, WK2, WK3, WK4, WK5, true_implies, vop, evAll, evOpt, evParts, vbuiltin, vun, vextract, Option.map_some, Option.map_none, Nat.reduceLT, Nat.reduceEqDiff, ↓reduceIte, reduceCtorEq, Nat.reduceAdd, Int.reduceLT, Int.reduceNeg, decide_true, decide_false, Bool.not_true, Bool.not_false, ne_eq, not_true_eq_false, not_false_eq_true, List.append_nil, Bool.false_eq_true, List.getElem?_cons_zero, List.getElem?_cons_succ, and_self, and_true, true_and, m9.load, m10.load]
        refine KD.ret d11 ?_
        simp only [k6_r0_e, k6_r1_e, k6_r2_e, k6_r3_e, k6_r4_e, k6_r5_e, k6_r6_e, k6_r7_e, k6_r8_e, k6_r9_e, k6_e, WK0, WK1, WK2, WK3, WK4, WK5, true_implies, vop, evAll, evOpt, evParts, vbuiltin, vun, vextract, Option.map_some, Option.map_none, Nat.reduceLT, Nat.reduceEqDiff, ↓reduceIte, reduceCtorEq, Nat.reduceAdd, Int.reduceLT, Int.reduceNeg, decide_true, decide_false, Bool.not_true, Bool.not_false, ne_eq, not_true_eq_false, not_false_eq_true, List.append_nil, Bool.false_eq_true, List.getElem?_cons_zero, List.getElem?_cons_succ, and_self, and_true, true_and, vbin_beqd, e4.str T22 U27 T9, e5.str T22 U27 T9, strBin, p11.load, q11.load]
        refine KD.ret d12 ?_
        simp only [k6_r0_e, k6_r1_e, k6_r2_e, k6_r3_e, k6_r4_e, k6_r5_e, k6_r6_e, k6_r7_e, k6_r8_e, k6_r9_e, k6_e, WK0, WK1, WK2, WK3, WK4, WK5, true_implies, vop, evAll, evOpt, evParts, vbuiltin, vun, vextract, Option.map_some, Option.map_none, Nat.reduceLT, Nat.reduceEqDiff, ↓reduceIte, reduceCtorEq, Nat.reduceAdd, Int.reduceLT, Int.reduceNeg, decide_true, decide_false, Bool.not_true, Bool.not_false, ne_eq, not_true_eq_false, not_false_eq_true, List.append_nil, Bool.false_eq_true, List.getElem?_cons_zero, List.getElem?_cons_succ, and_self, and_true, true_and, m9.load, m10.load]
    obtain ⟨r, σ', ⟨n, h⟩, rfl⟩ := key
    exact ⟨n, σ', h⟩
end Go.Proofs.Ytcogghmmlndmgaa.Q
