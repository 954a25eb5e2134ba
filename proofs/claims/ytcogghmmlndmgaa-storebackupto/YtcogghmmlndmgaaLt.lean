/- NetTells: for every input of bulk at most 1048576 the law answers true. -/
import Derived.Test.YtcogghmmlndmgaaTw
set_option linter.unusedVariables false
set_option linter.unusedSimpArgs false
namespace Go.Proofs.Ytcogghmmlndmgaa.Q
open Go Go.RowKit Go.Proofs

theorem putN_cancel {x y : Nat} (hx : x < 2 ^ 63) (hy : y < 2 ^ 63) {r s : List UInt8} (h : putN x ++ r = putN y ++ s) : x = y ∧ r = s := by
  have h1 := numS_put hx r
  have h2 := numS_put hy s
  rw [h, h2] at h1
  injection h1 with h3 h4
  injection h4 with h4 h5
  exact ⟨h3.symm, h4.symm⟩

theorem putI_cancel {x y : Int} (hx : 0 ≤ x) (hy : 0 ≤ y) (ix : InI64 x) (iy : InI64 y) {r s : List UInt8} (h : putN x.toNat ++ r = putN y.toNat ++ s) : x = y ∧ r = s := by
  unfold InI64 at ix iy
  obtain ⟨h1, h2⟩ := putN_cancel (by omega) (by omega) h
  exact ⟨by omega, h2⟩

theorem clip_id {l : List Itm} (h : (l.any fun x => decide (x.term < 0)) = false) : l.map clip = l := by
  rw [List.any_eq_false] at h
  conv => rhs; rw [← List.map_id l]
  apply List.map_congr_left
  intro x hx
  have := h x hx
  simp only [decide_eq_true_eq] at this
  obtain ⟨t, e⟩ := x
  simp only [clip, id_eq, Itm.mk.injEq, and_true]
  simp only at this
  omega

/-- Items are told apart by their bytes. -/
theorem items_inj {l k : List Itm} (hl : ItmsIn l) (hk : ItmsIn k) (nl : l.length ≤ 16) (nk : k.length ≤ 16) (ol : (l.all fun x => entOk x.ent) = true) (ok : (k.all fun x => entOk x.ent) = true) (tl : (l.any fun x => decide (x.term < 0)) = false) (tk : (k.any fun x => decide (x.term < 0)) = false) (h : itemsS l = itemsS k) : l = k := by
  have h1 := readItems_put hl (by omega) (most := 16) (by omega) []
  have h2 := readItems_put hk (by omega) (most := 16) (by omega) []
  rw [ol, if_pos rfl, List.append_nil, clip_id tl] at h1
  rw [ok, if_pos rfl, List.append_nil, clip_id tk, ← h, h1] at h2
  injection h2 with h2
  injection h2

theorem msgOk_parts {m : Msg} (h : msgOk m = true) : (0 ≤ m.src ∧ m.src < 7 ∧ 0 ≤ m.dst ∧ m.dst < 7 ∧ 1 ≤ m.kind ∧ m.kind ≤ 5 ∧ (0 ≤ m.term ∧ 0 ≤ m.last ∧ 0 ≤ m.lterm ∧ 0 ≤ m.com) ∧ (m.items.length : Int) ≤ 16) ∧ (m.items.all fun x => entOk x.ent) = true ∧ (m.items.any fun x => decide (x.term < 0)) = false := by
  unfold msgOk msgRange at h
  simp only [Bool.and_eq_true, decide_eq_true_eq, Bool.not_eq_true'] at h
  exact ⟨h.1.1, h.1.2, h.2⟩

theorem putS9 (a b c d e f g h i : Int) : putS [a, b, c, d, e, f, g, h, i] = putN a.toNat ++ (putN b.toNat ++ (putN c.toNat ++ (putN d.toNat ++ (putN e.toNat ++ (putN f.toNat ++ (putN g.toNat ++ (putN h.toNat ++ putN i.toNat))))))) := by simp [putS]
theorem bitI_inj {a b : Bool} (h : bitI a = bitI b) : a = b := by cases a <;> cases b <;> first | rfl | cases h

theorem msgB_inj {m k : Msg} (im : m.In) (ik : k.In) (hm : msgOk m = true) (hk : msgOk k = true) (hl : ItmsIn m.items) (hl2 : ItmsIn k.items) (bm : m.book.length ≤ 4294967296) (bk : k.book.length ≤ 4294967296) (h : msgB m = msgB k) : m = k := by
  obtain ⟨⟨m1, _, m2, _, m3, _, ⟨m4, m5, m6, m7⟩, m8⟩, m9, m10⟩ := msgOk_parts hm
  obtain ⟨⟨k1, _, k2, _, k3, _, ⟨k4, k5, k6, k7⟩, k8⟩, k9, k10⟩ := msgOk_parts hk
  obtain ⟨a1, a2, a3, a4, a5, a6, a7⟩ := im
  obtain ⟨b1, b2, b3, b4, b5, b6, b7⟩ := ik
  have bit0 : ∀ b, 0 ≤ bitI b ∧ InI64 (bitI b) := fun b => by unfold bitI InI64; split <;> omega
  simp only [msgB, headI, putS9, List.append_assoc] at h
  obtain ⟨e1, h⟩ := putI_cancel m1 k1 a1 b1 h
  obtain ⟨e2, h⟩ := putI_cancel m2 k2 a2 b2 h
  obtain ⟨e3, h⟩ := putI_cancel (by omega) (by omega) a3 b3 h
  obtain ⟨e4, h⟩ := putI_cancel m4 k4 a4 b4 h
  obtain ⟨e5, h⟩ := putI_cancel m5 k5 a5 b5 h
  obtain ⟨e6, h⟩ := putI_cancel m6 k6 a6 b6 h
  obtain ⟨e7, h⟩ := putI_cancel m7 k7 a7 b7 h
  obtain ⟨e8, h⟩ := putI_cancel (bit0 _).1 (bit0 _).1 (bit0 _).2 (bit0 _).2 h
  obtain ⟨e9, h⟩ := putI_cancel (by omega) (by omega) (InI64.nat (by omega)) (InI64.nat (by omega)) h
  obtain ⟨e10, h⟩ := List.append_inj h (by omega)
  have e11 := items_inj hl hl2 (by omega) (by omega) m9 k9 m10 k10 h
  have e8' := bitI_inj e8
  obtain ⟨_, _, _, _, _, _, _, _, _, _⟩ := m
  obtain ⟨_, _, _, _, _, _, _, _, _, _⟩ := k
  simp only [Msg.mk.injEq]
  exact ⟨e1, e2, e3, e4, e5, e6, e7, e8', e11, e10⟩

theorem tells_true : LawTrue Try.prog noPrim 3 [24, 24] := by
  intro xs hA hb
  match xs, hA with
  | [x, y], ⟨hx, hy, _⟩ =>
    obtain ⟨m, v, rfl, hv, hm, hmi, hml, hmb⟩ := msg_arg hx
    obtain ⟨k, w, rfl, hw, hk, hki, hkl, hkb⟩ := msg_arg hy
    obtain ⟨bx, hbx⟩ : ∃ n, n = vbulk (.agg (msgCells m v)) := ⟨_, rfl⟩
    obtain ⟨by_, hby⟩ : ∃ n, n = vbulk (.agg (msgCells k w)) := ⟨_, rfl⟩
    simp only [vbulks] at hb
    rw [← hbx] at hmi hml hmb hb
    rw [← hby] at hki hkl hkb hb
    have inm : ItmsIn m.items := fun y hy => ⟨(hmi y hy).1, by have := (hmi y hy).2; omega⟩
    have ink : ItmsIn k.items := fun y hy => ⟨(hki y hy).1, by have := (hki y hy).2; omega⟩
    have key : ∃ r σ', Does Try.prog noPrim 3 [.agg (msgCells m v), .agg (msgCells k w)] st0 r σ' ∧ r = .ret (.bool true) := by
      apply k3_is.does (by simp)
      obtain ⟨σ2, hσ2⟩ : ∃ σ2 : St, σ2 = ⟨(st0.objs ++ [Ob.cells (msgCells m v)]) ++ [Ob.cells (msgCells k w)], st0.toks⟩ := ⟨_, rfl⟩
      have q2 : IsM σ2 0 m v := by rw [hσ2]; rfl
      have p2 : IsM σ2 1 k w := by rw [hσ2]; rfl
      obtain ⟨σ3, hd3, hk3⟩ := wakes22_does σ2
      obtain ⟨b4, σ4, hd4, hk4⟩ := heavy22_does hv (fun x hx => by have := (hmi x hx).2; omega) (by omega) (by omega) σ3
      obtain ⟨b5, σ5, hd5, hk5⟩ := heavy22_does hw (fun x hx => by have := (hki x hx).2; omega) (by omega) (by omega) σ4
      have q3 : IsM σ3 0 m v := hk3.1 _ _ q2
      have p4 : IsM σ4 1 k w := hk4.1 _ _ (hk3.1 _ _ p2)
      have q5 : IsM σ5 0 m v := hk5.1 _ _ (hk4.1 _ _ q3)
      have p5 : IsM σ5 1 k w := hk5.1 _ _ p4
      obtain ⟨r6, σ6, hd6, hk6, hb6⟩ := encode22_does hm hv inm (by omega) (by omega) σ5
      have p6 : IsM σ6 1 k w := hk6.1 _ _ p5
      have q6 : IsM σ6 0 m v := hk6.1 _ _ q5
      obtain ⟨r7, σ7, hd7, hk7, hb7⟩ := encode22_does hk hw ink (by omega) (by omega) σ6
      have p7 : IsM σ7 1 k w := hk7.1 _ _ p6
      have q7 : IsM σ7 0 m v := hk7.1 _ _ q6
      obtain ⟨σ8, hd8, hk8⟩ := samemessage_does hv hw (by unfold maxLen; omega) σ7
      simp only [k3_r0_e, k3_r1_e, k3_r2_e, k3_r3_e, k3_r4_e, k3_r5_e, k3_r6_e, k3_r7_e, k3_r8_e, k3_r9_e, k3_e, WK0, WK1, WK2, WK3, WK4, WK5, true_implies, vop, evAll, evOpt, evParts, vbuiltin, vun, vextract, Option.map_some, Option.map_none, Nat.reduceLT, Nat.reduceEqDiff, ↓reduceIte, reduceCtorEq, Nat.reduceAdd, Int.reduceLT, Int.reduceNeg, decide_true, decide_false, Bool.not_true, Bool.not_false, ne_eq, not_true_eq_false, not_false_eq_true, List.append_nil, Bool.false_eq_true, List.getElem?_cons_zero, List.getElem?_cons_succ, and_self, and_true, true_and, List.getD_cons_zero, List.getD_cons_succ, vbox, vcells, List.length_append, List.length_cons, List.length_nil, ← hσ2]
      refine KD.ret hd3 ?_
      simp only [k3_r0_e, k3_r1_e, k3_r2_e, k3_r3_e, k3_r4_e, k3_r5_e, k3_r6_e, k3_r7_e, k3_r8_e, k3_r9_e, k3_e, WK0, WK1, WK2, WK3, WK4, WK5, true_implies, vop, evAll, evOpt, evParts, vbuiltin, vun, vextract, Option.map_some, Option.map_none, Nat.reduceLT, Nat.reduceEqDiff, ↓reduceIte, reduceCtorEq, Nat.reduceAdd, Int.reduceLT, Int.reduceNeg, decide_true, decide_false, Bool.not_true, Bool.not_false, ne_eq, not_true_eq_false, not_false_eq_true, List.append_nil, Bool.false_eq_true, List.getElem?_cons_zero, List.getElem?_cons_succ, and_self, and_true, true_and, show st0.objs.length = 0 from rfl, q3.load]
      refine KD.ret hd4 ?_
      cases b4 with
      | true => simp only [k3_r0_e, k3_r1_e, k3_r2_e, k3_r3_e, k3_r4_e, k3_r5_e, k3_r6_e, k3_r7_e, k3_r8_e, k3_r9_e, k3_e, WK0, WK1, WK2, WK3, WK4, WK5, true_implies, vop, evAll, evOpt, evParts, vbuiltin, vun, vextract, Option.map_some, Option.map_none, Nat.reduceLT, Nat.reduceEqDiff, ↓reduceIte, reduceCtorEq, Nat.reduceAdd, Int.reduceLT, Int.reduceNeg, decide_true, decide_false, Bool.not_true, Bool.not_false, ne_eq, not_true_eq_false, not_false_eq_true, List.append_nil, Bool.false_eq_true, List.getElem?_cons_zero, List.getElem?_cons_succ, and_self, and_true, true_and]
      | false =>
      simp only [k3_r0_e, k3_r1_e, k3_r2_e, k3_r3_e, k3_r4_e, k3_r5_e, k3_r6_e, k3_r7_e, k3_r8_e, k3_r9_e, k3_e, WK0, WK1, WK2, WK3, WK4, WK5, true_implies, vop, evAll, evOpt, evParts, vbuiltin, vun, vextract, Option.map_some, Option.map_none, Nat.reduceLT, Nat.reduceEqDiff, ↓reduceIte, reduceCtorEq, Nat.reduceAdd, Int.reduceLT, Int.reduceNeg, decide_true, decide_false, Bool.not_true, Bool.not_false, ne_eq, not_true_eq_false, not_false_eq_true, List.append_nil, Bool.false_eq_true, List.getElem?_cons_zero, List.getElem?_cons_succ, and_self, and_true, true_and, p4.load]
      refine KD.ret hd5 ?_
      cases b5 with
      | true => simp only [k3_r0_e, k3_r1_e, k3_r2_e, k3_r3_e, k3_r4_e, k3_r5_e, k3_r6_e, k3_r7_e, k3_r8_e, k3_r9_e, k3_e, WK0, WK1, WK2, WK3, WK4, WK5, true_implies, vop, evAll, evOpt, evParts, vbuiltin, vun, vextract, Option.map_some, Option.map_none, Nat.reduceLT, Nat.reduceEqDiff, ↓reduceIte, reduceCtorEq, Nat.reduceAdd, Int.reduceLT, Int.reduceNeg, decide_true, decide_false, Bool.not_true, Bool.not_false, ne_eq, not_true_eq_false, not_false_eq_true, List.append_nil, Bool.false_eq_true, List.getElem?_cons_zero, List.getElem?_cons_succ, and_self, and_true, true_and]
      | false =>
      simp only [k3_r0_e, k3_r1_e, k3_r2_e, k3_r3_e, k3_r4_e, k3_r5_e, k3_r6_e, k3_r7_e, k3_r8_e, k3_r9_e, k3_e, WK0, WK1, WK2, WK3, WK4, WK5, true_implies, vop, evAll, evOpt, evParts, vbuiltin, vun, vextract, Option.map_some, Option.map_none, Nat.reduceLT, Nat.reduceEqDiff, ↓reduceIte, reduceCtorEq, Nat.reduceAdd, Int.reduceLT, Int.reduceNeg, decide_true, decide_false, Bool.not_true, Bool.not_false, ne_eq, not_true_eq_false, not_false_eq_true, List.append_nil, Bool.false_eq_true, List.getElem?_cons_zero, List.getElem?_cons_succ, and_self, and_true, true_and, q5.load]
      refine KD.ret hd6 ?_
      simp only [k3_r0_e, k3_r1_e, k3_r2_e, k3_r3_e, k3_r4_e, k3_r5_e, k3_r6_e, k3_r7_e, k3_r8_e, k3_r9_e, k3_e, WK0, WK1, WK2, WK3, WK4, WK5, true_implies, vop, evAll, evOpt, evParts, vbuiltin, vun, vextract, Option.map_some, Option.map_none, Nat.reduceLT, Nat.reduceEqDiff, ↓reduceIte, reduceCtorEq, Nat.reduceAdd, Int.reduceLT, Int.reduceNeg, decide_true, decide_false, Bool.not_true, Bool.not_false, ne_eq, not_true_eq_false, not_false_eq_true, List.append_nil, Bool.false_eq_true, List.getElem?_cons_zero, List.getElem?_cons_succ, and_self, and_true, true_and, p6.load]
      refine KD.ret hd7 ?_
      cases hok : msgOk m with
      | false => simp only [k3_r0_e, k3_r1_e, k3_r2_e, k3_r3_e, k3_r4_e, k3_r5_e, k3_r6_e, k3_r7_e, k3_r8_e, k3_r9_e, k3_e, WK0, WK1, WK2, WK3, WK4, WK5, true_implies, vop, evAll, evOpt, evParts, vbuiltin, vun, vextract, Option.map_some, Option.map_none, Nat.reduceLT, Nat.reduceEqDiff, ↓reduceIte, reduceCtorEq, Nat.reduceAdd, Int.reduceLT, Int.reduceNeg, decide_true, decide_false, Bool.not_true, Bool.not_false, ne_eq, not_true_eq_false, not_false_eq_true, List.append_nil, Bool.false_eq_true, List.getElem?_cons_zero, List.getElem?_cons_succ, and_self, and_true, true_and, hok, Int.reduceEq]
      | true =>
      cases hok2 : msgOk k with
      | false => simp only [k3_r0_e, k3_r1_e, k3_r2_e, k3_r3_e, k3_r4_e, k3_r5_e, k3_r6_e, k3_r7_e, k3_r8_e, k3_r9_e, k3_e, WK0, WK1, WK2, WK3, WK4, WK5, true_implies, vop, evAll, evOpt, evParts, vbuiltin, vun, vextract, Option.map_some, Option.map_none, Nat.reduceLT, Nat.reduceEqDiff, ↓reduceIte, reduceCtorEq, Nat.reduceAdd, Int.reduceLT, Int.reduceNeg, decide_true, decide_false, Bool.not_true, Bool.not_false, ne_eq, not_true_eq_false, not_false_eq_true, List.append_nil, Bool.false_eq_true, List.getElem?_cons_zero, List.getElem?_cons_succ, and_self, and_true, true_and, hok, hok2, Int.reduceEq]
      | true =>
      rw [hok] at hb6
      rw [hok2] at hb7
      simp only [if_true] at hb6 hb7
      simp only [k3_r0_e, k3_r1_e, k3_r2_e, k3_r3_e, k3_r4_e, k3_r5_e, k3_r6_e, k3_r7_e, k3_r8_e, k3_r9_e, k3_e, WK0, WK1, WK2, WK3, WK4, WK5, true_implies, vop, evAll, evOpt, evParts, vbuiltin, vun, vextract, Option.map_some, Option.map_none, Nat.reduceLT, Nat.reduceEqDiff, ↓reduceIte, reduceCtorEq, Nat.reduceAdd, Int.reduceLT, Int.reduceNeg, decide_true, decide_false, Bool.not_true, Bool.not_false, ne_eq, not_true_eq_false, not_false_eq_true, List.append_nil, Bool.false_eq_true, List.getElem?_cons_zero, List.getElem?_cons_succ, and_self, and_true, true_and, hok, hok2, hb6.str T22 U27 T9, hb7.str T22 U27 T9, q7.load, p7.load, strBin, Int.reduceEq]
      refine KD.ret hd8 ?_
      have : decide (msgB m = msgB k) = decide (m = k) := by
        rw [decide_eq_decide]
        exact ⟨fun h => msgB_inj hm hk hok hok2 inm ink (by omega) (by omega) h, fun h => by rw [h]⟩
      simp only [k3_r0_e, k3_r1_e, k3_r2_e, k3_r3_e, k3_r4_e, k3_r5_e, k3_r6_e, k3_r7_e, k3_r8_e, k3_r9_e, k3_e, WK0, WK1, WK2, WK3, WK4, WK5, true_implies, vop, evAll, evOpt, evParts, vbuiltin, vun, vextract, Option.map_some, Option.map_none, Nat.reduceLT, Nat.reduceEqDiff, ↓reduceIte, reduceCtorEq, Nat.reduceAdd, Int.reduceLT, Int.reduceNeg, decide_true, decide_false, Bool.not_true, Bool.not_false, ne_eq, not_true_eq_false, not_false_eq_true, List.append_nil, Bool.false_eq_true, List.getElem?_cons_zero, List.getElem?_cons_succ, and_self, and_true, true_and, this, vbin_beq T4, beq_self_eq_true]
    obtain ⟨r, σ', h, rfl⟩ := key
    exact ⟨_, σ', h.choose_spec⟩
end Go.Proofs.Ytcogghmmlndmgaa.Q
