/- StoreBytes: for every input of bulk at most 1048576 the law answers true. -/
import Derived.Test.YtcogghmmlndmgaaGe
set_option linter.unusedVariables false
set_option linter.unusedSimpArgs false
namespace Go.Proofs.Ytcogghmmlndmgaa.Q
open Go Go.RowKit Go.Proofs

theorem FO33 : fieldsOf Try.prog 33 = [(3, 0), (3, 1), (3, 2), (3, 3), (9, 4), (22, 5)] := by kernel_rfl
theorem CO33 : Try.prog.cellsOf 33 = 6 := by kernel_rfl
theorem log_arg {x : V} (h : ArgT Try.prog 33 x) : ∃ m w, x = .agg (lgCells m w) ∧ ItemsV w m.items ∧ (∀ y ∈ m.items, y.In ∧ y.ent.data.length ≤ vbulk x) ∧ m.items.length ≤ vbulk x ∧ m.book.length ≤ vbulk x := by
  obtain ⟨k, cs, rfl, h0⟩ := ArgT_struct FO33 h
  obtain ⟨k', hl, hf⟩ := VT_struct FO33 h0
  rw [CO33] at hl
  simp only [List.mem_cons, List.not_mem_nil, or_false, forall_eq_or_imp, forall_eq, CO3, CO9, CO22] at hf
  obtain ⟨f0, f1, f2, f3, f4, f5⟩ := hf
  obtain ⟨a0, h0, w0⟩ := VT_int T3 f0
  obtain ⟨a1, h1, w1⟩ := VT_int T3 f1
  obtain ⟨a2, h2, w2⟩ := VT_int T3 f2
  obtain ⟨a3, h3, w3⟩ := VT_int T3 f3
  obtain ⟨s, h4, w4⟩ := VT_str T9 f4
  obtain ⟨w, l, h5, hv, hx, hlen⟩ := items_VT f5
  have hcs : cs = lgCells ⟨a0, a1, a2, a3, s, l⟩ w := by
    match cs, hl with
    | [x0, x1, x2, x3, x4, x5], _ =>
      simp at h0 h1 h2 h3 h4 h5
      simp [lgCells, h0, h1, h2, h3, h4, h5]
  subst hcs
  rw [h5] at hx hlen
  refine ⟨_, w, rfl, hv, fun y hy => ⟨(hx y hy).1, ?_⟩, ?_, ?_⟩
  · have := (hx y hy).2
    simp only [lgCells, vbulk, vbulks] at this ⊢
    omega
  · simp only [lgCells, vbulk, vbulks] at hlen ⊢
    omega
  · simp only [lgCells, vbulk, vbulks]
    omega

def decR (b : List UInt8) (size : Int) : Lg × Int := if 1 ≤ size ∧ size ≤ 7 then ((decodeL b size).getD lg0, if (decodeL b size).isSome then 0 else 11) else (lg0, 1)
theorem LogR.out {b : List UInt8} {size : Int} {v : V} (h : LogR b size v) : ∃ w, v = .tuple [.agg (lgCells (decR b size).1 w), .int .i64 (decR b size).2] ∧ ItemsV w (decR b size).1.items := by
  unfold LogR at h
  unfold decR
  split at h
  · rename_i hs
    rw [if_pos hs]
    exact h
  · rename_i hs
    rw [if_neg hs]
    exact ⟨.nils, h, ItemsV.nil⟩
theorem decR_len (b : List UInt8) (size : Int) : (decR b size).1.items.length ≤ 256 := by
  unfold decR
  split
  · cases hd : decodeL b size with
    | none => simp [lg0]
    | some k => have := (lgOk_parts (decodeL_some hd).1).1.2.2.2.2.2.2.2; simp only [Option.getD_some]; omega
  · simp [lg0]

theorem storebytes_tail {σ : St} {r s : Nat} {bs : List UInt8} {size : Int} (hr : Rdr σ r bs false) (hs : Rdr σ s bs false) (hne : r ≠ s) (hl : bs.length ≤ 2000000) {e : Nat → V} (h1 : e 1 = .int .i64 size) (h17 : e 17 = .optr r 0) (h18 : e 18 = .optr s 0) :
    Ev Try.prog noPrim 131 (.seq (.region k5_r16) (.seq (.region k5_r17) (.seq k5_r18 .ret))) e σ (fun x e' _ => x = .ret ∧ e' 6 = .bool true) := by
  obtain ⟨v1, s1, d1, x1, R1⟩ := readitems_does hr (by omega) size
  obtain ⟨v2, s2, d2, x2, R2⟩ := refreaditems_does (hs.keep x1 (Ne.symm hne)) (by omega) size
  simp only [k5_r0_e, k5_r1_e, k5_r2_e, k5_r3_e, k5_r4_e, k5_r5_e, k5_r6_e, k5_r7_e, k5_r8_e, k5_r9_e, k5_r10_e, k5_r11_e, k5_r12_e, k5_r13_e, k5_r14_e, k5_r15_e, k5_r16_e, k5_r17_e, k5_r18_e, k5_e, WK0, WK1, WK2, WK3, WK4, WK5, true_implies, vop, evAll, evOpt, evParts, vbuiltin, vun, vextract, Option.map_some, Option.map_none, Nat.reduceLT, Nat.reduceEqDiff, ↓reduceIte, reduceCtorEq, Nat.reduceAdd, Int.reduceLT, Int.reduceNeg, decide_true, decide_false, Bool.not_true, Bool.not_false, ne_eq, not_true_eq_false, not_false_eq_true, List.append_nil, Bool.false_eq_true, List.getElem?_cons_zero, List.getElem?_cons_succ, and_self, and_true, true_and, h1, h17, h18]
  refine KD.ret d1 ?_
  cases hI : readItemsS bs false size with
  | none =>
    rw [hI] at R1 R2
    simp only [ItemsR] at R1 R2
    subst R1 R2
    have hsame := sameitems_does ItemsV.nil ItemsV.nil (by simp) s2
    simp only [decide_true] at hsame
    simp only [k5_r0_e, k5_r1_e, k5_r2_e, k5_r3_e, k5_r4_e, k5_r5_e, k5_r6_e, k5_r7_e, k5_r8_e, k5_r9_e, k5_r10_e, k5_r11_e, k5_r12_e, k5_r13_e, k5_r14_e, k5_r15_e, k5_r16_e, k5_r17_e, k5_r18_e, k5_e, WK0, WK1, WK2, WK3, WK4, WK5, true_implies, vop, evAll, evOpt, evParts, vbuiltin, vun, vextract, Option.map_some, Option.map_none, Nat.reduceLT, Nat.reduceEqDiff, ↓reduceIte, reduceCtorEq, Nat.reduceAdd, Int.reduceLT, Int.reduceNeg, decide_true, decide_false, Bool.not_true, Bool.not_false, ne_eq, not_true_eq_false, not_false_eq_true, List.append_nil, Bool.false_eq_true, List.getElem?_cons_zero, List.getElem?_cons_succ, and_self, and_true, true_and, h1, h17, h18]
    refine KD.ret d2 ?_
    simp only [k5_r0_e, k5_r1_e, k5_r2_e, k5_r3_e, k5_r4_e, k5_r5_e, k5_r6_e, k5_r7_e, k5_r8_e, k5_r9_e, k5_r10_e, k5_r11_e, k5_r12_e, k5_r13_e, k5_r14_e, k5_r15_e, k5_r16_e, k5_r17_e, k5_r18_e, k5_e, WK0, WK1, WK2, WK3, WK4, WK5, true_implies, vop, evAll, evOpt, evParts, vbuiltin, vun, vextract, Option.map_some, Option.map_none, Nat.reduceLT, Nat.reduceEqDiff, ↓reduceIte, reduceCtorEq, Nat.reduceAdd, Int.reduceLT, Int.reduceNeg, decide_true, decide_false, Bool.not_true, Bool.not_false, ne_eq, not_true_eq_false, not_false_eq_true, List.append_nil, Bool.false_eq_true, List.getElem?_cons_zero, List.getElem?_cons_succ, and_self, and_true, true_and, h1, h17, h18, vbin_beqd]
    refine KD.ret hsame ?_
    simp only [k5_r0_e, k5_r1_e, k5_r2_e, k5_r3_e, k5_r4_e, k5_r5_e, k5_r6_e, k5_r7_e, k5_r8_e, k5_r9_e, k5_r10_e, k5_r11_e, k5_r12_e, k5_r13_e, k5_r14_e, k5_r15_e, k5_r16_e, k5_r17_e, k5_r18_e, k5_e, WK0, WK1, WK2, WK3, WK4, WK5, true_implies, vop, evAll, evOpt, evParts, vbuiltin, vun, vextract, Option.map_some, Option.map_none, Nat.reduceLT, Nat.reduceEqDiff, ↓reduceIte, reduceCtorEq, Nat.reduceAdd, Int.reduceLT, Int.reduceNeg, decide_true, decide_false, Bool.not_true, Bool.not_false, ne_eq, not_true_eq_false, not_false_eq_true, List.append_nil, Bool.false_eq_true, List.getElem?_cons_zero, List.getElem?_cons_succ, and_self, and_true, true_and, h1, h17, h18]
    intro hh
    simp [wantC, upd_some] at hh
  | some p =>
    obtain ⟨l, b⟩ := p
    rw [hI] at R1 R2
    simp only [ItemsR] at R1 R2
    obtain ⟨w1, rfl, i1, t1⟩ := R1
    obtain ⟨w2, rfl, i2, t2⟩ := R2
    have hll := (readItemsS_some hI).2.2.2.2.1
    have hsame := sameitems_does i1 i2 (by unfold maxLen; omega) s2
    simp only [decide_true] at hsame
    have hleft := left_does (t1.keep x2 hne)
    obtain ⟨u, hu1, hu2⟩ := t2
    simp only [k5_r0_e, k5_r1_e, k5_r2_e, k5_r3_e, k5_r4_e, k5_r5_e, k5_r6_e, k5_r7_e, k5_r8_e, k5_r9_e, k5_r10_e, k5_r11_e, k5_r12_e, k5_r13_e, k5_r14_e, k5_r15_e, k5_r16_e, k5_r17_e, k5_r18_e, k5_e, WK0, WK1, WK2, WK3, WK4, WK5, true_implies, vop, evAll, evOpt, evParts, vbuiltin, vun, vextract, Option.map_some, Option.map_none, Nat.reduceLT, Nat.reduceEqDiff, ↓reduceIte, reduceCtorEq, Nat.reduceAdd, Int.reduceLT, Int.reduceNeg, decide_true, decide_false, Bool.not_true, Bool.not_false, ne_eq, not_true_eq_false, not_false_eq_true, List.append_nil, Bool.false_eq_true, List.getElem?_cons_zero, List.getElem?_cons_succ, and_self, and_true, true_and, h1, h17, h18]
    refine KD.ret d2 ?_
    simp only [k5_r0_e, k5_r1_e, k5_r2_e, k5_r3_e, k5_r4_e, k5_r5_e, k5_r6_e, k5_r7_e, k5_r8_e, k5_r9_e, k5_r10_e, k5_r11_e, k5_r12_e, k5_r13_e, k5_r14_e, k5_r15_e, k5_r16_e, k5_r17_e, k5_r18_e, k5_e, WK0, WK1, WK2, WK3, WK4, WK5, true_implies, vop, evAll, evOpt, evParts, vbuiltin, vun, vextract, Option.map_some, Option.map_none, Nat.reduceLT, Nat.reduceEqDiff, ↓reduceIte, reduceCtorEq, Nat.reduceAdd, Int.reduceLT, Int.reduceNeg, decide_true, decide_false, Bool.not_true, Bool.not_false, ne_eq, not_true_eq_false, not_false_eq_true, List.append_nil, Bool.false_eq_true, List.getElem?_cons_zero, List.getElem?_cons_succ, and_self, and_true, true_and, h1, h17, h18, vbin_beqd]
    refine KD.ret hsame ?_
    simp only [k5_r0_e, k5_r1_e, k5_r2_e, k5_r3_e, k5_r4_e, k5_r5_e, k5_r6_e, k5_r7_e, k5_r8_e, k5_r9_e, k5_r10_e, k5_r11_e, k5_r12_e, k5_r13_e, k5_r14_e, k5_r15_e, k5_r16_e, k5_r17_e, k5_r18_e, k5_e, WK0, WK1, WK2, WK3, WK4, WK5, true_implies, vop, evAll, evOpt, evParts, vbuiltin, vun, vextract, Option.map_some, Option.map_none, Nat.reduceLT, Nat.reduceEqDiff, ↓reduceIte, reduceCtorEq, Nat.reduceAdd, Int.reduceLT, Int.reduceNeg, decide_true, decide_false, Bool.not_true, Bool.not_false, ne_eq, not_true_eq_false, not_false_eq_true, List.append_nil, Bool.false_eq_true, List.getElem?_cons_zero, List.getElem?_cons_succ, and_self, and_true, true_and, h1, h17, h18]
    refine KD.ret hleft ?_
    simp only [k5_r0_e, k5_r1_e, k5_r2_e, k5_r3_e, k5_r4_e, k5_r5_e, k5_r6_e, k5_r7_e, k5_r8_e, k5_r9_e, k5_r10_e, k5_r11_e, k5_r12_e, k5_r13_e, k5_r14_e, k5_r15_e, k5_r16_e, k5_r17_e, k5_r18_e, k5_e, WK0, WK1, WK2, WK3, WK4, WK5, true_implies, vop, evAll, evOpt, evParts, vbuiltin, vun, vextract, Option.map_some, Option.map_none, Nat.reduceLT, Nat.reduceEqDiff, ↓reduceIte, reduceCtorEq, Nat.reduceAdd, Int.reduceLT, Int.reduceNeg, decide_true, decide_false, Bool.not_true, Bool.not_false, ne_eq, not_true_eq_false, not_false_eq_true, List.append_nil, Bool.false_eq_true, List.getElem?_cons_zero, List.getElem?_cons_succ, and_self, and_true, true_and, h1, h17, h18, FB0, vload_obj hu1 G22, hu2.len T22, Bool.false_eq_true, if_false]

theorem storebytes_true : LawTrue Try.prog noPrim 5 [33, 3, 27] := by
  intro xs hA hb
  match xs, hA with
  | [x, y, z], ⟨hx, hy, hz, _⟩ =>
    obtain ⟨m, v, rfl, hv, hmi, hml, hmb⟩ := log_arg hx
    obtain ⟨size, rfl, hsz⟩ := int_arg T3 hy
    obtain ⟨bs, hB, hBl⟩ := bytes_arg T22 T5 C5 hz
    obtain ⟨bx, hbx⟩ : ∃ n, n = vbulk (.agg (lgCells m v)) := ⟨_, rfl⟩
    simp only [vbulks] at hb
    rw [← hbx] at hmi hml hmb hb
    have inm : ItmsIn m.items := fun y hy => ⟨(hmi y hy).1, by have := (hmi y hy).2; omega⟩
    have key : ∃ r σ', Does Try.prog noPrim 5 [.agg (lgCells m v), .int .i64 size, z] st0 r σ' ∧ r = .ret (.bool true) := by
      apply k5_is.does (by simp)
      obtain ⟨s1, hs1⟩ : ∃ s1 : St, s1 = ⟨st0.objs ++ [Ob.cells (lgCells m v)], st0.toks⟩ := ⟨_, rfl⟩
      have m1 : IsL s1 0 m v := by rw [hs1]; rfl
      obtain ⟨s2, d2, k2⟩ := wakes21_does s1
      have m2 := k2.atL m1
      obtain ⟨b3, s3, d3, k3⟩ := heavy21_does hv (fun x hx => by have := (hmi x hx).2; omega) (by omega) (by omega) s2
      have m3 := k3.atL m2
      obtain ⟨r4, s4, d4, k4, e4⟩ := encode21_does (size := size) hv inm (by omega) (by omega) s3
      have m4 := k4.atL m3
      obtain ⟨r5, s5, d5, k5, e5⟩ := refencode21_does (size := size) hv inm (by omega) (by omega) s4
      have m5 := k5.atL m4
      obtain ⟨r6, s6, d6, k6, hR6⟩ := decode21_does hB (by omega) size s5
      obtain ⟨w6, rfl, h6⟩ := hR6.out
      have m6 := k6.atL m5
      obtain ⟨p, hp⟩ : ∃ p, p = decR bs size := ⟨_, rfl⟩
      rw [← hp] at h6 d6
      have hpl : p.1.items.length ≤ 256 := by rw [hp]; exact decR_len bs size
      obtain ⟨s7, hs7⟩ : ∃ s7 : St, s7 = ⟨(s6.objs ++ [Ob.cells (lgCells lg0 .nils)]).set s6.objs.length (Ob.cells (lgCells p.1 w6)), s6.toks⟩ := ⟨_, rfl⟩
      have p7 : IsL s7 s6.objs.length p.1 w6 := by rw [hs7]; exact IsL.made
      have k7 : Keep s6 s7 := by rw [hs7]; exact (Keep.refl s6).madeL _ _ _ _
      have m7 := k7.atL m6
      obtain ⟨r8, s8, d8, k8, hR8⟩ := refdecode21_does hB (by omega) size s7
      obtain ⟨w8, rfl, h8⟩ := hR8.out
      rw [← hp] at h8 d8
      have m8 := k8.atL m7
      have p8 := k8.atL p7
      obtain ⟨s9, hs9⟩ : ∃ s9 : St, s9 = ⟨(s8.objs ++ [Ob.cells (lgCells lg0 .nils)]).set s8.objs.length (Ob.cells (lgCells p.1 w8)), s8.toks⟩ := ⟨_, rfl⟩
      have q9 : IsL s9 s8.objs.length p.1 w8 := by rw [hs9]; exact IsL.made
      have k9 : Keep s8 s9 := by rw [hs9]; exact (Keep.refl s8).madeL _ _ _ _
      have m9 := k9.atL m8
      have p9 := k9.atL p8
      obtain ⟨s10, d10, k10⟩ := samelog_does (l := p.1) (k := p.1) h6 h8 (by unfold maxLen; omega) s9
      simp only [decide_true] at d10
      have m10 := k10.atL m9
      obtain ⟨r11, s11, d11, k11, e11⟩ := items_does hB hv inm (by omega) s10
      have m11 := k11.atL m10
      obtain ⟨r12, s12, d12, k12, e12⟩ := refitems_does hB hv inm (by omega) s11
      obtain ⟨rr, s13, d13, k13, hrr, t13⟩ := new_does hB (by omega) s12
      have ho1 : OwnV 5 s13.toks.length s13 (.slice .exact 1 [] 0) [] := .inr ⟨_, rfl, .inl rfl⟩
      obtain ⟨v', s14, ha, ho, k14, hob⟩ := ho1.append' BT rfl (Keep.refl s13) T22 hB (by simp; omega)
      rw [List.nil_append] at ho
      obtain ⟨ss, hss⟩ : ∃ ss, ss = s14.objs.length := ⟨_, rfl⟩
      have t14 : Rdr ⟨s14.objs ++ [Ob.cells [v', .bool false]], s14.toks⟩ ss bs false := ⟨v', by rw [hss]; exact push_new _ _, ho.bts⟩
      have t13' := t13.keep' (k14.push (Ob.cells [v', .bool false]))
      have hlt := t13.lt
      have hne : rr ≠ ss := by rw [hss, hob]; omega
      simp only [k5_r0_e, k5_r1_e, k5_r2_e, k5_r3_e, k5_r4_e, k5_r5_e, k5_r6_e, k5_r7_e, k5_r8_e, k5_r9_e, k5_r10_e, k5_r11_e, k5_r12_e, k5_r13_e, k5_r14_e, k5_r15_e, k5_r16_e, k5_r17_e, k5_r18_e, k5_e, WK0, WK1, WK2, WK3, WK4, WK5, true_implies, vop, evAll, evOpt, evParts, vbuiltin, vun, vextract, Option.map_some, Option.map_none, Nat.reduceLT, Nat.reduceEqDiff, ↓reduceIte, reduceCtorEq, Nat.reduceAdd, Int.reduceLT, Int.reduceNeg, decide_true, decide_false, Bool.not_true, Bool.not_false, ne_eq, not_true_eq_false, not_false_eq_true, List.append_nil, Bool.false_eq_true, List.getElem?_cons_zero, List.getElem?_cons_succ, and_self, and_true, true_and, List.getD_cons_zero, List.getD_cons_succ, vbox, vcells, ← hs1]
      refine KD.ret d2 ?_
      simp only [k5_r0_e, k5_r1_e, k5_r2_e, k5_r3_e, k5_r4_e, k5_r5_e, k5_r6_e, k5_r7_e, k5_r8_e, k5_r9_e, k5_r10_e, k5_r11_e, k5_r12_e, k5_r13_e, k5_r14_e, k5_r15_e, k5_r16_e, k5_r17_e, k5_r18_e, k5_e, WK0, WK1, WK2, WK3, WK4, WK5, true_implies, vop, evAll, evOpt, evParts, vbuiltin, vun, vextract, Option.map_some, Option.map_none, Nat.reduceLT, Nat.reduceEqDiff, ↓reduceIte, reduceCtorEq, Nat.reduceAdd, Int.reduceLT, Int.reduceNeg, decide_true, decide_false, Bool.not_true, Bool.not_false, ne_eq, not_true_eq_false, not_false_eq_true, List.append_nil, Bool.false_eq_true, List.getElem?_cons_zero, List.getElem?_cons_succ, and_self, and_true, true_and, show st0.objs.length = 0 from rfl, m2.load]
      refine KD.ret d3 ?_
      cases b3 with
      | true => simp only [k5_r0_e, k5_r1_e, k5_r2_e, k5_r3_e, k5_r4_e, k5_r5_e, k5_r6_e, k5_r7_e, k5_r8_e, k5_r9_e, k5_r10_e, k5_r11_e, k5_r12_e, k5_r13_e, k5_r14_e, k5_r15_e, k5_r16_e, k5_r17_e, k5_r18_e, k5_e, WK0, WK1, WK2, WK3, WK4, WK5, true_implies, vop, evAll, evOpt, evParts, vbuiltin, vun, vextract, Option.map_some, Option.map_none, Nat.reduceLT, Nat.reduceEqDiff, ↓reduceIte, reduceCtorEq, Nat.reduceAdd, Int.reduceLT, Int.reduceNeg, decide_true, decide_false, Bool.not_true, Bool.not_false, ne_eq, not_true_eq_false, not_false_eq_true, List.append_nil, Bool.false_eq_true, List.getElem?_cons_zero, List.getElem?_cons_succ, and_self, and_true, true_and]
      | false =>
      by_cases hbig : (16384 : Int) < bs.length
      · simp only [k5_r0_e, k5_r1_e, k5_r2_e, k5_r3_e, k5_r4_e, k5_r5_e, k5_r6_e, k5_r7_e, k5_r8_e, k5_r9_e, k5_r10_e, k5_r11_e, k5_r12_e, k5_r13_e, k5_r14_e, k5_r15_e, k5_r16_e, k5_r17_e, k5_r18_e, k5_e, WK0, WK1, WK2, WK3, WK4, WK5, true_implies, vop, evAll, evOpt, evParts, vbuiltin, vun, vextract, Option.map_some, Option.map_none, Nat.reduceLT, Nat.reduceEqDiff, ↓reduceIte, reduceCtorEq, Nat.reduceAdd, Int.reduceLT, Int.reduceNeg, decide_true, decide_false, Bool.not_true, Bool.not_false, ne_eq, not_true_eq_false, not_false_eq_true, List.append_nil, Bool.false_eq_true, List.getElem?_cons_zero, List.getElem?_cons_succ, and_self, and_true, true_and, List.getD_cons_zero, List.getD_cons_succ, hB.len T22, hbig]
      · simp only [k5_r0_e, k5_r1_e, k5_r2_e, k5_r3_e, k5_r4_e, k5_r5_e, k5_r6_e, k5_r7_e, k5_r8_e, k5_r9_e, k5_r10_e, k5_r11_e, k5_r12_e, k5_r13_e, k5_r14_e, k5_r15_e, k5_r16_e, k5_r17_e, k5_r18_e, k5_e, WK0, WK1, WK2, WK3, WK4, WK5, true_implies, vop, evAll, evOpt, evParts, vbuiltin, vun, vextract, Option.map_some, Option.map_none, Nat.reduceLT, Nat.reduceEqDiff, ↓reduceIte, reduceCtorEq, Nat.reduceAdd, Int.reduceLT, Int.reduceNeg, decide_true, decide_false, Bool.not_true, Bool.not_false, ne_eq, not_true_eq_false, not_false_eq_true, List.append_nil, Bool.false_eq_true, List.getElem?_cons_zero, List.getElem?_cons_succ, and_self, and_true, true_and, List.getD_cons_zero, List.getD_cons_succ, hB.len T22, hbig, m3.load]
        refine KD.ret d4 ?_
        simp only [k5_r0_e, k5_r1_e, k5_r2_e, k5_r3_e, k5_r4_e, k5_r5_e, k5_r6_e, k5_r7_e, k5_r8_e, k5_r9_e, k5_r10_e, k5_r11_e, k5_r12_e, k5_r13_e, k5_r14_e, k5_r15_e, k5_r16_e, k5_r17_e, k5_r18_e, k5_e, WK0, WK1, WK2, WK3, WK4, WK5, true_implies, vop, evAll, evOpt, evParts, vbuiltin, vun, vextract, Option.map_some, Option.map_none, Nat.reduceLT, Nat.reduceEqDiff, ↓reduceIte, reduceCtorEq, Nat.reduceAdd, Int.reduceLT, Int.reduceNeg, decide_true, decide_false, Bool.not_true, Bool.not_false, ne_eq, not_true_eq_false, not_false_eq_true, List.append_nil, Bool.false_eq_true, List.getElem?_cons_zero, List.getElem?_cons_succ, and_self, and_true, true_and, List.getD_cons_zero, List.getD_cons_succ, m4.load]
        refine KD.ret d5 ?_
        simp only [k5_r0_e, k5_r1_e, k5_r2_e, k5_r3_e, k5_r4_e, k5_r5_e, k5_r6_e, k5_r7_e, k5_r8_e, k5_r9_e, k5_r10_e, k5_r11_e, k5_r12_e, k5_r13_e, k5_r14_e, k5_r15_e, k5_r16_e, k5_r17_e, k5_r18_e, k5_e, WK0, WK1, WK2, WK3, WK4, WK5, true_implies, vop, evAll, evOpt, evParts, vbuiltin, vun, vextract, Option.map_some, Option.map_none, Nat.reduceLT, Nat.reduceEqDiff, ↓reduceIte, reduceCtorEq, Nat.reduceAdd, Int.reduceLT, Int.reduceNeg, decide_true, decide_false, Bool.not_true, Bool.not_false, ne_eq, not_true_eq_false, not_false_eq_true, List.append_nil, Bool.false_eq_true, List.getElem?_cons_zero, List.getElem?_cons_succ, and_self, and_true, true_and, List.getD_cons_zero, List.getD_cons_succ]
        refine KD.ret d6 ?_
        simp only [k5_r0_e, k5_r1_e, k5_r2_e, k5_r3_e, k5_r4_e, k5_r5_e, k5_r6_e, k5_r7_e, k5_r8_e, k5_r9_e, k5_r10_e, k5_r11_e, k5_r12_e, k5_r13_e, k5_r14_e, k5_r15_e, k5_r16_e, k5_r17_e, k5_r18_e, k5_e, WK0, WK1, WK2, WK3, WK4, WK5, true_implies, vop, evAll, evOpt, evParts, vbuiltin, vun, vextract, Option.map_some, Option.map_none, Nat.reduceLT, Nat.reduceEqDiff, ↓reduceIte, reduceCtorEq, Nat.reduceAdd, Int.reduceLT, Int.reduceNeg, decide_true, decide_false, Bool.not_true, Bool.not_false, ne_eq, not_true_eq_false, not_false_eq_true, List.append_nil, Bool.false_eq_true, List.getElem?_cons_zero, List.getElem?_cons_succ, and_self, and_true, true_and, ZL, vbox, vcells, IsL.new h6.one, ← hs7, List.getD_cons_zero, List.getD_cons_succ]
        refine KD.ret d8 ?_
        simp only [k5_r0_e, k5_r1_e, k5_r2_e, k5_r3_e, k5_r4_e, k5_r5_e, k5_r6_e, k5_r7_e, k5_r8_e, k5_r9_e, k5_r10_e, k5_r11_e, k5_r12_e, k5_r13_e, k5_r14_e, k5_r15_e, k5_r16_e, k5_r17_e, k5_r18_e, k5_e, WK0, WK1, WK2, WK3, WK4, WK5, true_implies, vop, evAll, evOpt, evParts, vbuiltin, vun, vextract, Option.map_some, Option.map_none, Nat.reduceLT, Nat.reduceEqDiff, ↓reduceIte, reduceCtorEq, Nat.reduceAdd, Int.reduceLT, Int.reduceNeg, decide_true, decide_false, Bool.not_true, Bool.not_false, ne_eq, not_true_eq_false, not_false_eq_true, List.append_nil, Bool.false_eq_true, List.getElem?_cons_zero, List.getElem?_cons_succ, and_self, and_true, true_and, ZL, vbox, vcells, IsL.new h8.one, ← hs9, e4.str T22 U27 T9, e5.str T22 U27 T9, strBin, p9.load, q9.load]
        refine KD.ret d10 ?_
        simp only [k5_r0_e, k5_r1_e, k5_r2_e, k5_r3_e, k5_r4_e, k5_r5_e, k5_r6_e, k5_r7_e, k5_r8_e, k5_r9_e, k5_r10_e, k5_r11_e, k5_r12_e, k5_r13_e, k5_r14_e, k5_r15_e, k5_r16_e, k5_r17_e, k5_r18_e, k5_e, WK0, WK1, WK2, WK3, WK4, WK5, true_implies, vop, evAll, evOpt, evParts, vbuiltin, vun, vextract, Option.map_some, Option.map_none, Nat.reduceLT, Nat.reduceEqDiff, ↓reduceIte, reduceCtorEq, Nat.reduceAdd, Int.reduceLT, Int.reduceNeg, decide_true, decide_false, Bool.not_true, Bool.not_false, ne_eq, not_true_eq_false, not_false_eq_true, List.append_nil, Bool.false_eq_true, List.getElem?_cons_zero, List.getElem?_cons_succ, and_self, and_true, true_and, List.getD_cons_zero, List.getD_cons_succ, FL5, m10.r, lgC5]
        refine KD.ret d11 ?_
        simp only [k5_r0_e, k5_r1_e, k5_r2_e, k5_r3_e, k5_r4_e, k5_r5_e, k5_r6_e, k5_r7_e, k5_r8_e, k5_r9_e, k5_r10_e, k5_r11_e, k5_r12_e, k5_r13_e, k5_r14_e, k5_r15_e, k5_r16_e, k5_r17_e, k5_r18_e, k5_e, WK0, WK1, WK2, WK3, WK4, WK5, true_implies, vop, evAll, evOpt, evParts, vbuiltin, vun, vextract, Option.map_some, Option.map_none, Nat.reduceLT, Nat.reduceEqDiff, ↓reduceIte, reduceCtorEq, Nat.reduceAdd, Int.reduceLT, Int.reduceNeg, decide_true, decide_false, Bool.not_true, Bool.not_false, ne_eq, not_true_eq_false, not_false_eq_true, List.append_nil, Bool.false_eq_true, List.getElem?_cons_zero, List.getElem?_cons_succ, and_self, and_true, true_and, List.getD_cons_zero, List.getD_cons_succ, FL5, m10.r, m11.r, lgC5]
        refine KD.ret d12 ?_
        simp only [k5_r0_e, k5_r1_e, k5_r2_e, k5_r3_e, k5_r4_e, k5_r5_e, k5_r6_e, k5_r7_e, k5_r8_e, k5_r9_e, k5_r10_e, k5_r11_e, k5_r12_e, k5_r13_e, k5_r14_e, k5_r15_e, k5_r16_e, k5_r17_e, k5_r18_e, k5_e, WK0, WK1, WK2, WK3, WK4, WK5, true_implies, vop, evAll, evOpt, evParts, vbuiltin, vun, vextract, Option.map_some, Option.map_none, Nat.reduceLT, Nat.reduceEqDiff, ↓reduceIte, reduceCtorEq, Nat.reduceAdd, Int.reduceLT, Int.reduceNeg, decide_true, decide_false, Bool.not_true, Bool.not_false, ne_eq, not_true_eq_false, not_false_eq_true, List.append_nil, Bool.false_eq_true, List.getElem?_cons_zero, List.getElem?_cons_succ, and_self, and_true, true_and, List.getD_cons_zero, List.getD_cons_succ, FL5, m10.r, m11.r, lgC5, e11.bts.str T22 U27 T9, e12.bts.str T22 U27 T9, strBin]
        refine KD.ret d13 ?_
        have tail := fun (e : Nat → V) => storebytes_tail (size := size) (e := e) t13' t14 hne (by omega)
        have tail2 : ∀ (e : Nat → V), e 1 = .int .i64 size → e 17 = .optr rr 0 → e 18 = .optr ss 0 → Ev Try.prog noPrim 131 (.seq (.region k5_r16) (.seq (.region k5_r17) (.seq k5_r18 .ret))) e ⟨s14.objs ++ [Ob.cells [v', .bool false]], s14.toks⟩ (fnK Try.prog 131 [ResultVar.tmp 6] fun r σ' => r = .ret (.bool true)) := by
          intro e g1 g17 g18
          refine Ev.cut (tail e g1 g17 g18) ?_
          rintro x e' σ' ⟨rfl, h6⟩ _
          simp only [WK0, WK1, WK2, WK3, WK4, WK5, true_implies, vop, evAll, evOpt, evParts, vbuiltin, vun, vextract, Option.map_some, Option.map_none, Nat.reduceLT, Nat.reduceEqDiff, ↓reduceIte, reduceCtorEq, Nat.reduceAdd, Int.reduceLT, Int.reduceNeg, decide_true, decide_false, Bool.not_true, Bool.not_false, ne_eq, not_true_eq_false, not_false_eq_true, List.append_nil, Bool.false_eq_true, List.getElem?_cons_zero, List.getElem?_cons_succ, and_self, and_true, true_and, h6]
        simp only [WK0, WK1, WK2, WK3, WK4, WK5, true_implies, vop, evAll, evOpt, evParts, vbuiltin, vun, vextract, Option.map_some, Option.map_none, Nat.reduceLT, Nat.reduceEqDiff, ↓reduceIte, reduceCtorEq, Nat.reduceAdd, Int.reduceLT, Int.reduceNeg, decide_true, decide_false, Bool.not_true, Bool.not_false, ne_eq, not_true_eq_false, not_false_eq_true, List.append_nil, Bool.false_eq_true, List.getElem?_cons_zero, List.getElem?_cons_succ, and_self, and_true, true_and] at tail2
        simp only [k5_r14_e, k5_r15_e, WK0, WK1, WK2, WK3, WK4, WK5, true_implies, vop, evAll, evOpt, evParts, vbuiltin, vun, vextract, Option.map_some, Option.map_none, Nat.reduceLT, Nat.reduceEqDiff, ↓reduceIte, reduceCtorEq, Nat.reduceAdd, Int.reduceLT, Int.reduceNeg, decide_true, decide_false, Bool.not_true, Bool.not_false, ne_eq, not_true_eq_false, not_false_eq_true, List.append_nil, Bool.false_eq_true, List.getElem?_cons_zero, List.getElem?_cons_succ, and_self, and_true, true_and, List.getD_cons_zero, List.getD_cons_succ, build0 BT, ha, BV v' ho.bts.one, vbox, vcells]
        rw [← hss]
        exact tail2 _ (by simp [upd_some]) (by simp [upd_some]) (by simp [upd_some])
    obtain ⟨r, σ', ⟨n, h⟩, rfl⟩ := key
    exact ⟨n, σ', h⟩
end Go.Proofs.Ytcogghmmlndmgaa.Q
