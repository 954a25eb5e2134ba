import Derived.Test.YtcogghmmlndmgaaGa
set_option linter.unusedVariables false
set_option linter.unusedSimpArgs false
namespace Go.Proofs.Ytcogghmmlndmgaa.Q
open Go Go.RowKit Go.Proofs

/-- A log's bytes. -/
def headL (l : Lg) : List Int := [l.term, l.vote + 1, l.base, l.bterm]
def lgB (l : Lg) : List UInt8 := putS (headL l) ++ runS l.book ++ itemsS l.items
def encOk (l : Lg) (size : Int) : Bool := decide (1 ≤ size ∧ size ≤ 7) && lgOk l size

theorem lgOk_parts {l : Lg} {size : Int} (h : lgOk l size = true) : (0 ≤ l.term ∧ l.term ≤ 1099511627776 ∧ -1 ≤ l.vote ∧ l.vote < size ∧ 0 ≤ l.base ∧ l.base ≤ 1099511627776 ∧ 0 ≤ l.bterm ∧ (l.items.length : Int) ≤ 256) ∧ chainB l.bterm l.items = true ∧ lastT l.bterm l.items ≤ l.term := by
  unfold lgOk lgRange at h
  simp only [Bool.and_eq_true, decide_eq_true_eq] at h
  exact ⟨h.1.1, h.1.2, h.2⟩
theorem encOk_parts {l : Lg} {size : Int} (h : encOk l size = true) : 1 ≤ size ∧ size ≤ 7 ∧ lgOk l size = true := by
  unfold encOk at h
  simp only [Bool.and_eq_true, decide_eq_true_eq] at h
  exact ⟨h.1.1, h.1.2, h.2⟩
theorem bterm_le {l : Lg} {size : Int} (h : lgOk l size = true) : l.bterm ≤ l.term := by
  obtain ⟨_, h2, h3⟩ := lgOk_parts h
  have := (chain_le h2).1
  omega
theorem headL_in {l : Lg} {size : Int} (h : lgOk l size = true) (hs : size ≤ 7) : ∀ x ∈ headL l, 0 ≤ x ∧ InI64 x := by
  obtain ⟨h1, _, _⟩ := lgOk_parts h
  have hb := bterm_le h
  intro x hx
  simp only [headL, List.mem_cons, List.not_mem_nil, or_false] at hx
  rcases hx with rfl | rfl | rfl | rfl <;> unfold InI64 <;> omega

theorem encode21_does {l : Lg} {w : V} {size : Int} (hw : ItemsV w l.items) (hin : ItmsIn l.items) (hl : l.items.length ≤ 4294967296) (hbl : l.book.length ≤ 4294967296) (σ : St) :
    ∃ r σ', Does Try.prog noPrim 15 [.agg (lgCells l w), .int .i64 size] σ (.ret (.tuple [r, .int .i64 (if encOk l size then 0 else 1)])) σ' ∧ Keep σ σ' ∧ BtsV r (if encOk l size then lgB l else []) := by
  have key : ∃ q σ', Does Try.prog noPrim 15 [.agg (lgCells l w), .int .i64 size] σ q σ' ∧ ∃ r, q = .ret (.tuple [r, .int .i64 (if encOk l size then 0 else 1)]) ∧ Keep σ σ' ∧ BtsV r (if encOk l size then lgB l else []) := by
    apply k15_is.does (by simp)
    obtain ⟨σ1, hσ1⟩ : ∃ σ1 : St, σ1 = ⟨σ.objs ++ [Ob.cells (lgCells l w)], σ.toks⟩ := ⟨_, rfl⟩
    have hk1 : Keep σ σ1 := by rw [hσ1]; exact (Keep.refl σ).push _
    have q1 : IsL σ1 σ.objs.length l w := by rw [hσ1]; exact push_new _ _
    by_cases hs1 : size < 1
    · have hE : encOk l size = false := by unfold encOk; rw [decide_eq_false (by omega)]; rfl
      simp only [k15_r0_e, k15_r1_e, k15_r2_e, k15_r3_e, k15_e, WK0, WK1, WK2, WK3, WK4, WK5, true_implies, vop, evAll, evOpt, evParts, vbuiltin, vun, vextract, Option.map_some, Option.map_none, Nat.reduceLT, Nat.reduceEqDiff, ↓reduceIte, reduceCtorEq, Nat.reduceAdd, Int.reduceLT, Int.reduceNeg, decide_true, decide_false, Bool.not_true, Bool.not_false, ne_eq, not_true_eq_false, not_false_eq_true, List.append_nil, Bool.false_eq_true, List.getElem?_cons_zero, List.getElem?_cons_succ, and_self, and_true, true_and, List.getD_cons_zero, List.getD_cons_succ, vbox, vcells, ← hσ1, hs1, ofVal_nil, hE]
      exact ⟨_, rfl, hk1, BtsV.nil⟩
    · by_cases hs2 : 7 < size
      · have hE : encOk l size = false := by unfold encOk; rw [decide_eq_false (by omega)]; rfl
        simp only [k15_r0_e, k15_r1_e, k15_r2_e, k15_r3_e, k15_e, WK0, WK1, WK2, WK3, WK4, WK5, true_implies, vop, evAll, evOpt, evParts, vbuiltin, vun, vextract, Option.map_some, Option.map_none, Nat.reduceLT, Nat.reduceEqDiff, ↓reduceIte, reduceCtorEq, Nat.reduceAdd, Int.reduceLT, Int.reduceNeg, decide_true, decide_false, Bool.not_true, Bool.not_false, ne_eq, not_true_eq_false, not_false_eq_true, List.append_nil, Bool.false_eq_true, List.getElem?_cons_zero, List.getElem?_cons_succ, and_self, and_true, true_and, List.getD_cons_zero, List.getD_cons_succ, vbox, vcells, ← hσ1, hs1, hs2, ofVal_nil, hE]
        exact ⟨_, rfl, hk1, BtsV.nil⟩
      · obtain ⟨σ2, hd2, hk2⟩ := goodlog_does (size := size) hw hl σ1
        have q2 : IsL σ2 σ.objs.length l w := hk2.atL q1
        have hE : encOk l size = lgOk l size := by unfold encOk; rw [decide_eq_true (by omega)]; rfl
        rw [hE]
        simp only [k15_r0_e, k15_r1_e, k15_r2_e, k15_r3_e, k15_e, WK0, WK1, WK2, WK3, WK4, WK5, true_implies, vop, evAll, evOpt, evParts, vbuiltin, vun, vextract, Option.map_some, Option.map_none, Nat.reduceLT, Nat.reduceEqDiff, ↓reduceIte, reduceCtorEq, Nat.reduceAdd, Int.reduceLT, Int.reduceNeg, decide_true, decide_false, Bool.not_true, Bool.not_false, ne_eq, not_true_eq_false, not_false_eq_true, List.append_nil, Bool.false_eq_true, List.getElem?_cons_zero, List.getElem?_cons_succ, and_self, and_true, true_and, List.getD_cons_zero, List.getD_cons_succ, vbox, vcells, ← hσ1, hs1, hs2, q1.load]
        refine KD.ret hd2 ?_
        cases hok : lgOk l size with
        | false =>
          simp only [k15_r0_e, k15_r1_e, k15_r2_e, k15_r3_e, k15_e, WK0, WK1, WK2, WK3, WK4, WK5, true_implies, vop, evAll, evOpt, evParts, vbuiltin, vun, vextract, Option.map_some, Option.map_none, Nat.reduceLT, Nat.reduceEqDiff, ↓reduceIte, reduceCtorEq, Nat.reduceAdd, Int.reduceLT, Int.reduceNeg, decide_true, decide_false, Bool.not_true, Bool.not_false, ne_eq, not_true_eq_false, not_false_eq_true, List.append_nil, Bool.false_eq_true, List.getElem?_cons_zero, List.getElem?_cons_succ, and_self, and_true, true_and, ofVal_nil]
          exact ⟨_, rfl, hk1.trans hk2, BtsV.nil⟩
        | true =>
          have hIn := headL_in hok (by omega)
          obtain ⟨p1, p2, p3⟩ := lgOk_parts hok
          obtain ⟨b4, hb4, hb4i⟩ := buildInts4 (hIn l.term (by simp [headL])).2 (hIn (l.vote + 1) (by simp [headL])).2 (hIn l.base (by simp [headL])).2 (hIn l.bterm (by simp [headL])).2
          have wv : IntKind.i64.wrap (l.vote + 1) = l.vote + 1 := wrap_i64 (by omega) (by omega)
          obtain ⟨r3, σ3, hd3, hk3, ho3⟩ := put_does BtsV.nil hb4i (by simp) σ2
          rw [List.nil_append] at ho3
          have q3 := hk3.atL q2
          have hpl := putS_len hb4i.2
          simp only [List.length_cons, List.length_nil] at hpl
          obtain ⟨r4, σ4, hd4, hk4, ho4⟩ := run21_does ho3.bts l.book (by omega) σ3
          have q4 := hk4.atL q3
          have hrl := putN_nat_len (n := l.book.length) (by omega)
          obtain ⟨r5, σ5, hd5, hk5, ho5⟩ := items_does ho4.bts hw hin (by simp only [List.length_append, runS]; omega) σ4
          simp only [k15_r0_e, k15_r1_e, k15_r2_e, k15_r3_e, k15_e, WK0, WK1, WK2, WK3, WK4, WK5, true_implies, vop, evAll, evOpt, evParts, vbuiltin, vun, vextract, Option.map_some, Option.map_none, Nat.reduceLT, Nat.reduceEqDiff, ↓reduceIte, reduceCtorEq, Nat.reduceAdd, Int.reduceLT, Int.reduceNeg, decide_true, decide_false, Bool.not_true, Bool.not_false, ne_eq, not_true_eq_false, not_false_eq_true, List.append_nil, Bool.false_eq_true, List.getElem?_cons_zero, List.getElem?_cons_succ, and_self, and_true, true_and, FL0, FL1, FL2, FL3, FL4, FL5, q2.i, q2.s, q2.r, lgC0, lgC1, lgC2, lgC3, lgC4, lgC5, wv, hb4, ofVal_nil]
          refine KD.ret hd3 ?_
          simp only [k15_r0_e, k15_r1_e, k15_r2_e, k15_r3_e, k15_e, WK0, WK1, WK2, WK3, WK4, WK5, true_implies, vop, evAll, evOpt, evParts, vbuiltin, vun, vextract, Option.map_some, Option.map_none, Nat.reduceLT, Nat.reduceEqDiff, ↓reduceIte, reduceCtorEq, Nat.reduceAdd, Int.reduceLT, Int.reduceNeg, decide_true, decide_false, Bool.not_true, Bool.not_false, ne_eq, not_true_eq_false, not_false_eq_true, List.append_nil, Bool.false_eq_true, List.getElem?_cons_zero, List.getElem?_cons_succ, and_self, and_true, true_and, FL0, FL1, FL2, FL3, FL4, FL5, q2.i, q2.s, q2.r, q3.i, q3.s, q3.r, lgC0, lgC1, lgC2, lgC3, lgC4, lgC5]
          refine KD.ret hd4 ?_
          simp only [k15_r0_e, k15_r1_e, k15_r2_e, k15_r3_e, k15_e, WK0, WK1, WK2, WK3, WK4, WK5, true_implies, vop, evAll, evOpt, evParts, vbuiltin, vun, vextract, Option.map_some, Option.map_none, Nat.reduceLT, Nat.reduceEqDiff, ↓reduceIte, reduceCtorEq, Nat.reduceAdd, Int.reduceLT, Int.reduceNeg, decide_true, decide_false, Bool.not_true, Bool.not_false, ne_eq, not_true_eq_false, not_false_eq_true, List.append_nil, Bool.false_eq_true, List.getElem?_cons_zero, List.getElem?_cons_succ, and_self, and_true, true_and, FL0, FL1, FL2, FL3, FL4, FL5, q2.i, q2.s, q2.r, q3.i, q3.s, q3.r, q4.i, q4.s, q4.r, lgC0, lgC1, lgC2, lgC3, lgC4, lgC5]
          refine KD.ret hd5 ?_
          simp only [k15_r0_e, k15_r1_e, k15_r2_e, k15_r3_e, k15_e, WK0, WK1, WK2, WK3, WK4, WK5, true_implies, vop, evAll, evOpt, evParts, vbuiltin, vun, vextract, Option.map_some, Option.map_none, Nat.reduceLT, Nat.reduceEqDiff, ↓reduceIte, reduceCtorEq, Nat.reduceAdd, Int.reduceLT, Int.reduceNeg, decide_true, decide_false, Bool.not_true, Bool.not_false, ne_eq, not_true_eq_false, not_false_eq_true, List.append_nil, Bool.false_eq_true, List.getElem?_cons_zero, List.getElem?_cons_succ, and_self, and_true, true_and, FL0, FL1, FL2, FL3, FL4, FL5, q2.i, q2.s, q2.r, q3.i, q3.s, q3.r, q4.i, q4.s, q4.r, lgC0, lgC1, lgC2, lgC3, lgC4, lgC5]
          exact ⟨_, rfl, (((hk1.trans hk2).trans hk3).trans hk4).trans hk5, ho5.bts⟩
  obtain ⟨q, σ', h1, r, rfl, h2, h3⟩ := key
  exact ⟨r, σ', h1, h2, h3⟩

theorem refencode21_does {l : Lg} {w : V} {size : Int} (hw : ItemsV w l.items) (hin : ItmsIn l.items) (hl : l.items.length ≤ 4294967296) (hbl : l.book.length ≤ 4294967296) (σ : St) :
    ∃ r σ', Does Try.prog noPrim 19 [.agg (lgCells l w), .int .i64 size] σ (.ret (.tuple [r, .int .i64 (if encOk l size then 0 else 1)])) σ' ∧ Keep σ σ' ∧ BtsV r (if encOk l size then lgB l else []) := by
  have key : ∃ q σ', Does Try.prog noPrim 19 [.agg (lgCells l w), .int .i64 size] σ q σ' ∧ ∃ r, q = .ret (.tuple [r, .int .i64 (if encOk l size then 0 else 1)]) ∧ Keep σ σ' ∧ BtsV r (if encOk l size then lgB l else []) := by
    apply k19_is.does (by simp)
    obtain ⟨σ1, hσ1⟩ : ∃ σ1 : St, σ1 = ⟨σ.objs ++ [Ob.cells (lgCells l w)], σ.toks⟩ := ⟨_, rfl⟩
    have hk1 : Keep σ σ1 := by rw [hσ1]; exact (Keep.refl σ).push _
    have q1 : IsL σ1 σ.objs.length l w := by rw [hσ1]; exact push_new _ _
    by_cases hs1 : size < 1
    · have hE : encOk l size = false := by unfold encOk; rw [decide_eq_false (by omega)]; rfl
      simp only [k19_r0_e, k19_r1_e, k19_r2_e, k19_r3_e, k19_r4_e, k19_r5_e, k19_r6_e, k19_r7_e, k19_e, WK0, WK1, WK2, WK3, WK4, WK5, true_implies, vop, evAll, evOpt, evParts, vbuiltin, vun, vextract, Option.map_some, Option.map_none, Nat.reduceLT, Nat.reduceEqDiff, ↓reduceIte, reduceCtorEq, Nat.reduceAdd, Int.reduceLT, Int.reduceNeg, decide_true, decide_false, Bool.not_true, Bool.not_false, ne_eq, not_true_eq_false, not_false_eq_true, List.append_nil, Bool.false_eq_true, List.getElem?_cons_zero, List.getElem?_cons_succ, and_self, and_true, true_and, List.getD_cons_zero, List.getD_cons_succ, vbox, vcells, ← hσ1, hs1, ofVal_nil, hE]
      exact ⟨_, rfl, hk1, BtsV.nil⟩
    · by_cases hs2 : 7 < size
      · have hE : encOk l size = false := by unfold encOk; rw [decide_eq_false (by omega)]; rfl
        simp only [k19_r0_e, k19_r1_e, k19_r2_e, k19_r3_e, k19_r4_e, k19_r5_e, k19_r6_e, k19_r7_e, k19_e, WK0, WK1, WK2, WK3, WK4, WK5, true_implies, vop, evAll, evOpt, evParts, vbuiltin, vun, vextract, Option.map_some, Option.map_none, Nat.reduceLT, Nat.reduceEqDiff, ↓reduceIte, reduceCtorEq, Nat.reduceAdd, Int.reduceLT, Int.reduceNeg, decide_true, decide_false, Bool.not_true, Bool.not_false, ne_eq, not_true_eq_false, not_false_eq_true, List.append_nil, Bool.false_eq_true, List.getElem?_cons_zero, List.getElem?_cons_succ, and_self, and_true, true_and, List.getD_cons_zero, List.getD_cons_succ, vbox, vcells, ← hσ1, hs1, hs2, ofVal_nil, hE]
        exact ⟨_, rfl, hk1, BtsV.nil⟩
      · obtain ⟨σ2, hd2, hk2⟩ := refgoodlog_does (size := size) hw hl σ1
        have q2 : IsL σ2 σ.objs.length l w := hk2.atL q1
        have hE : encOk l size = lgOk l size := by unfold encOk; rw [decide_eq_true (by omega)]; rfl
        rw [hE]
        simp only [k19_r0_e, k19_r1_e, k19_r2_e, k19_r3_e, k19_r4_e, k19_r5_e, k19_r6_e, k19_r7_e, k19_e, WK0, WK1, WK2, WK3, WK4, WK5, true_implies, vop, evAll, evOpt, evParts, vbuiltin, vun, vextract, Option.map_some, Option.map_none, Nat.reduceLT, Nat.reduceEqDiff, ↓reduceIte, reduceCtorEq, Nat.reduceAdd, Int.reduceLT, Int.reduceNeg, decide_true, decide_false, Bool.not_true, Bool.not_false, ne_eq, not_true_eq_false, not_false_eq_true, List.append_nil, Bool.false_eq_true, List.getElem?_cons_zero, List.getElem?_cons_succ, and_self, and_true, true_and, List.getD_cons_zero, List.getD_cons_succ, vbox, vcells, ← hσ1, hs1, hs2, q1.load]
        refine KD.ret hd2 ?_
        cases hok : lgOk l size with
        | false =>
          simp only [k19_r0_e, k19_r1_e, k19_r2_e, k19_r3_e, k19_r4_e, k19_r5_e, k19_r6_e, k19_r7_e, k19_e, WK0, WK1, WK2, WK3, WK4, WK5, true_implies, vop, evAll, evOpt, evParts, vbuiltin, vun, vextract, Option.map_some, Option.map_none, Nat.reduceLT, Nat.reduceEqDiff, ↓reduceIte, reduceCtorEq, Nat.reduceAdd, Int.reduceLT, Int.reduceNeg, decide_true, decide_false, Bool.not_true, Bool.not_false, ne_eq, not_true_eq_false, not_false_eq_true, List.append_nil, Bool.false_eq_true, List.getElem?_cons_zero, List.getElem?_cons_succ, and_self, and_true, true_and, ofVal_nil]
          exact ⟨_, rfl, hk1.trans hk2, BtsV.nil⟩
        | true =>
          have hIn := headL_in hok (by omega)
          obtain ⟨p1, p2, p3⟩ := lgOk_parts hok
          have wv : IntKind.i64.wrap (l.vote + 1) = l.vote + 1 := wrap_i64 (by omega) (by omega)
          have i0 := (hIn l.term (by simp [headL])).2
          have i1 := (hIn (l.vote + 1) (by simp [headL])).2
          have i2 := (hIn l.base (by simp [headL])).2
          have i3 := (hIn l.bterm (by simp [headL])).2
          have pl : ∀ {x : Int}, InI64 x → (putN x.toNat).length ≤ 9 := fun {x} h => putN_nat_len (by unfold InI64 at h; omega)
          have l0 := pl i0
          have l1 := pl i1
          have l2 := pl i2
          have l3 := pl i3
          obtain ⟨a0, s0, d0, k0, e0⟩ := refput_does BtsV.nil i0 (by simp) σ2
          obtain ⟨a1, s1, d1, k1, e1⟩ := refput_does e0.bts i1 (by simp only [List.length_append, List.length_nil]; omega) s0
          obtain ⟨a2, s2, d2, k2, e2⟩ := refput_does e1.bts i2 (by simp only [List.length_append, List.length_nil]; omega) s1
          obtain ⟨a3, s3, d3, k3, e3⟩ := refput_does e2.bts i3 (by simp only [List.length_append, List.length_nil]; omega) s2
          have q3 := k0.atL q2
          have q4 := k1.atL q3
          have q5 := k2.atL q4
          have q6 := k3.atL q5
          obtain ⟨r4, σ4, hd4, hk4, ho4⟩ := refrun21_does e3.bts l.book (by simp only [List.length_append, List.length_nil]; omega) s3
          have q7 := hk4.atL q6
          have hrl := putN_nat_len (n := l.book.length) (by omega)
          obtain ⟨r5, σ5, hd5, hk5, ho5⟩ := refitems_does ho4.bts hw hin (by simp only [List.length_append, List.length_nil, runS]; omega) σ4
          simp only [k19_r0_e, k19_r1_e, k19_r2_e, k19_r3_e, k19_r4_e, k19_r5_e, k19_r6_e, k19_r7_e, k19_e, WK0, WK1, WK2, WK3, WK4, WK5, true_implies, vop, evAll, evOpt, evParts, vbuiltin, vun, vextract, Option.map_some, Option.map_none, Nat.reduceLT, Nat.reduceEqDiff, ↓reduceIte, reduceCtorEq, Nat.reduceAdd, Int.reduceLT, Int.reduceNeg, decide_true, decide_false, Bool.not_true, Bool.not_false, ne_eq, not_true_eq_false, not_false_eq_true, List.append_nil, Bool.false_eq_true, List.getElem?_cons_zero, List.getElem?_cons_succ, and_self, and_true, true_and, FL0, FL1, FL2, FL3, FL4, FL5, q2.i, lgC0, lgC1, lgC2, lgC3, lgC4, lgC5, ofVal_nil]
          refine KD.ret d0 ?_
          simp only [k19_r0_e, k19_r1_e, k19_r2_e, k19_r3_e, k19_r4_e, k19_r5_e, k19_r6_e, k19_r7_e, k19_e, WK0, WK1, WK2, WK3, WK4, WK5, true_implies, vop, evAll, evOpt, evParts, vbuiltin, vun, vextract, Option.map_some, Option.map_none, Nat.reduceLT, Nat.reduceEqDiff, ↓reduceIte, reduceCtorEq, Nat.reduceAdd, Int.reduceLT, Int.reduceNeg, decide_true, decide_false, Bool.not_true, Bool.not_false, ne_eq, not_true_eq_false, not_false_eq_true, List.append_nil, Bool.false_eq_true, List.getElem?_cons_zero, List.getElem?_cons_succ, and_self, and_true, true_and, FL0, FL1, FL2, FL3, FL4, FL5, q3.i, lgC0, lgC1, lgC2, lgC3, lgC4, lgC5, wv]
          refine KD.ret d1 ?_
          simp only [k19_r0_e, k19_r1_e, k19_r2_e, k19_r3_e, k19_r4_e, k19_r5_e, k19_r6_e, k19_r7_e, k19_e, WK0, WK1, WK2, WK3, WK4, WK5, true_implies, vop, evAll, evOpt, evParts, vbuiltin, vun, vextract, Option.map_some, Option.map_none, Nat.reduceLT, Nat.reduceEqDiff, ↓reduceIte, reduceCtorEq, Nat.reduceAdd, Int.reduceLT, Int.reduceNeg, decide_true, decide_false, Bool.not_true, Bool.not_false, ne_eq, not_true_eq_false, not_false_eq_true, List.append_nil, Bool.false_eq_true, List.getElem?_cons_zero, List.getElem?_cons_succ, and_self, and_true, true_and, FL0, FL1, FL2, FL3, FL4, FL5, q4.i, lgC0, lgC1, lgC2, lgC3, lgC4, lgC5]
          refine KD.ret d2 ?_
          simp only [k19_r0_e, k19_r1_e, k19_r2_e, k19_r3_e, k19_r4_e, k19_r5_e, k19_r6_e, k19_r7_e, k19_e, WK0, WK1, WK2, WK3, WK4, WK5, true_implies, vop, evAll, evOpt, evParts, vbuiltin, vun, vextract, Option.map_some, Option.map_none, Nat.reduceLT, Nat.reduceEqDiff, ↓reduceIte, reduceCtorEq, Nat.reduceAdd, Int.reduceLT, Int.reduceNeg, decide_true, decide_false, Bool.not_true, Bool.not_false, ne_eq, not_true_eq_false, not_false_eq_true, List.append_nil, Bool.false_eq_true, List.getElem?_cons_zero, List.getElem?_cons_succ, and_self, and_true, true_and, FL0, FL1, FL2, FL3, FL4, FL5, q5.i, lgC0, lgC1, lgC2, lgC3, lgC4, lgC5]
          refine KD.ret d3 ?_
          simp only [k19_r0_e, k19_r1_e, k19_r2_e, k19_r3_e, k19_r4_e, k19_r5_e, k19_r6_e, k19_r7_e, k19_e, WK0, WK1, WK2, WK3, WK4, WK5, true_implies, vop, evAll, evOpt, evParts, vbuiltin, vun, vextract, Option.map_some, Option.map_none, Nat.reduceLT, Nat.reduceEqDiff, ↓reduceIte, reduceCtorEq, Nat.reduceAdd, Int.reduceLT, Int.reduceNeg, decide_true, decide_false, Bool.not_true, Bool.not_false, ne_eq, not_true_eq_false, not_false_eq_true, List.append_nil, Bool.false_eq_true, List.getElem?_cons_zero, List.getElem?_cons_succ, and_self, and_true, true_and, FL0, FL1, FL2, FL3, FL4, FL5, q6.s, q6.r, q7.r, lgC0, lgC1, lgC2, lgC3, lgC4, lgC5]
          refine KD.ret hd4 ?_
          simp only [k19_r0_e, k19_r1_e, k19_r2_e, k19_r3_e, k19_r4_e, k19_r5_e, k19_r6_e, k19_r7_e, k19_e, WK0, WK1, WK2, WK3, WK4, WK5, true_implies, vop, evAll, evOpt, evParts, vbuiltin, vun, vextract, Option.map_some, Option.map_none, Nat.reduceLT, Nat.reduceEqDiff, ↓reduceIte, reduceCtorEq, Nat.reduceAdd, Int.reduceLT, Int.reduceNeg, decide_true, decide_false, Bool.not_true, Bool.not_false, ne_eq, not_true_eq_false, not_false_eq_true, List.append_nil, Bool.false_eq_true, List.getElem?_cons_zero, List.getElem?_cons_succ, and_self, and_true, true_and, FL0, FL1, FL2, FL3, FL4, FL5, q6.s, q6.r, q7.r, lgC0, lgC1, lgC2, lgC3, lgC4, lgC5]
          refine KD.ret hd5 ?_
          simp only [k19_r0_e, k19_r1_e, k19_r2_e, k19_r3_e, k19_r4_e, k19_r5_e, k19_r6_e, k19_r7_e, k19_e, WK0, WK1, WK2, WK3, WK4, WK5, true_implies, vop, evAll, evOpt, evParts, vbuiltin, vun, vextract, Option.map_some, Option.map_none, Nat.reduceLT, Nat.reduceEqDiff, ↓reduceIte, reduceCtorEq, Nat.reduceAdd, Int.reduceLT, Int.reduceNeg, decide_true, decide_false, Bool.not_true, Bool.not_false, ne_eq, not_true_eq_false, not_false_eq_true, List.append_nil, Bool.false_eq_true, List.getElem?_cons_zero, List.getElem?_cons_succ, and_self, and_true, true_and, FL0, FL1, FL2, FL3, FL4, FL5, q6.s, q6.r, q7.r, lgC0, lgC1, lgC2, lgC3, lgC4, lgC5]
          refine ⟨_, rfl, ((((((hk1.trans hk2).trans k0).trans k1).trans k2).trans k3).trans hk4).trans hk5, ?_⟩
          have hE : lgB l = [] ++ putN l.term.toNat ++ putN (l.vote + 1).toNat ++ putN l.base.toNat ++ putN l.bterm.toNat ++ runS l.book ++ itemsS l.items := by simp [lgB, headL, putS]
          rw [hE]
          exact ho5.bts
  obtain ⟨q, σ', h1, r, rfl, h2, h3⟩ := key
  exact ⟨r, σ', h1, h2, h3⟩

def I14h (σ0 : St) (l : Lg) : Nat → (Nat → V) → St → Prop := fun i e σ => e 12 = .int .i64 i ∧ i ≤ l.items.length ∧ (∃ n : Int, e 3 = .int .i64 n ∧ 0 ≤ n ∧ n ≤ 4294967296) ∧ Keep σ0 σ

theorem heavy21_does {l : Lg} {w : V} (hw : ItemsV w l.items) (hin : ∀ x ∈ l.items, x.ent.data.length ≤ 1048600) (hl : l.items.length ≤ 1048600) (hbl : l.book.length ≤ 1048600) (σ : St) :
    ∃ b σ', Does Try.prog noPrim 14 [.agg (lgCells l w)] σ (.ret (.bool b)) σ' ∧ Keep σ σ' := by
  have key : ∃ q σ', Does Try.prog noPrim 14 [.agg (lgCells l w)] σ q σ' ∧ ∃ b, q = .ret (.bool b) ∧ Keep σ σ' := by
    apply k14_is.does (by simp)
    obtain ⟨σ1, hσ1⟩ : ∃ σ1 : St, σ1 = ⟨σ.objs ++ [Ob.cells (lgCells l w)], σ.toks⟩ := ⟨_, rfl⟩
    have hk1 : Keep σ σ1 := by rw [hσ1]; exact (Keep.refl σ).push _
    have q1 : IsL σ1 σ.objs.length l w := by rw [hσ1]; exact push_new _ _
    simp only [k14_r0_e, k14_r1_e, k14_r2_e, k14_r3_e, k14_r4_e, k14_r5_e, k14_r6_e, k14_r7_e, k14_r8_e, k14_l0_e, k14_r9_e, k14_e, WK0, WK1, WK2, WK3, WK4, WK5, true_implies, vop, evAll, evOpt, evParts, vbuiltin, vun, vextract, Option.map_some, Option.map_none, Nat.reduceLT, Nat.reduceEqDiff, ↓reduceIte, reduceCtorEq, Nat.reduceAdd, Int.reduceLT, Int.reduceNeg, decide_true, decide_false, Bool.not_true, Bool.not_false, ne_eq, not_true_eq_false, not_false_eq_true, List.append_nil, Bool.false_eq_true, List.getElem?_cons_zero, List.getElem?_cons_succ, and_self, and_true, true_and, List.getD_cons_zero, vbox, vcells, ← hσ1, FL4, FL5, q1.s, q1.r, lgC4, lgC5, vlen_str T9, hw.len]
    refine Ev.loopF (I14h σ l) (fun i => l.items.length - i) 0 ⟨by simp [upd_some], by simp, ⟨l.book.length, by simp [upd_some], by omega, by omega⟩, hk1⟩ ?_
    rintro i e σ2 ⟨h12, hi, ⟨n, h3, hn0, hn1⟩, hk⟩ hf
    have h10 : e 10 = w := (hf 10 (by decide)).trans (by simp [upd_some])
    have h11 : e 11 = .int .i64 l.items.length := (hf 11 (by decide)).trans (by simp [upd_some])
    clear hf
    by_cases hlt : i < l.items.length
    · have hlt' : (i : Int) < (l.items.length : Int) := by omega
      have hwi : IntKind.i64.wrap ((i : Int) + 1) = ((i + 1 : Nat) : Int) := by rw [show ((i : Int) + 1) = ((i + 1 : Nat) : Int) from by omega]; exact wrap_nat (by omega)
      have hd := hin _ (List.getElem_mem hlt)
      have hw1 : IntKind.i64.wrap (1 + (l.items[i].ent.data.length : Int)) = 1 + (l.items[i].ent.data.length : Int) := wrap_i64 (by omega) (by omega)
      have hw2 : IntKind.i64.wrap (n + (1 + (l.items[i].ent.data.length : Int))) = n + (1 + (l.items[i].ent.data.length : Int)) := wrap_i64 (by omega) (by omega)
      have hq := IsI.made (σ := σ2) (o := itm0) (x := l.items[i])
      obtain ⟨σ3, hσ3⟩ : ∃ σ3 : St, σ3 = ⟨(σ2.objs ++ [Ob.cells (itmCells itm0)]).set σ2.objs.length (Ob.cells (itmCells l.items[i])), σ2.toks⟩ := ⟨_, rfl⟩
      have hk3 : Keep σ2 σ3 := by rw [hσ3]; exact (Keep.refl σ2).made _ _
      rw [← hσ3] at hq
      have hds : vload Try.prog σ3.objs 9 (.optr σ2.objs.length 5) = some (.str l.items[i].ent.data) := by rw [vload_obj hq G9]; rfl
      by_cases hbig : (16384 : Int) < n + (1 + (l.items[i].ent.data.length : Int))
      · simp only [k14_r0_e, k14_r1_e, k14_r2_e, k14_r3_e, k14_r4_e, k14_r5_e, k14_r6_e, k14_r7_e, k14_r8_e, k14_l0_e, k14_r9_e, k14_e, WK0, WK1, WK2, WK3, WK4, WK5, true_implies, vop, evAll, evOpt, evParts, vbuiltin, vun, vextract, Option.map_some, Option.map_none, Nat.reduceLT, Nat.reduceEqDiff, ↓reduceIte, reduceCtorEq, Nat.reduceAdd, Int.reduceLT, Int.reduceNeg, decide_true, decide_false, Bool.not_true, Bool.not_false, ne_eq, not_true_eq_false, not_false_eq_true, List.append_nil, Bool.false_eq_true, List.getElem?_cons_zero, List.getElem?_cons_succ, and_self, and_true, true_and, h3, h10, h11, h12, hlt', hw.addr hlt, ItemsV.load hlt, Z66, vbox, vcells, IsI.new, FI1, FE4, ← hσ3, hds, vlen_str T9, hw1, hw2, hbig]
        exact ⟨_, rfl, hk.trans hk3⟩
      · simp only [k14_r0_e, k14_r1_e, k14_r2_e, k14_r3_e, k14_r4_e, k14_r5_e, k14_r6_e, k14_r7_e, k14_r8_e, k14_l0_e, k14_r9_e, k14_e, WK0, WK1, WK2, WK3, WK4, WK5, true_implies, vop, evAll, evOpt, evParts, vbuiltin, vun, vextract, Option.map_some, Option.map_none, Nat.reduceLT, Nat.reduceEqDiff, ↓reduceIte, reduceCtorEq, Nat.reduceAdd, Int.reduceLT, Int.reduceNeg, decide_true, decide_false, Bool.not_true, Bool.not_false, ne_eq, not_true_eq_false, not_false_eq_true, List.append_nil, Bool.false_eq_true, List.getElem?_cons_zero, List.getElem?_cons_succ, and_self, and_true, true_and, h3, h10, h11, h12, hlt', hw.addr hlt, ItemsV.load hlt, Z66, vbox, vcells, IsI.new, FI1, FE4, ← hσ3, hds, vlen_str T9, hw1, hw2, hbig, hwi]
        refine ⟨i + 1, ⟨by simp [upd_some], hlt, ⟨_, by simp [upd_some]; rfl, by omega, by omega⟩, hk.trans hk3⟩, by omega⟩
    · have hlt' : ¬ (i : Int) < (l.items.length : Int) := by omega
      simp only [k14_r0_e, k14_r1_e, k14_r2_e, k14_r3_e, k14_r4_e, k14_r5_e, k14_r6_e, k14_r7_e, k14_r8_e, k14_l0_e, k14_r9_e, k14_e, WK0, WK1, WK2, WK3, WK4, WK5, true_implies, vop, evAll, evOpt, evParts, vbuiltin, vun, vextract, Option.map_some, Option.map_none, Nat.reduceLT, Nat.reduceEqDiff, ↓reduceIte, reduceCtorEq, Nat.reduceAdd, Int.reduceLT, Int.reduceNeg, decide_true, decide_false, Bool.not_true, Bool.not_false, ne_eq, not_true_eq_false, not_false_eq_true, List.append_nil, Bool.false_eq_true, List.getElem?_cons_zero, List.getElem?_cons_succ, and_self, and_true, true_and, h3, h10, h11, h12, hlt']
      exact ⟨_, rfl, hk⟩
  obtain ⟨q, σ', h1, b, rfl, h3⟩ := key
  exact ⟨b, σ', h1, h3⟩

def lg0 : Lg := ⟨0, 0, 0, 0, [], []⟩
def lgE : Lg := ⟨0, -1, 0, 0, [], []⟩
def lgW : Lg := ⟨2, 1, 0, 0, [], []⟩
theorem ZL : zeroT Try.prog 33 = some (.agg (lgCells lg0 .nils)) := by kernel_rfl
theorem BL0 : vbuild Try.prog 33 [] = some (.agg (lgCells lg0 .nils)) := by kernel_rfl
theorem BLE : vbuild Try.prog 33 [(1, .int .i64 (-1))] = some (.agg (lgCells lgE .nils)) := by kernel_rfl
theorem BLW : vbuild Try.prog 33 [(0, .int .i64 2), (1, .int .i64 1)] = some (.agg (lgCells lgW .nils)) := by kernel_rfl
theorem lgCells_one {l : Lg} {w : V} (h : one w = true) : (lgCells l w).all one = true := by
  simp only [lgCells, List.all_cons, List.all_nil, h]
  rfl
theorem IsL.new {σ : St} {o l : Lg} {u w : V} (h : one w = true) : vstore Try.prog ⟨σ.objs ++ [Ob.cells (lgCells o u)], σ.toks⟩ 33 (.optr σ.objs.length 0) (.agg (lgCells l w)) = some ⟨(σ.objs ++ [Ob.cells (lgCells o u)]).set σ.objs.length (Ob.cells (lgCells l w)), σ.toks⟩ :=
  vstore_agg (push_new _ _) SL rfl (lgCells_one h)
theorem IsL.made {σ : St} {o l : Lg} {u w : V} : IsL ⟨(σ.objs ++ [Ob.cells (lgCells o u)]).set σ.objs.length (Ob.cells (lgCells l w)), σ.toks⟩ σ.objs.length l w := obj_set (push_new _ _)
theorem Keep.madeL {σ0 σ : St} (h : Keep σ0 σ) (o l : Lg) (u w : V) : Keep σ0 ⟨(σ.objs ++ [Ob.cells (lgCells o u)]).set σ.objs.length (Ob.cells (lgCells l w)), σ.toks⟩ :=
  h.trans (((Keep.refl σ).push (.cells (lgCells o u))).setNew (Nat.le_refl _) _)

theorem empty_does (σ : St) : ∃ σ', Does Try.prog noPrim 42 [] σ (.ret (.agg (lgCells lgE .nils))) σ' ∧ Keep σ σ' := by
  have key : ∃ q σ', Does Try.prog noPrim 42 [] σ q σ' ∧ q = .ret (.agg (lgCells lgE .nils)) ∧ Keep σ σ' := by
    apply k42_is.does (by simp)
    have hq := IsL.made (σ := σ) (o := lg0) (l := lgE) (u := .nils) (w := .nils)
    have hl := hq.load
    simp only [k42_r0_e, k42_r1_e, k42_e, WK0, WK1, WK2, WK3, WK4, WK5, true_implies, vop, evAll, evOpt, evParts, vbuiltin, vun, vextract, Option.map_some, Option.map_none, Nat.reduceLT, Nat.reduceEqDiff, ↓reduceIte, reduceCtorEq, Nat.reduceAdd, Int.reduceLT, Int.reduceNeg, decide_true, decide_false, Bool.not_true, Bool.not_false, ne_eq, not_true_eq_false, not_false_eq_true, List.append_nil, Bool.false_eq_true, List.getElem?_cons_zero, List.getElem?_cons_succ, and_self, and_true, true_and, ZL, BLE, vbox, vcells, IsL.new (show one V.nils = true from rfl), hl]
    exact (Keep.refl σ).madeL _ _ _ _
  obtain ⟨q, σ', h1, rfl, h3⟩ := key
  exact ⟨σ', h1, h3⟩

theorem lgE_B : lgB lgE = [0, 0, 0, 0, 0, 0] := by
  have h : ∀ n : Nat, ¬ 127 < n → putN n = [UInt8.ofNat n] := fun n h => putN_small h
  simp [lgB, headL, lgE, putS, itemsS, runS, h]
theorem lgW_B : lgB lgW = [2, 2, 0, 0, 0, 0] := by
  have h : ∀ n : Nat, ¬ 127 < n → putN n = [UInt8.ofNat n] := fun n h => putN_small h
  simp [lgB, headL, lgW, putS, itemsS, runS, h]
theorem wakes21_does (σ : St) : ∃ σ', Does Try.prog noPrim 13 [] σ (.ret (.bool true)) σ' ∧ Keep σ σ' := by
  have key : ∃ q σ', Does Try.prog noPrim 13 [] σ q σ' ∧ q = .ret (.bool true) ∧ Keep σ σ' := by
    apply k13_is.does (by simp)
    obtain ⟨s1, d1, k1⟩ := empty_does σ
    obtain ⟨r2, s2, d2, k2, e2⟩ := encode21_does (l := lgE) (w := .nils) (size := 3) ItemsV.nil (by simp [ItmsIn, lgE]) (by simp [lgE]) (by simp [lgE]) s1
    obtain ⟨r3, s3, d3, k3, e3⟩ := encode21_does (l := lgW) (w := .nils) (size := 3) ItemsV.nil (by simp [ItmsIn, lgW]) (by simp [lgW]) (by simp [lgW]) s2
    rw [show encOk lgE 3 = true by decide] at d2 e2
    rw [show encOk lgW 3 = true by decide] at d3 e3
    simp only [if_true] at d2 e2 d3 e3
    rw [lgE_B] at e2
    rw [lgW_B] at e3
    simp only [k13_r0_e, k13_r1_e, k13_r2_e, k13_r3_e, k13_e, WK0, WK1, WK2, WK3, WK4, WK5, true_implies, vop, evAll, evOpt, evParts, vbuiltin, vun, vextract, Option.map_some, Option.map_none, Nat.reduceLT, Nat.reduceEqDiff, ↓reduceIte, reduceCtorEq, Nat.reduceAdd, Int.reduceLT, Int.reduceNeg, decide_true, decide_false, Bool.not_true, Bool.not_false, ne_eq, not_true_eq_false, not_false_eq_true, List.append_nil, Bool.false_eq_true, List.getElem?_cons_zero, List.getElem?_cons_succ, and_self, and_true, true_and]
    refine KD.ret d1 ?_
    simp only [k13_r0_e, k13_r1_e, k13_r2_e, k13_r3_e, k13_e, WK0, WK1, WK2, WK3, WK4, WK5, true_implies, vop, evAll, evOpt, evParts, vbuiltin, vun, vextract, Option.map_some, Option.map_none, Nat.reduceLT, Nat.reduceEqDiff, ↓reduceIte, reduceCtorEq, Nat.reduceAdd, Int.reduceLT, Int.reduceNeg, decide_true, decide_false, Bool.not_true, Bool.not_false, ne_eq, not_true_eq_false, not_false_eq_true, List.append_nil, Bool.false_eq_true, List.getElem?_cons_zero, List.getElem?_cons_succ, and_self, and_true, true_and]
    refine KD.ret d2 ?_
    simp only [k13_r0_e, k13_r1_e, k13_r2_e, k13_r3_e, k13_e, WK0, WK1, WK2, WK3, WK4, WK5, true_implies, vop, evAll, evOpt, evParts, vbuiltin, vun, vextract, Option.map_some, Option.map_none, Nat.reduceLT, Nat.reduceEqDiff, ↓reduceIte, reduceCtorEq, Nat.reduceAdd, Int.reduceLT, Int.reduceNeg, decide_true, decide_false, Bool.not_true, Bool.not_false, ne_eq, not_true_eq_false, not_false_eq_true, List.append_nil, Bool.false_eq_true, List.getElem?_cons_zero, List.getElem?_cons_succ, and_self, and_true, true_and, BLW]
    refine KD.ret d3 ?_
    simp only [k13_r0_e, k13_r1_e, k13_r2_e, k13_r3_e, k13_e, WK0, WK1, WK2, WK3, WK4, WK5, true_implies, vop, evAll, evOpt, evParts, vbuiltin, vun, vextract, Option.map_some, Option.map_none, Nat.reduceLT, Nat.reduceEqDiff, ↓reduceIte, reduceCtorEq, Nat.reduceAdd, Int.reduceLT, Int.reduceNeg, decide_true, decide_false, Bool.not_true, Bool.not_false, ne_eq, not_true_eq_false, not_false_eq_true, List.append_nil, Bool.false_eq_true, List.getElem?_cons_zero, List.getElem?_cons_succ, and_self, and_true, true_and, e2.str T22 U27 T9, e3.str T22 U27 T9, ofVal_str, strBin, Int.reduceEq, decide_true]
    exact (k1.trans k2).trans k3
  obtain ⟨q, σ', h1, rfl, h3⟩ := key
  exact ⟨σ', h1, h3⟩
end Go.Proofs.Ytcogghmmlndmgaa.Q
