import Derived.Test.YtcogghmmlndmgaaGc
set_option linter.unusedVariables false
set_option linter.unusedSimpArgs false
namespace Go.Proofs.Ytcogghmmlndmgaa.Q
open Go Go.RowKit Go.Proofs

theorem decode21_does {v : V} {bs : List UInt8} (hv : BtsV v bs) (hlen : bs.length ≤ 1000000000) (size : Int) (σ : St) :
    ∃ r σ', Does Try.prog noPrim 16 [v, .int .i64 size] σ (.ret r) σ' ∧ Keep σ σ' ∧ LogR bs size r := by
  have key : ∃ q σ', Does Try.prog noPrim 16 [v, .int .i64 size] σ q σ' ∧ ∃ r, q = .ret r ∧ Keep σ σ' ∧ LogR bs size r := by
    apply k16_is.does (by simp)
    have hn0 : IsL ⟨σ.objs ++ [.cells (lgCells lg0 .nils)], σ.toks⟩ σ.objs.length lg0 .nils := push_new _ _
    have hk0 := (Keep.refl σ).push (.cells (lgCells lg0 .nils))
    have fin : ∀ (σ : St) (r : Nat) (o m : Lg) (u w : V), IsL σ r o u → vload Try.prog (σ.objs.set r (Ob.cells (lgCells m w))) 33 (.optr r 0) = some (.agg (lgCells m w)) := fun σ r o m u w h => IsL.load (σ := ⟨σ.objs.set r (.cells (lgCells m w)), σ.toks⟩) (obj_set h)
    have stay : ∀ {σ1 : St}, IsL σ1 σ.objs.length lg0 .nils → Keep σ σ1 → ∀ (m : Lg) (w : V), Keep σ ⟨σ1.objs.set σ.objs.length (Ob.cells (lgCells m w)), σ1.toks⟩ := fun h hk m w => hk.setNew (Nat.le_refl _) _
    have pu := IsL.put hn0 (show one V.nils = true from rfl) (m := lg0)
    have fi := fin _ _ _ lg0 _ .nils hn0
    by_cases hs1 : size < 1
    · have hno : ¬ (1 ≤ size ∧ size ≤ 7) := by omega
      simp only [k16_r0_e, k16_r1_e, k16_r2_e, k16_r3_e, k16_r4_e, k16_r5_e, k16_r6_e, k16_r7_e, k16_r8_e, k16_r9_e, k16_r10_e, k16_e, WK0, WK1, WK2, WK3, WK4, WK5, true_implies, vop, evAll, evOpt, evParts, vbuiltin, vun, vextract, Option.map_some, Option.map_none, Nat.reduceLT, Nat.reduceEqDiff, ↓reduceIte, reduceCtorEq, Nat.reduceAdd, Int.reduceLT, Int.reduceNeg, decide_true, decide_false, Bool.not_true, Bool.not_false, ne_eq, not_true_eq_false, not_false_eq_true, List.append_nil, Bool.false_eq_true, List.getElem?_cons_zero, List.getElem?_cons_succ, and_self, and_true, true_and, List.getD_cons_zero, List.getD_cons_succ, ZL, vbox, vcells, hs1, BL0, pu, fi]
      refine ⟨_, rfl, stay hn0 hk0 _ _, ?_⟩
      unfold LogR
      rw [if_neg hno]
    by_cases hs2 : 7 < size
    · have hno : ¬ (1 ≤ size ∧ size ≤ 7) := by omega
      simp only [k16_r0_e, k16_r1_e, k16_r2_e, k16_r3_e, k16_r4_e, k16_r5_e, k16_r6_e, k16_r7_e, k16_r8_e, k16_r9_e, k16_r10_e, k16_e, WK0, WK1, WK2, WK3, WK4, WK5, true_implies, vop, evAll, evOpt, evParts, vbuiltin, vun, vextract, Option.map_some, Option.map_none, Nat.reduceLT, Nat.reduceEqDiff, ↓reduceIte, reduceCtorEq, Nat.reduceAdd, Int.reduceLT, Int.reduceNeg, decide_true, decide_false, Bool.not_true, Bool.not_false, ne_eq, not_true_eq_false, not_false_eq_true, List.append_nil, Bool.false_eq_true, List.getElem?_cons_zero, List.getElem?_cons_succ, and_self, and_true, true_and, List.getD_cons_zero, List.getD_cons_succ, ZL, vbox, vcells, hs1, hs2, BL0, pu, fi]
      refine ⟨_, rfl, stay hn0 hk0 _ _, ?_⟩
      unfold LogR
      rw [if_neg hno]
    have hyes : 1 ≤ size ∧ size ≤ 7 := by omega
    unfold LogR
    simp only [if_pos hyes]
    clear pu fi
    obtain ⟨rr, σ1, hd0, hk1, hrr, hr1⟩ := new_does hv (by omega) ⟨σ.objs ++ [.cells (lgCells lg0 .nils)], σ.toks⟩
    have hrr' : rr = σ.objs.length + 1 := by rw [hrr]; simp
    have hle : σ.objs.length ≤ rr := by omega
    have hne : σ.objs.length ≠ rr := by omega
    obtain ⟨a1, s1, ha1, hd1, x1, hr2, b1⟩ := number_step hr1 hlen (by omega)
    obtain ⟨a2, s2, ha2, hd2, x2, hr3, b2⟩ := number_step hr2 b1 (by omega)
    obtain ⟨a3, s3, ha3, hd3, x3, hr4, b3⟩ := number_step hr3 b2 (by omega)
    obtain ⟨a4, s4, ha4, hd4, x4, hr5, b4⟩ := number_step hr4 b3 (by omega)
    have hlt2 : a2.1 < 2 ^ 63 := by rw [ha2]; exact numS_lt
    have wv : IntKind.i64.wrap ((a2.1 : Nat) - 1 : Int) = (a2.1 : Nat) - 1 := wrap_i64 (by omega) (by omega)
    have x14 : KeepX rr σ1 s4 := ((x1.trans x2).trans x3).trans x4
    have k4 : Keep σ s4 := (hk0.trans hk1).viaX x14 hle
    have n4 : IsL s4 σ.objs.length lg0 .nils := x14.1 _ _ hne (hk1.1 _ _ hn0)
    have bld := BL4 (a1.1 : Nat) ((a2.1 : Nat) - 1) (a3.1 : Nat) (a4.1 : Nat)
    obtain ⟨m1, hm1⟩ : ∃ m1 : Lg, m1 = ⟨(a1.1 : Nat), (a2.1 : Nat) - 1, (a3.1 : Nat), (a4.1 : Nat), [], []⟩ := ⟨_, rfl⟩
    rw [← hm1] at bld
    simp only [k16_r0_e, k16_r1_e, k16_r2_e, k16_r3_e, k16_r4_e, k16_r5_e, k16_r6_e, k16_r7_e, k16_r8_e, k16_r9_e, k16_r10_e, k16_e, WK0, WK1, WK2, WK3, WK4, WK5, true_implies, vop, evAll, evOpt, evParts, vbuiltin, vun, vextract, Option.map_some, Option.map_none, Nat.reduceLT, Nat.reduceEqDiff, ↓reduceIte, reduceCtorEq, Nat.reduceAdd, Int.reduceLT, Int.reduceNeg, decide_true, decide_false, Bool.not_true, Bool.not_false, ne_eq, not_true_eq_false, not_false_eq_true, List.append_nil, Bool.false_eq_true, List.getElem?_cons_zero, List.getElem?_cons_succ, and_self, and_true, true_and, List.getD_cons_zero, List.getD_cons_succ, ZL, vbox, vcells, hs1, hs2]
    refine KD.ret hd0 ?_
    simp only [k16_r0_e, k16_r1_e, k16_r2_e, k16_r3_e, k16_r4_e, k16_r5_e, k16_r6_e, k16_r7_e, k16_r8_e, k16_r9_e, k16_r10_e, k16_e, WK0, WK1, WK2, WK3, WK4, WK5, true_implies, vop, evAll, evOpt, evParts, vbuiltin, vun, vextract, Option.map_some, Option.map_none, Nat.reduceLT, Nat.reduceEqDiff, ↓reduceIte, reduceCtorEq, Nat.reduceAdd, Int.reduceLT, Int.reduceNeg, decide_true, decide_false, Bool.not_true, Bool.not_false, ne_eq, not_true_eq_false, not_false_eq_true, List.append_nil, Bool.false_eq_true, List.getElem?_cons_zero, List.getElem?_cons_succ, and_self, and_true, true_and]
    refine KD.ret hd1 ?_
    simp only [k16_r0_e, k16_r1_e, k16_r2_e, k16_r3_e, k16_r4_e, k16_r5_e, k16_r6_e, k16_r7_e, k16_r8_e, k16_r9_e, k16_r10_e, k16_e, WK0, WK1, WK2, WK3, WK4, WK5, true_implies, vop, evAll, evOpt, evParts, vbuiltin, vun, vextract, Option.map_some, Option.map_none, Nat.reduceLT, Nat.reduceEqDiff, ↓reduceIte, reduceCtorEq, Nat.reduceAdd, Int.reduceLT, Int.reduceNeg, decide_true, decide_false, Bool.not_true, Bool.not_false, ne_eq, not_true_eq_false, not_false_eq_true, List.append_nil, Bool.false_eq_true, List.getElem?_cons_zero, List.getElem?_cons_succ, and_self, and_true, true_and]
    refine KD.ret hd2 ?_
    simp only [k16_r0_e, k16_r1_e, k16_r2_e, k16_r3_e, k16_r4_e, k16_r5_e, k16_r6_e, k16_r7_e, k16_r8_e, k16_r9_e, k16_r10_e, k16_e, WK0, WK1, WK2, WK3, WK4, WK5, true_implies, vop, evAll, evOpt, evParts, vbuiltin, vun, vextract, Option.map_some, Option.map_none, Nat.reduceLT, Nat.reduceEqDiff, ↓reduceIte, reduceCtorEq, Nat.reduceAdd, Int.reduceLT, Int.reduceNeg, decide_true, decide_false, Bool.not_true, Bool.not_false, ne_eq, not_true_eq_false, not_false_eq_true, List.append_nil, Bool.false_eq_true, List.getElem?_cons_zero, List.getElem?_cons_succ, and_self, and_true, true_and, wv]
    refine KD.ret hd3 ?_
    simp only [k16_r0_e, k16_r1_e, k16_r2_e, k16_r3_e, k16_r4_e, k16_r5_e, k16_r6_e, k16_r7_e, k16_r8_e, k16_r9_e, k16_r10_e, k16_e, WK0, WK1, WK2, WK3, WK4, WK5, true_implies, vop, evAll, evOpt, evParts, vbuiltin, vun, vextract, Option.map_some, Option.map_none, Nat.reduceLT, Nat.reduceEqDiff, ↓reduceIte, reduceCtorEq, Nat.reduceAdd, Int.reduceLT, Int.reduceNeg, decide_true, decide_false, Bool.not_true, Bool.not_false, ne_eq, not_true_eq_false, not_false_eq_true, List.append_nil, Bool.false_eq_true, List.getElem?_cons_zero, List.getElem?_cons_succ, and_self, and_true, true_and]
    refine KD.ret hd4 ?_
    simp only [k16_r0_e, k16_r1_e, k16_r2_e, k16_r3_e, k16_r4_e, k16_r5_e, k16_r6_e, k16_r7_e, k16_r8_e, k16_r9_e, k16_r10_e, k16_e, WK0, WK1, WK2, WK3, WK4, WK5, true_implies, vop, evAll, evOpt, evParts, vbuiltin, vun, vextract, Option.map_some, Option.map_none, Nat.reduceLT, Nat.reduceEqDiff, ↓reduceIte, reduceCtorEq, Nat.reduceAdd, Int.reduceLT, Int.reduceNeg, decide_true, decide_false, Bool.not_true, Bool.not_false, ne_eq, not_true_eq_false, not_false_eq_true, List.append_nil, Bool.false_eq_true, List.getElem?_cons_zero, List.getElem?_cons_succ, and_self, and_true, true_and, ZL, vbox, vcells, bld, IsL.new (show one V.nils = true from rfl)]
    have hq := hr5.lt
    obtain ⟨q, hqe⟩ : ∃ q, q = s4.objs.length := ⟨_, rfl⟩
    rw [← hqe] at hq ⊢
    have hql : σ.objs.length < q := by rw [hqe]; exact (List.getElem?_eq_some_iff.1 n4).1
    have hqr : q ≠ rr := by omega
    have hqn : σ.objs.length ≠ q := by omega
    have hrq : rr ≠ q := by omega
    have hqle : σ.objs.length ≤ q := by omega
    obtain ⟨t4, ht4⟩ : ∃ t : St, t = ⟨(s4.objs ++ [Ob.cells (lgCells lg0 .nils)]).set q (Ob.cells (lgCells m1 .nils)), s4.toks⟩ := ⟨_, rfl⟩
    have q4 : IsL t4 q m1 .nils := by rw [ht4, hqe]; exact obj_set (push_new _ _)
    have y4 : KeepX q s4 t4 := by rw [ht4]; exact ((KeepX.refl q s4).push _).trans (KeepX.set q _ _)
    have m4 : IsL t4 σ.objs.length lg0 .nils := y4.1 _ _ hqn n4
    have kt4 : Keep σ t4 := k4.viaX y4 hqle
    rw [← ht4]
    obtain ⟨a5, s5, ha5, hd5, x5, hr6, b5⟩ := number_step (hr5.keep y4 hrq) b4 (by omega)
    obtain ⟨c, u, s6, hc, hd6, x6, hr7, hu, bc, bc'⟩ := bytes_step hr6 b5 (by omega) (a5.1 : Nat)
    have ks6 : Keep σ s6 := (kt4.viaX x5 hle).viaX x6 hle
    have n6 : IsL s6 σ.objs.length lg0 .nils := x6.1 _ _ hne (x5.1 _ _ hne m4)
    have p6 : IsL s6 q m1 .nils := x6.1 _ _ hqr (x5.1 _ _ hqr q4)
    refine KD.ret hd5 ?_
    simp only [k16_r0_e, k16_r1_e, k16_r2_e, k16_r3_e, k16_r4_e, k16_r5_e, k16_r6_e, k16_r7_e, k16_r8_e, k16_r9_e, k16_r10_e, k16_e, WK0, WK1, WK2, WK3, WK4, WK5, true_implies, vop, evAll, evOpt, evParts, vbuiltin, vun, vextract, Option.map_some, Option.map_none, Nat.reduceLT, Nat.reduceEqDiff, ↓reduceIte, reduceCtorEq, Nat.reduceAdd, Int.reduceLT, Int.reduceNeg, decide_true, decide_false, Bool.not_true, Bool.not_false, ne_eq, not_true_eq_false, not_false_eq_true, List.append_nil, Bool.false_eq_true, List.getElem?_cons_zero, List.getElem?_cons_succ, and_self, and_true, true_and]
    refine KD.ret hd6 ?_
    simp only [k16_r0_e, k16_r1_e, k16_r2_e, k16_r3_e, k16_r4_e, k16_r5_e, k16_r6_e, k16_r7_e, k16_r8_e, k16_r9_e, k16_r10_e, k16_e, WK0, WK1, WK2, WK3, WK4, WK5, true_implies, vop, evAll, evOpt, evParts, vbuiltin, vun, vextract, Option.map_some, Option.map_none, Nat.reduceLT, Nat.reduceEqDiff, ↓reduceIte, reduceCtorEq, Nat.reduceAdd, Int.reduceLT, Int.reduceNeg, decide_true, decide_false, Bool.not_true, Bool.not_false, ne_eq, not_true_eq_false, not_false_eq_true, List.append_nil, Bool.false_eq_true, List.getElem?_cons_zero, List.getElem?_cons_succ, and_self, and_true, true_and, hu.str T22 U27 T9, FL4, p6.put4]
    obtain ⟨t5, ht5⟩ : ∃ t : St, t = ⟨s6.objs.set q (Ob.cells (lgCells { m1 with book := c.1 } .nils)), s6.toks⟩ := ⟨_, rfl⟩
    obtain ⟨q5, y5⟩ := p6.step ht5
    rw [← ht5]
    have m5 : IsL t5 σ.objs.length lg0 .nils := y5.1 _ _ hqn n6
    have kt5 : Keep σ t5 := ks6.viaX y5 hqle
    obtain ⟨z, s7, hd7, x7, hR⟩ := readitems_does (hr7.keep y5 hrq) (by omega) 256
    obtain ⟨I, hI⟩ : ∃ I, I = readItemsS c.2.1 c.2.2 256 := ⟨_, rfl⟩
    rw [← hI] at hR
    obtain ⟨dN, dS⟩ := decodeL_eq (size := size) ha1 ha2 ha3 ha4 ha5 hc hI
    have k7 : Keep σ s7 := kt5.viaX x7 hle
    have n7 : IsL s7 σ.objs.length lg0 .nils := x7.1 _ _ hne m5
    have p7 : IsL s7 q { m1 with book := c.1 } .nils := x7.1 _ _ hqr q5
    refine KD.ret hd7 ?_
    cases I with
    | none =>
      simp only [ItemsR] at hR
      subst hR
      simp only [k16_r0_e, k16_r1_e, k16_r2_e, k16_r3_e, k16_r4_e, k16_r5_e, k16_r6_e, k16_r7_e, k16_r8_e, k16_r9_e, k16_r10_e, k16_e, WK0, WK1, WK2, WK3, WK4, WK5, true_implies, vop, evAll, evOpt, evParts, vbuiltin, vun, vextract, Option.map_some, Option.map_none, Nat.reduceLT, Nat.reduceEqDiff, ↓reduceIte, reduceCtorEq, Nat.reduceAdd, Int.reduceLT, Int.reduceNeg, decide_true, decide_false, Bool.not_true, Bool.not_false, ne_eq, not_true_eq_false, not_false_eq_true, List.append_nil, Bool.false_eq_true, List.getElem?_cons_zero, List.getElem?_cons_succ, and_self, and_true, true_and, FL5, p7.put5 ItemsV.nil]
      obtain ⟨t6, ht6⟩ : ∃ t : St, t = ⟨s7.objs.set q (Ob.cells (lgCells { m1 with book := c.1 } .nils)), s7.toks⟩ := ⟨_, rfl⟩
      obtain ⟨q6, y6⟩ := p7.step ht6
      have hitm : { ({ m1 with book := c.1 } : Lg) with items := [] } = { m1 with book := c.1 } := by rw [hm1]
      rw [hitm, ← ht6]
      have n8 := y6.1 _ _ hqn n7
      simp only [BL0, IsL.put n8 (show one V.nils = true from rfl), fin _ _ _ _ _ _ n8, WK0, WK1, WK2, WK3, WK4, WK5, true_implies, vop, evAll, evOpt, evParts, vbuiltin, vun, vextract, Option.map_some, Option.map_none, Nat.reduceLT, Nat.reduceEqDiff, ↓reduceIte, reduceCtorEq, Nat.reduceAdd, Int.reduceLT, Int.reduceNeg, decide_true, decide_false, Bool.not_true, Bool.not_false, ne_eq, not_true_eq_false, not_false_eq_true, List.append_nil, Bool.false_eq_true, List.getElem?_cons_zero, List.getElem?_cons_succ, and_self, and_true, true_and]
      refine ⟨_, rfl, stay n8 (k7.viaX y6 hqle) _ _, ?_⟩
      rw [dN rfl]
      exact ⟨.nils, rfl, ItemsV.nil⟩
    | some p =>
      obtain ⟨l, r⟩ := p
      simp only [ItemsR] at hR
      obtain ⟨w, rfl, hw, hs4⟩ := hR
      simp only [k16_r0_e, k16_r1_e, k16_r2_e, k16_r3_e, k16_r4_e, k16_r5_e, k16_r6_e, k16_r7_e, k16_r8_e, k16_r9_e, k16_r10_e, k16_e, WK0, WK1, WK2, WK3, WK4, WK5, true_implies, vop, evAll, evOpt, evParts, vbuiltin, vun, vextract, Option.map_some, Option.map_none, Nat.reduceLT, Nat.reduceEqDiff, ↓reduceIte, reduceCtorEq, Nat.reduceAdd, Int.reduceLT, Int.reduceNeg, decide_true, decide_false, Bool.not_true, Bool.not_false, ne_eq, not_true_eq_false, not_false_eq_true, List.append_nil, Bool.false_eq_true, List.getElem?_cons_zero, List.getElem?_cons_succ, and_self, and_true, true_and, FL5, p7.put5 hw]
      obtain ⟨m, hm⟩ : ∃ m : Lg, m = { m1 with items := l, book := c.1 } := ⟨_, rfl⟩
      obtain ⟨t6, ht6⟩ : ∃ t : St, t = ⟨s7.objs.set q (Ob.cells (lgCells m w)), s7.toks⟩ := ⟨_, rfl⟩
      obtain ⟨q6, y6⟩ := p7.step ht6
      have n8 := y6.1 _ _ hqn n7
      have k8 : Keep σ t6 := k7.viaX y6 hqle
      have hmw : lgCells { ({ m1 with book := c.1 } : Lg) with items := l } w = lgCells m w := by rw [hm]
      rw [hmw, ← ht6]
      have hD := dS l r rfl
      have hmE : (⟨(a1.1 : Nat), (a2.1 : Nat) - 1, (a3.1 : Nat), (a4.1 : Nat), c.1, l⟩ : Lg) = m := by rw [hm, hm1]
      rw [hmE] at hD
      have hrI := readItemsS_some hI.symm
      have hmi : m.items = l := by rw [hm]
      obtain ⟨t9, hd9, k9⟩ := goodlog_does (l := m) (w := w) (size := size) (by rw [hmi]; exact hw) (by rw [hmi]; have := hrI.2.2.1; omega) t6
      have q9 : IsL t9 q m w := k9.1 _ _ q6
      have n9 : IsL t9 σ.objs.length lg0 .nils := k9.1 _ _ n8
      have hde := end_does (hs4.keep y6 hrq)
      refine KD.ret hde ?_
      cases hr0 : decide ((r.length : Int) = 0) with
      | false =>
        have : ¬ r.length = 0 := by simpa using hr0
        rw [if_neg (fun hh => this hh.1)] at hD
        simp only [k16_r0_e, k16_r1_e, k16_r2_e, k16_r3_e, k16_r4_e, k16_r5_e, k16_r6_e, k16_r7_e, k16_r8_e, k16_r9_e, k16_r10_e, k16_e, WK0, WK1, WK2, WK3, WK4, WK5, true_implies, vop, evAll, evOpt, evParts, vbuiltin, vun, vextract, Option.map_some, Option.map_none, Nat.reduceLT, Nat.reduceEqDiff, ↓reduceIte, reduceCtorEq, Nat.reduceAdd, Int.reduceLT, Int.reduceNeg, decide_true, decide_false, Bool.not_true, Bool.not_false, ne_eq, not_true_eq_false, not_false_eq_true, List.append_nil, Bool.false_eq_true, List.getElem?_cons_zero, List.getElem?_cons_succ, and_self, and_true, true_and, Bool.true_and, BL0, IsL.put n8 (show one V.nils = true from rfl), fin _ _ _ _ _ _ n8]
        refine ⟨_, rfl, stay n8 k8 _ _, ?_⟩
        rw [hD]
        exact ⟨.nils, rfl, ItemsV.nil⟩
      | true =>
        have hr0' : r.length = 0 := by simpa using hr0
        simp only [k16_r0_e, k16_r1_e, k16_r2_e, k16_r3_e, k16_r4_e, k16_r5_e, k16_r6_e, k16_r7_e, k16_r8_e, k16_r9_e, k16_r10_e, k16_e, WK0, WK1, WK2, WK3, WK4, WK5, true_implies, vop, evAll, evOpt, evParts, vbuiltin, vun, vextract, Option.map_some, Option.map_none, Nat.reduceLT, Nat.reduceEqDiff, ↓reduceIte, reduceCtorEq, Nat.reduceAdd, Int.reduceLT, Int.reduceNeg, decide_true, decide_false, Bool.not_true, Bool.not_false, ne_eq, not_true_eq_false, not_false_eq_true, List.append_nil, Bool.false_eq_true, List.getElem?_cons_zero, List.getElem?_cons_succ, and_self, and_true, true_and, Bool.true_and, q6.load]
        refine KD.ret hd9 ?_
        cases hok : lgOk m size with
        | false =>
          rw [hok, if_neg (fun hh => by have := hh.2; cases this)] at hD
          simp only [k16_r0_e, k16_r1_e, k16_r2_e, k16_r3_e, k16_r4_e, k16_r5_e, k16_r6_e, k16_r7_e, k16_r8_e, k16_r9_e, k16_r10_e, k16_e, WK0, WK1, WK2, WK3, WK4, WK5, true_implies, vop, evAll, evOpt, evParts, vbuiltin, vun, vextract, Option.map_some, Option.map_none, Nat.reduceLT, Nat.reduceEqDiff, ↓reduceIte, reduceCtorEq, Nat.reduceAdd, Int.reduceLT, Int.reduceNeg, decide_true, decide_false, Bool.not_true, Bool.not_false, ne_eq, not_true_eq_false, not_false_eq_true, List.append_nil, Bool.false_eq_true, List.getElem?_cons_zero, List.getElem?_cons_succ, and_self, and_true, true_and, BL0, IsL.put n9 (show one V.nils = true from rfl), fin _ _ _ _ _ _ n9]
          refine ⟨_, rfl, stay n9 (k8.trans k9) _ _, ?_⟩
          rw [hD]
          exact ⟨.nils, rfl, ItemsV.nil⟩
        | true =>
          rw [hok, if_pos ⟨hr0', rfl⟩] at hD
          simp only [k16_r0_e, k16_r1_e, k16_r2_e, k16_r3_e, k16_r4_e, k16_r5_e, k16_r6_e, k16_r7_e, k16_r8_e, k16_r9_e, k16_r10_e, k16_e, WK0, WK1, WK2, WK3, WK4, WK5, true_implies, vop, evAll, evOpt, evParts, vbuiltin, vun, vextract, Option.map_some, Option.map_none, Nat.reduceLT, Nat.reduceEqDiff, ↓reduceIte, reduceCtorEq, Nat.reduceAdd, Int.reduceLT, Int.reduceNeg, decide_true, decide_false, Bool.not_true, Bool.not_false, ne_eq, not_true_eq_false, not_false_eq_true, List.append_nil, Bool.false_eq_true, List.getElem?_cons_zero, List.getElem?_cons_succ, and_self, and_true, true_and, q9.load, IsL.put n9 hw.one, fin _ _ _ _ _ _ n9]
          refine ⟨_, rfl, stay n9 (k8.trans k9) _ _, ?_⟩
          rw [hD]
          exact ⟨w, rfl, by rw [show (some m).getD lg0 = m from rfl, hmi]; exact hw⟩
  obtain ⟨q, σ', h1, r, rfl, h2, h3⟩ := key
  exact ⟨r, σ', h1, h2, h3⟩
end Go.Proofs.Ytcogghmmlndmgaa.Q
