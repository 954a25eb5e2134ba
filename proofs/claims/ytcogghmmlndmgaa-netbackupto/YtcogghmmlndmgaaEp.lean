import Derived.Test.YtcogghmmlndmgaaEo
set_option linter.unusedVariables false
set_option linter.unusedSimpArgs false
namespace Go.Proofs.Ytcogghmmlndmgaa.Q
open Go Go.RowKit Go.Proofs

theorem refdecode22_does {v : V} {bs : List UInt8} (hv : BtsV v bs) (hlen : bs.length ≤ 1000000000) (σ : St) :
    ∃ r σ', Does Try.prog noPrim 30 [v] σ (.ret r) σ' ∧ Keep σ σ' ∧ MsgR (decodeS bs) r := by
  have key : ∃ q σ', Does Try.prog noPrim 30 [v] σ q σ' ∧ ∃ r, q = .ret r ∧ Keep σ σ' ∧ MsgR (decodeS bs) r := by
    apply k30_is.does (by simp)
    have hn0 : IsM ⟨σ.objs ++ [.cells (msgCells msg0 .nils)], σ.toks⟩ σ.objs.length msg0 .nils := push_new _ _
    have hk0 := (Keep.refl σ).push (.cells (msgCells msg0 .nils))
    have ho1 : OwnV 5 σ.toks.length ⟨σ.objs ++ [.cells (msgCells msg0 .nils)], σ.toks⟩ (.slice .exact 1 [] 0) [] := .inr ⟨_, rfl, .inl rfl⟩
    obtain ⟨v', σ1, ha, ho, hk1, hob⟩ := ho1.append' BT (σ0 := ⟨σ.objs ++ [Ob.cells (msgCells msg0 .nils)], σ.toks⟩) rfl (Keep.refl _) T22 hv (by simp; omega)
    rw [List.nil_append] at ho
    obtain ⟨rr, hrr⟩ : ∃ rr, rr = σ1.objs.length := ⟨_, rfl⟩
    have hrr' : rr = σ.objs.length + 1 := by rw [hrr, hob]; simp
    have hle : σ.objs.length ≤ rr := by omega
    have hne : σ.objs.length ≠ rr := by omega
    have hr1 : Rdr ⟨σ1.objs ++ [Ob.cells [v', .bool false]], σ1.toks⟩ rr bs false := ⟨v', by rw [hrr]; exact push_new _ _, ho.bts⟩
    have hk1' := hk1.push (Ob.cells [v', .bool false])
    simp only [k30_r0_e, k30_r1_e, k30_r2_e, k30_r3_e, k30_r4_e, k30_r5_e, k30_r6_e, k30_r7_e, k30_r8_e, k30_r9_e, k30_r10_e, k30_r11_e, k30_r12_e, k30_r13_e, k30_r14_e, k30_r15_e, k30_r16_e, k30_e, WK0, WK1, WK2, WK3, WK4, WK5, true_implies, vop, evAll, evOpt, evParts, vbuiltin, vun, vextract, Option.map_some, Option.map_none, Nat.reduceLT, Nat.reduceEqDiff, ↓reduceIte, reduceCtorEq, Nat.reduceAdd, Int.reduceLT, Int.reduceNeg, decide_true, decide_false, Bool.not_true, Bool.not_false, ne_eq, not_true_eq_false, not_false_eq_true, List.append_nil, Bool.false_eq_true, List.getElem?_cons_zero, List.getElem?_cons_succ, and_self, and_true, true_and, List.getD_cons_zero, ZM, vbox, vcells, build0 BT, ha, BV v' ho.bts.one]
    rw [← hrr]
    obtain ⟨a1, s1, ha1, hd1, x1, hr2, b1⟩ := refnumber_step hr1 hlen (by omega)
    have k1 : Keep σ s1 := (hk0.trans hk1').viaX x1 hle
    have n1 : IsM s1 σ.objs.length msg0 .nils := x1.1 _ _ hne (hk1'.1 _ _ hn0)
    refine KD.ret hd1 ?_
    simp only [k30_r0_e, k30_r1_e, k30_r2_e, k30_r3_e, k30_r4_e, k30_r5_e, k30_r6_e, k30_r7_e, k30_r8_e, k30_r9_e, k30_r10_e, k30_r11_e, k30_r12_e, k30_r13_e, k30_r14_e, k30_r15_e, k30_r16_e, k30_e, WK0, WK1, WK2, WK3, WK4, WK5, true_implies, vop, evAll, evOpt, evParts, vbuiltin, vun, vextract, Option.map_some, Option.map_none, Nat.reduceLT, Nat.reduceEqDiff, ↓reduceIte, reduceCtorEq, Nat.reduceAdd, Int.reduceLT, Int.reduceNeg, decide_true, decide_false, Bool.not_true, Bool.not_false, ne_eq, not_true_eq_false, not_false_eq_true, List.append_nil, Bool.false_eq_true, List.getElem?_cons_zero, List.getElem?_cons_succ, and_self, and_true, true_and, ZM, vbox, vcells, BM1, IsM.new (show one V.nils = true from rfl)]
    have hq := hr2.lt
    obtain ⟨q, hqe⟩ : ∃ q, q = s1.objs.length := ⟨_, rfl⟩
    rw [← hqe] at hq ⊢
    have hql : σ.objs.length < q := by rw [hqe]; exact (List.getElem?_eq_some_iff.1 n1).1
    have hqr : q ≠ rr := by omega
    have hqn : σ.objs.length ≠ q := by omega
    have hrq : rr ≠ q := by omega
    have hqle : σ.objs.length ≤ q := by omega
    obtain ⟨t1, ht1⟩ : ∃ t1 : St, t1 = ⟨(s1.objs ++ [Ob.cells (msgCells msg0 .nils)]).set q (Ob.cells (msgCells { msg0 with src := (a1.1 : Nat) } .nils)), s1.toks⟩ := ⟨_, rfl⟩
    have q1 : IsM t1 q { msg0 with src := (a1.1 : Nat) } .nils := by rw [ht1, hqe]; exact obj_set (push_new _ _)
    have y1 : KeepX q s1 t1 := by rw [ht1]; exact ((KeepX.refl q s1).push _).trans (KeepX.set q _ _)
    have m1 : IsM t1 σ.objs.length msg0 .nils := y1.1 _ _ hqn n1
    have kt1 : Keep σ t1 := k1.viaX y1 hqle
    rw [← ht1]
    obtain ⟨a2, s2, ha2, hd2, x2, hr3, b2⟩ := refnumber_step (hr2.keep y1 hrq) b1 (by omega)
    have ks2 : Keep σ s2 := kt1.viaX x2 hle
    have n2 : IsM s2 σ.objs.length msg0 .nils := x2.1 _ _ hne m1
    have p2 : IsM s2 q { msg0 with src := (a1.1 : Nat) } .nils := x2.1 _ _ hqr q1
    refine KD.ret hd2 ?_
    simp only [k30_r0_e, k30_r1_e, k30_r2_e, k30_r3_e, k30_r4_e, k30_r5_e, k30_r6_e, k30_r7_e, k30_r8_e, k30_r9_e, k30_r10_e, k30_r11_e, k30_r12_e, k30_r13_e, k30_r14_e, k30_r15_e, k30_r16_e, k30_e, WK0, WK1, WK2, WK3, WK4, WK5, true_implies, vop, evAll, evOpt, evParts, vbuiltin, vun, vextract, Option.map_some, Option.map_none, Nat.reduceLT, Nat.reduceEqDiff, ↓reduceIte, reduceCtorEq, Nat.reduceAdd, Int.reduceLT, Int.reduceNeg, decide_true, decide_false, Bool.not_true, Bool.not_false, ne_eq, not_true_eq_false, not_false_eq_true, List.append_nil, Bool.false_eq_true, List.getElem?_cons_zero, List.getElem?_cons_succ, and_self, and_true, true_and, FM1, p2.put1]
    obtain ⟨t2, ht2⟩ : ∃ t : St, t = ⟨s2.objs.set q (Ob.cells (msgCells { msg0 with src := (a1.1 : Nat), dst := (a2.1 : Nat) } .nils)), s2.toks⟩ := ⟨_, rfl⟩
    obtain ⟨q2, y2⟩ := p2.step ht2
    have m2 : IsM t2 σ.objs.length msg0 .nils := y2.1 _ _ hqn n2
    have kt2 : Keep σ t2 := ks2.viaX y2 hqle
    rw [← ht2]
    obtain ⟨a3, s3, ha3, hd3, x3, hr4, b3⟩ := refnumber_step (hr3.keep y2 hrq) b2 (by omega)
    have ks3 : Keep σ s3 := kt2.viaX x3 hle
    have n3 : IsM s3 σ.objs.length msg0 .nils := x3.1 _ _ hne m2
    have p3 : IsM s3 q { msg0 with src := (a1.1 : Nat), dst := (a2.1 : Nat) } .nils := x3.1 _ _ hqr q2
    refine KD.ret hd3 ?_
    simp only [k30_r0_e, k30_r1_e, k30_r2_e, k30_r3_e, k30_r4_e, k30_r5_e, k30_r6_e, k30_r7_e, k30_r8_e, k30_r9_e, k30_r10_e, k30_r11_e, k30_r12_e, k30_r13_e, k30_r14_e, k30_r15_e, k30_r16_e, k30_e, WK0, WK1, WK2, WK3, WK4, WK5, true_implies, vop, evAll, evOpt, evParts, vbuiltin, vun, vextract, Option.map_some, Option.map_none, Nat.reduceLT, Nat.reduceEqDiff, ↓reduceIte, reduceCtorEq, Nat.reduceAdd, Int.reduceLT, Int.reduceNeg, decide_true, decide_false, Bool.not_true, Bool.not_false, ne_eq, not_true_eq_false, not_false_eq_true, List.append_nil, Bool.false_eq_true, List.getElem?_cons_zero, List.getElem?_cons_succ, and_self, and_true, true_and, FM2, p3.put2]
    obtain ⟨t3, ht3⟩ : ∃ t : St, t = ⟨s3.objs.set q (Ob.cells (msgCells { msg0 with src := (a1.1 : Nat), dst := (a2.1 : Nat), kind := (a3.1 : Nat) } .nils)), s3.toks⟩ := ⟨_, rfl⟩
    obtain ⟨q3, y3⟩ := p3.step ht3
    have m3 : IsM t3 σ.objs.length msg0 .nils := y3.1 _ _ hqn n3
    have kt3 : Keep σ t3 := ks3.viaX y3 hqle
    rw [← ht3]
    obtain ⟨a4, s4, ha4, hd4, x4, hr5, b4⟩ := refnumber_step (hr4.keep y3 hrq) b3 (by omega)
    have ks4 : Keep σ s4 := kt3.viaX x4 hle
    have n4 : IsM s4 σ.objs.length msg0 .nils := x4.1 _ _ hne m3
    have p4 : IsM s4 q { msg0 with src := (a1.1 : Nat), dst := (a2.1 : Nat), kind := (a3.1 : Nat) } .nils := x4.1 _ _ hqr q3
    refine KD.ret hd4 ?_
    simp only [k30_r0_e, k30_r1_e, k30_r2_e, k30_r3_e, k30_r4_e, k30_r5_e, k30_r6_e, k30_r7_e, k30_r8_e, k30_r9_e, k30_r10_e, k30_r11_e, k30_r12_e, k30_r13_e, k30_r14_e, k30_r15_e, k30_r16_e, k30_e, WK0, WK1, WK2, WK3, WK4, WK5, true_implies, vop, evAll, evOpt, evParts, vbuiltin, vun, vextract, Option.map_some, Option.map_none, Nat.reduceLT, Nat.reduceEqDiff, ↓reduceIte, reduceCtorEq, Nat.reduceAdd, Int.reduceLT, Int.reduceNeg, decide_true, decide_false, Bool.not_true, Bool.not_false, ne_eq, not_true_eq_false, not_false_eq_true, List.append_nil, Bool.false_eq_true, List.getElem?_cons_zero, List.getElem?_cons_succ, and_self, and_true, true_and, FM3, p4.put3]
    obtain ⟨t4, ht4⟩ : ∃ t : St, t = ⟨s4.objs.set q (Ob.cells (msgCells { msg0 with src := (a1.1 : Nat), dst := (a2.1 : Nat), kind := (a3.1 : Nat), term := (a4.1 : Nat) } .nils)), s4.toks⟩ := ⟨_, rfl⟩
    obtain ⟨q4, y4⟩ := p4.step ht4
    have m4 : IsM t4 σ.objs.length msg0 .nils := y4.1 _ _ hqn n4
    have kt4 : Keep σ t4 := ks4.viaX y4 hqle
    rw [← ht4]
    obtain ⟨a5, s5, ha5, hd5, x5, hr6, b5⟩ := refnumber_step (hr5.keep y4 hrq) b4 (by omega)
    have ks5 : Keep σ s5 := kt4.viaX x5 hle
    have n5 : IsM s5 σ.objs.length msg0 .nils := x5.1 _ _ hne m4
    have p5 : IsM s5 q { msg0 with src := (a1.1 : Nat), dst := (a2.1 : Nat), kind := (a3.1 : Nat), term := (a4.1 : Nat) } .nils := x5.1 _ _ hqr q4
    refine KD.ret hd5 ?_
    simp only [k30_r0_e, k30_r1_e, k30_r2_e, k30_r3_e, k30_r4_e, k30_r5_e, k30_r6_e, k30_r7_e, k30_r8_e, k30_r9_e, k30_r10_e, k30_r11_e, k30_r12_e, k30_r13_e, k30_r14_e, k30_r15_e, k30_r16_e, k30_e, WK0, WK1, WK2, WK3, WK4, WK5, true_implies, vop, evAll, evOpt, evParts, vbuiltin, vun, vextract, Option.map_some, Option.map_none, Nat.reduceLT, Nat.reduceEqDiff, ↓reduceIte, reduceCtorEq, Nat.reduceAdd, Int.reduceLT, Int.reduceNeg, decide_true, decide_false, Bool.not_true, Bool.not_false, ne_eq, not_true_eq_false, not_false_eq_true, List.append_nil, Bool.false_eq_true, List.getElem?_cons_zero, List.getElem?_cons_succ, and_self, and_true, true_and, FM4, p5.put4]
    obtain ⟨t5, ht5⟩ : ∃ t : St, t = ⟨s5.objs.set q (Ob.cells (msgCells { msg0 with src := (a1.1 : Nat), dst := (a2.1 : Nat), kind := (a3.1 : Nat), term := (a4.1 : Nat), last := (a5.1 : Nat) } .nils)), s5.toks⟩ := ⟨_, rfl⟩
    obtain ⟨q5, y5⟩ := p5.step ht5
    have m5 : IsM t5 σ.objs.length msg0 .nils := y5.1 _ _ hqn n5
    have kt5 : Keep σ t5 := ks5.viaX y5 hqle
    rw [← ht5]
    obtain ⟨a6, s6, ha6, hd6, x6, hr7, b6⟩ := refnumber_step (hr6.keep y5 hrq) b5 (by omega)
    have ks6 : Keep σ s6 := kt5.viaX x6 hle
    have n6 : IsM s6 σ.objs.length msg0 .nils := x6.1 _ _ hne m5
    have p6 : IsM s6 q { msg0 with src := (a1.1 : Nat), dst := (a2.1 : Nat), kind := (a3.1 : Nat), term := (a4.1 : Nat), last := (a5.1 : Nat) } .nils := x6.1 _ _ hqr q5
    refine KD.ret hd6 ?_
    simp only [k30_r0_e, k30_r1_e, k30_r2_e, k30_r3_e, k30_r4_e, k30_r5_e, k30_r6_e, k30_r7_e, k30_r8_e, k30_r9_e, k30_r10_e, k30_r11_e, k30_r12_e, k30_r13_e, k30_r14_e, k30_r15_e, k30_r16_e, k30_e, WK0, WK1, WK2, WK3, WK4, WK5, true_implies, vop, evAll, evOpt, evParts, vbuiltin, vun, vextract, Option.map_some, Option.map_none, Nat.reduceLT, Nat.reduceEqDiff, ↓reduceIte, reduceCtorEq, Nat.reduceAdd, Int.reduceLT, Int.reduceNeg, decide_true, decide_false, Bool.not_true, Bool.not_false, ne_eq, not_true_eq_false, not_false_eq_true, List.append_nil, Bool.false_eq_true, List.getElem?_cons_zero, List.getElem?_cons_succ, and_self, and_true, true_and, FM5, p6.put5]
    obtain ⟨t6, ht6⟩ : ∃ t : St, t = ⟨s6.objs.set q (Ob.cells (msgCells { msg0 with src := (a1.1 : Nat), dst := (a2.1 : Nat), kind := (a3.1 : Nat), term := (a4.1 : Nat), last := (a5.1 : Nat), lterm := (a6.1 : Nat) } .nils)), s6.toks⟩ := ⟨_, rfl⟩
    obtain ⟨q6, y6⟩ := p6.step ht6
    have m6 : IsM t6 σ.objs.length msg0 .nils := y6.1 _ _ hqn n6
    have kt6 : Keep σ t6 := ks6.viaX y6 hqle
    rw [← ht6]
    obtain ⟨a7, s7, ha7, hd7, x7, hr8, b7⟩ := refnumber_step (hr7.keep y6 hrq) b6 (by omega)
    have ks7 : Keep σ s7 := kt6.viaX x7 hle
    have n7 : IsM s7 σ.objs.length msg0 .nils := x7.1 _ _ hne m6
    have p7 : IsM s7 q { msg0 with src := (a1.1 : Nat), dst := (a2.1 : Nat), kind := (a3.1 : Nat), term := (a4.1 : Nat), last := (a5.1 : Nat), lterm := (a6.1 : Nat) } .nils := x7.1 _ _ hqr q6
    refine KD.ret hd7 ?_
    simp only [k30_r0_e, k30_r1_e, k30_r2_e, k30_r3_e, k30_r4_e, k30_r5_e, k30_r6_e, k30_r7_e, k30_r8_e, k30_r9_e, k30_r10_e, k30_r11_e, k30_r12_e, k30_r13_e, k30_r14_e, k30_r15_e, k30_r16_e, k30_e, WK0, WK1, WK2, WK3, WK4, WK5, true_implies, vop, evAll, evOpt, evParts, vbuiltin, vun, vextract, Option.map_some, Option.map_none, Nat.reduceLT, Nat.reduceEqDiff, ↓reduceIte, reduceCtorEq, Nat.reduceAdd, Int.reduceLT, Int.reduceNeg, decide_true, decide_false, Bool.not_true, Bool.not_false, ne_eq, not_true_eq_false, not_false_eq_true, List.append_nil, Bool.false_eq_true, List.getElem?_cons_zero, List.getElem?_cons_succ, and_self, and_true, true_and, FM6, p7.put6]
    obtain ⟨t7, ht7⟩ : ∃ t : St, t = ⟨s7.objs.set q (Ob.cells (msgCells { msg0 with src := (a1.1 : Nat), dst := (a2.1 : Nat), kind := (a3.1 : Nat), term := (a4.1 : Nat), last := (a5.1 : Nat), lterm := (a6.1 : Nat), com := (a7.1 : Nat) } .nils)), s7.toks⟩ := ⟨_, rfl⟩
    obtain ⟨q7, y7⟩ := p7.step ht7
    have m7 : IsM t7 σ.objs.length msg0 .nils := y7.1 _ _ hqn n7
    have kt7 : Keep σ t7 := ks7.viaX y7 hqle
    rw [← ht7]
    obtain ⟨a8, s8, ha8, hd8, x8, hs8, b8⟩ := refnumber_step (hr8.keep y7 hrq) b7 (by omega)
    have ks8 : Keep σ s8 := kt7.viaX x8 hle
    have n8 : IsM s8 σ.objs.length msg0 .nils := x8.1 _ _ hne m7
    have p8 : IsM s8 q { msg0 with src := (a1.1 : Nat), dst := (a2.1 : Nat), kind := (a3.1 : Nat), term := (a4.1 : Nat), last := (a5.1 : Nat), lterm := (a6.1 : Nat), com := (a7.1 : Nat) } .nils := x8.1 _ _ hqr q7
    refine KD.ret hd8 ?_
    simp only [k30_r0_e, k30_r1_e, k30_r2_e, k30_r3_e, k30_r4_e, k30_r5_e, k30_r6_e, k30_r7_e, k30_r8_e, k30_r9_e, k30_r10_e, k30_r11_e, k30_r12_e, k30_r13_e, k30_r14_e, k30_r15_e, k30_r16_e, k30_e, WK0, WK1, WK2, WK3, WK4, WK5, true_implies, vop, evAll, evOpt, evParts, vbuiltin, vun, vextract, Option.map_some, Option.map_none, Nat.reduceLT, Nat.reduceEqDiff, ↓reduceIte, reduceCtorEq, Nat.reduceAdd, Int.reduceLT, Int.reduceNeg, decide_true, decide_false, Bool.not_true, Bool.not_false, ne_eq, not_true_eq_false, not_false_eq_true, List.append_nil, Bool.false_eq_true, List.getElem?_cons_zero, List.getElem?_cons_succ, and_self, and_true, true_and, FM7, p8.put7]
    obtain ⟨yes, hyes⟩ : ∃ yes, yes = decide (((a8.1 : Nat) : Int) = 1) := ⟨_, rfl⟩
    rw [← hyes]
    obtain ⟨m1', hm1⟩ : ∃ m1 : Msg, m1 = ⟨(a1.1 : Nat), (a2.1 : Nat), (a3.1 : Nat), (a4.1 : Nat), (a5.1 : Nat), (a6.1 : Nat), (a7.1 : Nat), yes, [], []⟩ := ⟨_, rfl⟩
    obtain ⟨t8, ht8⟩ : ∃ t : St, t = ⟨s8.objs.set q (Ob.cells (msgCells m1' .nils)), s8.toks⟩ := ⟨_, rfl⟩
    obtain ⟨q8, y8⟩ := p8.step ht8
    have m8 : IsM t8 σ.objs.length msg0 .nils := y8.1 _ _ hqn n8
    have kt8 : Keep σ t8 := ks8.viaX y8 hqle
    have hm1w : msgCells { ({ msg0 with src := (a1.1 : Nat), dst := (a2.1 : Nat), kind := (a3.1 : Nat), term := (a4.1 : Nat), last := (a5.1 : Nat), lterm := (a6.1 : Nat), com := (a7.1 : Nat) } : Msg) with yes := yes } .nils = msgCells m1' .nils := by rw [hm1]; rfl
    rw [hm1w, ← ht8]
    obtain ⟨a9, s9, ha9, hd9, x9, hs9, b9⟩ := refnumber_step (hs8.keep y8 hrq) b8 (by omega)
    obtain ⟨c, u, s10, hc, hd10, x10, hs10, hu, bc, bc'⟩ := refbytes_step hs9 b9 (by omega) (a9.1 : Nat)
    have ks10 : Keep σ s10 := (kt8.viaX x9 hle).viaX x10 hle
    have n10 : IsM s10 σ.objs.length msg0 .nils := x10.1 _ _ hne (x9.1 _ _ hne m8)
    have p10 : IsM s10 q m1' .nils := x10.1 _ _ hqr (x9.1 _ _ hqr q8)
    refine KD.ret hd9 ?_
    simp only [k30_r0_e, k30_r1_e, k30_r2_e, k30_r3_e, k30_r4_e, k30_r5_e, k30_r6_e, k30_r7_e, k30_r8_e, k30_r9_e, k30_r10_e, k30_r11_e, k30_r12_e, k30_r13_e, k30_r14_e, k30_r15_e, k30_r16_e, k30_e, WK0, WK1, WK2, WK3, WK4, WK5, true_implies, vop, evAll, evOpt, evParts, vbuiltin, vun, vextract, Option.map_some, Option.map_none, Nat.reduceLT, Nat.reduceEqDiff, ↓reduceIte, reduceCtorEq, Nat.reduceAdd, Int.reduceLT, Int.reduceNeg, decide_true, decide_false, Bool.not_true, Bool.not_false, ne_eq, not_true_eq_false, not_false_eq_true, List.append_nil, Bool.false_eq_true, List.getElem?_cons_zero, List.getElem?_cons_succ, and_self, and_true, true_and]
    refine KD.ret hd10 ?_
    simp only [k30_r0_e, k30_r1_e, k30_r2_e, k30_r3_e, k30_r4_e, k30_r5_e, k30_r6_e, k30_r7_e, k30_r8_e, k30_r9_e, k30_r10_e, k30_r11_e, k30_r12_e, k30_r13_e, k30_r14_e, k30_r15_e, k30_r16_e, k30_e, WK0, WK1, WK2, WK3, WK4, WK5, true_implies, vop, evAll, evOpt, evParts, vbuiltin, vun, vextract, Option.map_some, Option.map_none, Nat.reduceLT, Nat.reduceEqDiff, ↓reduceIte, reduceCtorEq, Nat.reduceAdd, Int.reduceLT, Int.reduceNeg, decide_true, decide_false, Bool.not_true, Bool.not_false, ne_eq, not_true_eq_false, not_false_eq_true, List.append_nil, Bool.false_eq_true, List.getElem?_cons_zero, List.getElem?_cons_succ, and_self, and_true, true_and, hu.str T22 U27 T9, FM9, p10.put9]
    obtain ⟨t10, ht10⟩ : ∃ t : St, t = ⟨s10.objs.set q (Ob.cells (msgCells { m1' with book := c.1 } .nils)), s10.toks⟩ := ⟨_, rfl⟩
    obtain ⟨q10, y10⟩ := p10.step ht10
    rw [← ht10]
    have m10 : IsM t10 σ.objs.length msg0 .nils := y10.1 _ _ hqn n10
    have kt10 : Keep σ t10 := ks10.viaX y10 hqle
    obtain ⟨z, s11, hd11, x11, hR⟩ := refreaditems_does (hs10.keep y10 hrq) (by omega) 16
    obtain ⟨I, hI⟩ : ∃ I, I = readItemsS c.2.1 c.2.2 16 := ⟨_, rfl⟩
    rw [← hI] at hR
    obtain ⟨dN, dS⟩ := decode_eq ha1 ha2 ha3 ha4 ha5 ha6 ha7 ha8 ha9 hc hI
    have k11 : Keep σ s11 := kt10.viaX x11 hle
    have n11 : IsM s11 σ.objs.length msg0 .nils := x11.1 _ _ hne m10
    have p11 : IsM s11 q { m1' with book := c.1 } .nils := x11.1 _ _ hqr q10
    have fin : ∀ (σ : St) (r : Nat) (o m : Msg) (u w : V), IsM σ r o u → vload Try.prog (σ.objs.set r (Ob.cells (msgCells m w))) 24 (.optr r 0) = some (.agg (msgCells m w)) := fun σ r o m u w h => IsM.load (σ := ⟨σ.objs.set r (.cells (msgCells m w)), σ.toks⟩) (obj_set h)
    have stay : ∀ {σ1 : St}, IsM σ1 σ.objs.length msg0 .nils → Keep σ σ1 → ∀ (m : Msg) (w : V), Keep σ ⟨σ1.objs.set σ.objs.length (Ob.cells (msgCells m w)), σ1.toks⟩ := fun h hk m w => hk.setNew (Nat.le_refl _) _
    refine KD.ret hd11 ?_
    cases I with
    | none =>
      simp only [ItemsR] at hR
      subst hR
      simp only [k30_r0_e, k30_r1_e, k30_r2_e, k30_r3_e, k30_r4_e, k30_r5_e, k30_r6_e, k30_r7_e, k30_r8_e, k30_r9_e, k30_r10_e, k30_r11_e, k30_r12_e, k30_r13_e, k30_r14_e, k30_r15_e, k30_r16_e, k30_e, WK0, WK1, WK2, WK3, WK4, WK5, true_implies, vop, evAll, evOpt, evParts, vbuiltin, vun, vextract, Option.map_some, Option.map_none, Nat.reduceLT, Nat.reduceEqDiff, ↓reduceIte, reduceCtorEq, Nat.reduceAdd, Int.reduceLT, Int.reduceNeg, decide_true, decide_false, Bool.not_true, Bool.not_false, ne_eq, not_true_eq_false, not_false_eq_true, List.append_nil, Bool.false_eq_true, List.getElem?_cons_zero, List.getElem?_cons_succ, and_self, and_true, true_and, FM8, p11.put8 ItemsV.nil]
      obtain ⟨t12, ht12⟩ : ∃ t : St, t = ⟨s11.objs.set q (Ob.cells (msgCells { m1' with book := c.1 } .nils)), s11.toks⟩ := ⟨_, rfl⟩
      obtain ⟨q12, y12⟩ := p11.step ht12
      have hitm : { ({ m1' with book := c.1 } : Msg) with items := [] } = { m1' with book := c.1 } := by rw [hm1]
      rw [hitm, ← ht12]
      have n12 := y12.1 _ _ hqn n11
      simp only [BM0, IsM.put n12 (show one V.nils = true from rfl), fin _ _ _ _ _ _ n12, WK0, WK1, WK2, WK3, WK4, WK5, true_implies, vop, evAll, evOpt, evParts, vbuiltin, vun, vextract, Option.map_some, Option.map_none, Nat.reduceLT, Nat.reduceEqDiff, ↓reduceIte, reduceCtorEq, Nat.reduceAdd, Int.reduceLT, Int.reduceNeg, decide_true, decide_false, Bool.not_true, Bool.not_false, ne_eq, not_true_eq_false, not_false_eq_true, List.append_nil, Bool.false_eq_true, List.getElem?_cons_zero, List.getElem?_cons_succ, and_self, and_true, true_and]
      refine ⟨_, rfl, stay n12 (k11.viaX y12 hqle) _ _, ?_⟩
      rw [dN rfl]
      exact ⟨.nils, rfl, ItemsV.nil⟩
    | some p =>
      obtain ⟨l, r⟩ := p
      simp only [ItemsR] at hR
      obtain ⟨w, rfl, hw, hs4⟩ := hR
      simp only [k30_r0_e, k30_r1_e, k30_r2_e, k30_r3_e, k30_r4_e, k30_r5_e, k30_r6_e, k30_r7_e, k30_r8_e, k30_r9_e, k30_r10_e, k30_r11_e, k30_r12_e, k30_r13_e, k30_r14_e, k30_r15_e, k30_r16_e, k30_e, WK0, WK1, WK2, WK3, WK4, WK5, true_implies, vop, evAll, evOpt, evParts, vbuiltin, vun, vextract, Option.map_some, Option.map_none, Nat.reduceLT, Nat.reduceEqDiff, ↓reduceIte, reduceCtorEq, Nat.reduceAdd, Int.reduceLT, Int.reduceNeg, decide_true, decide_false, Bool.not_true, Bool.not_false, ne_eq, not_true_eq_false, not_false_eq_true, List.append_nil, Bool.false_eq_true, List.getElem?_cons_zero, List.getElem?_cons_succ, and_self, and_true, true_and, FM8, p11.put8 hw]
      obtain ⟨m, hm⟩ : ∃ m : Msg, m = { m1' with items := l, book := c.1 } := ⟨_, rfl⟩
      obtain ⟨t12, ht12⟩ : ∃ t : St, t = ⟨s11.objs.set q (Ob.cells (msgCells m w)), s11.toks⟩ := ⟨_, rfl⟩
      obtain ⟨q12, y12⟩ := p11.step ht12
      have n12 := y12.1 _ _ hqn n11
      have k12 : Keep σ t12 := k11.viaX y12 hqle
      have hmw : msgCells { ({ m1' with book := c.1 } : Msg) with items := l } w = msgCells m w := by rw [hm]
      rw [hmw, ← ht12]
      have hD := dS l r rfl
      have hmE : (⟨(a1.1 : Nat), (a2.1 : Nat), (a3.1 : Nat), (a4.1 : Nat), (a5.1 : Nat), (a6.1 : Nat), (a7.1 : Nat), decide (((a8.1 : Nat) : Int) = 1), l, c.1⟩ : Msg) = m := by rw [hm, hm1, hyes]
      rw [hmE] at hD
      obtain ⟨ub, hub1, hub2⟩ := hs4.keep y12 hrq
      have hrI := readItemsS_some hI.symm
      by_cases hr0 : (0 : Int) < (r.length : Int)
      · rw [if_neg (fun hh => by have := hh.1; omega)] at hD
        simp only [k30_r0_e, k30_r1_e, k30_r2_e, k30_r3_e, k30_r4_e, k30_r5_e, k30_r6_e, k30_r7_e, k30_r8_e, k30_r9_e, k30_r10_e, k30_r11_e, k30_r12_e, k30_r13_e, k30_r14_e, k30_r15_e, k30_r16_e, k30_e, WK0, WK1, WK2, WK3, WK4, WK5, true_implies, vop, evAll, evOpt, evParts, vbuiltin, vun, vextract, Option.map_some, Option.map_none, Nat.reduceLT, Nat.reduceEqDiff, ↓reduceIte, reduceCtorEq, Nat.reduceAdd, Int.reduceLT, Int.reduceNeg, decide_true, decide_false, Bool.not_true, Bool.not_false, ne_eq, not_true_eq_false, not_false_eq_true, List.append_nil, Bool.false_eq_true, List.getElem?_cons_zero, List.getElem?_cons_succ, and_self, and_true, true_and, FB0, FB1, vload_obj hub1 G4, vload_obj hub1 G22, hub2.len T22, hr0, BM0, IsM.put n12 (show one V.nils = true from rfl), fin _ _ _ _ _ _ n12]
        refine ⟨_, rfl, stay n12 k12 _ _, ?_⟩
        rw [hD]
        exact ⟨.nils, rfl, ItemsV.nil⟩
      · by_cases hy : (1 : Int) < (a8.1 : Nat)
        · rw [if_neg (fun hh => by have := hh.2.1; omega)] at hD
          simp only [k30_r0_e, k30_r1_e, k30_r2_e, k30_r3_e, k30_r4_e, k30_r5_e, k30_r6_e, k30_r7_e, k30_r8_e, k30_r9_e, k30_r10_e, k30_r11_e, k30_r12_e, k30_r13_e, k30_r14_e, k30_r15_e, k30_r16_e, k30_e, WK0, WK1, WK2, WK3, WK4, WK5, true_implies, vop, evAll, evOpt, evParts, vbuiltin, vun, vextract, Option.map_some, Option.map_none, Nat.reduceLT, Nat.reduceEqDiff, ↓reduceIte, reduceCtorEq, Nat.reduceAdd, Int.reduceLT, Int.reduceNeg, decide_true, decide_false, Bool.not_true, Bool.not_false, ne_eq, not_true_eq_false, not_false_eq_true, List.append_nil, Bool.false_eq_true, List.getElem?_cons_zero, List.getElem?_cons_succ, and_self, and_true, true_and, FB0, FB1, vload_obj hub1 G4, vload_obj hub1 G22, hub2.len T22, hr0, hy, BM0, IsM.put n12 (show one V.nils = true from rfl), fin _ _ _ _ _ _ n12]
          refine ⟨_, rfl, stay n12 k12 _ _, ?_⟩
          rw [hD]
          exact ⟨.nils, rfl, ItemsV.nil⟩
        · have hmi : m.items = l := by rw [hm]
          obtain ⟨t13, hd13, k13⟩ := refvalid22_does (m := m) (w := w) (by rw [hmi]; exact hw) (by rw [hmi]; have := hrI.2.2.1; omega) t12
          have q13 : IsM t13 q m w := k13.1 _ _ q12
          have n13 : IsM t13 σ.objs.length msg0 .nils := k13.1 _ _ n12
          simp only [k30_r0_e, k30_r1_e, k30_r2_e, k30_r3_e, k30_r4_e, k30_r5_e, k30_r6_e, k30_r7_e, k30_r8_e, k30_r9_e, k30_r10_e, k30_r11_e, k30_r12_e, k30_r13_e, k30_r14_e, k30_r15_e, k30_r16_e, k30_e, WK0, WK1, WK2, WK3, WK4, WK5, true_implies, vop, evAll, evOpt, evParts, vbuiltin, vun, vextract, Option.map_some, Option.map_none, Nat.reduceLT, Nat.reduceEqDiff, ↓reduceIte, reduceCtorEq, Nat.reduceAdd, Int.reduceLT, Int.reduceNeg, decide_true, decide_false, Bool.not_true, Bool.not_false, ne_eq, not_true_eq_false, not_false_eq_true, List.append_nil, Bool.false_eq_true, List.getElem?_cons_zero, List.getElem?_cons_succ, and_self, and_true, true_and, FB0, FB1, vload_obj hub1 G4, vload_obj hub1 G22, hub2.len T22, hr0, hy, q12.load]
          refine KD.ret hd13 ?_
          cases hok : msgOk m with
          | false =>
            rw [hok, if_neg (fun hh => by have := hh.2.2; cases this)] at hD
            simp only [k30_r0_e, k30_r1_e, k30_r2_e, k30_r3_e, k30_r4_e, k30_r5_e, k30_r6_e, k30_r7_e, k30_r8_e, k30_r9_e, k30_r10_e, k30_r11_e, k30_r12_e, k30_r13_e, k30_r14_e, k30_r15_e, k30_r16_e, k30_e, WK0, WK1, WK2, WK3, WK4, WK5, true_implies, vop, evAll, evOpt, evParts, vbuiltin, vun, vextract, Option.map_some, Option.map_none, Nat.reduceLT, Nat.reduceEqDiff, ↓reduceIte, reduceCtorEq, Nat.reduceAdd, Int.reduceLT, Int.reduceNeg, decide_true, decide_false, Bool.not_true, Bool.not_false, ne_eq, not_true_eq_false, not_false_eq_true, List.append_nil, Bool.false_eq_true, List.getElem?_cons_zero, List.getElem?_cons_succ, and_self, and_true, true_and, BM0, IsM.put n13 (show one V.nils = true from rfl), fin _ _ _ _ _ _ n13]
            refine ⟨_, rfl, stay n13 (k12.trans k13) _ _, ?_⟩
            rw [hD]
            exact ⟨.nils, rfl, ItemsV.nil⟩
          | true =>
            rw [hok, if_pos ⟨by omega, by omega, rfl⟩] at hD
            simp only [k30_r0_e, k30_r1_e, k30_r2_e, k30_r3_e, k30_r4_e, k30_r5_e, k30_r6_e, k30_r7_e, k30_r8_e, k30_r9_e, k30_r10_e, k30_r11_e, k30_r12_e, k30_r13_e, k30_r14_e, k30_r15_e, k30_r16_e, k30_e, WK0, WK1, WK2, WK3, WK4, WK5, true_implies, vop, evAll, evOpt, evParts, vbuiltin, vun, vextract, Option.map_some, Option.map_none, Nat.reduceLT, Nat.reduceEqDiff, ↓reduceIte, reduceCtorEq, Nat.reduceAdd, Int.reduceLT, Int.reduceNeg, decide_true, decide_false, Bool.not_true, Bool.not_false, ne_eq, not_true_eq_false, not_false_eq_true, List.append_nil, Bool.false_eq_true, List.getElem?_cons_zero, List.getElem?_cons_succ, and_self, and_true, true_and, q13.load, IsM.put n13 hw.one, fin _ _ _ _ _ _ n13]
            refine ⟨_, rfl, stay n13 (k12.trans k13) _ _, ?_⟩
            rw [hD]
            exact ⟨w, rfl, by rw [show (some m).getD msg0 = m from rfl, hmi]; exact hw⟩
  obtain ⟨q, σ', h1, r, rfl, h2, h3⟩ := key
  exact ⟨r, σ', h1, h2, h3⟩
end Go.Proofs.Ytcogghmmlndmgaa.Q
