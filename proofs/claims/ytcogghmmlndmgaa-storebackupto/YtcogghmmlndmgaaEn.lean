import Derived.Test.YtcogghmmlndmgaaEm
set_option linter.unusedVariables false
set_option linter.unusedSimpArgs false
namespace Go.Proofs.Ytcogghmmlndmgaa.Q
open Go Go.RowKit Go.Proofs

theorem ZM : zeroT Try.prog 24 = some (.agg (msgCells msg0 .nils)) := by kernel_rfl
theorem BM0 : vbuild Try.prog 24 [] = some (.agg (msgCells msg0 .nils)) := by kernel_rfl
theorem BM1 (a : Int) : vbuild Try.prog 24 [(0, .int .i64 a)] = some (.agg (msgCells { msg0 with src := a } .nils)) := by kernel_rfl
theorem BM7 (a b c d e f g : Int) : vbuild Try.prog 24 [(0, .int .i64 a), (1, .int .i64 b), (2, .int .i64 c), (3, .int .i64 d), (4, .int .i64 e), (5, .int .i64 f), (6, .int .i64 g)] = some (.agg (msgCells ⟨a, b, c, d, e, f, g, false, [], []⟩ .nils)) := by kernel_rfl

theorem msgCells_len (m : Msg) (w : V) : (msgCells m w).length = 10 := rfl
theorem msgCells_one {m : Msg} {w : V} (h : one w = true) : (msgCells m w).all one = true := by
  simp only [msgCells, List.all_cons, List.all_nil, h]
  rfl
theorem IsM.new {σ : St} {o m : Msg} {u w : V} (h : one w = true) : vstore Try.prog ⟨σ.objs ++ [Ob.cells (msgCells o u)], σ.toks⟩ 24 (.optr σ.objs.length 0) (.agg (msgCells m w)) = some ⟨(σ.objs ++ [Ob.cells (msgCells o u)]).set σ.objs.length (Ob.cells (msgCells m w)), σ.toks⟩ :=
  vstore_agg (push_new _ _) SM rfl (msgCells_one h)
section
variable {σ : St} {q : Nat} {m : Msg} {w : V}
theorem IsM.put {o : Msg} {u : V} (h : IsM σ q o u) (h1 : one w = true) : vstore Try.prog σ 24 (.optr q 0) (.agg (msgCells m w)) = some ⟨σ.objs.set q (.cells (msgCells m w)), σ.toks⟩ :=
  vstore_agg h SM rfl (msgCells_one h1)
theorem IsM.put1 (h : IsM σ q m w) (n : Int) : vstore Try.prog σ 3 (.optr q 1) (.int .i64 n) = some ⟨σ.objs.set q (Ob.cells (msgCells { m with dst := n } w)), σ.toks⟩ := by
  rw [vstore_obj h S3 rfl (by simp [msgCells])]; rfl
theorem IsM.put2 (h : IsM σ q m w) (n : Int) : vstore Try.prog σ 3 (.optr q 2) (.int .i64 n) = some ⟨σ.objs.set q (Ob.cells (msgCells { m with kind := n } w)), σ.toks⟩ := by
  rw [vstore_obj h S3 rfl (by simp [msgCells])]; rfl
theorem IsM.put3 (h : IsM σ q m w) (n : Int) : vstore Try.prog σ 3 (.optr q 3) (.int .i64 n) = some ⟨σ.objs.set q (Ob.cells (msgCells { m with term := n } w)), σ.toks⟩ := by
  rw [vstore_obj h S3 rfl (by simp [msgCells])]; rfl
theorem IsM.put4 (h : IsM σ q m w) (n : Int) : vstore Try.prog σ 3 (.optr q 4) (.int .i64 n) = some ⟨σ.objs.set q (Ob.cells (msgCells { m with last := n } w)), σ.toks⟩ := by
  rw [vstore_obj h S3 rfl (by simp [msgCells])]; rfl
theorem IsM.put5 (h : IsM σ q m w) (n : Int) : vstore Try.prog σ 3 (.optr q 5) (.int .i64 n) = some ⟨σ.objs.set q (Ob.cells (msgCells { m with lterm := n } w)), σ.toks⟩ := by
  rw [vstore_obj h S3 rfl (by simp [msgCells])]; rfl
theorem IsM.put6 (h : IsM σ q m w) (n : Int) : vstore Try.prog σ 3 (.optr q 6) (.int .i64 n) = some ⟨σ.objs.set q (Ob.cells (msgCells { m with com := n } w)), σ.toks⟩ := by
  rw [vstore_obj h S3 rfl (by simp [msgCells])]; rfl
theorem IsM.put7 (h : IsM σ q m w) (b : Bool) : vstore Try.prog σ 4 (.optr q 7) (.bool b) = some ⟨σ.objs.set q (Ob.cells (msgCells { m with yes := b } w)), σ.toks⟩ := by
  rw [vstore_obj h S4 rfl (by simp [msgCells])]; rfl
theorem IsM.put8 (h : IsM σ q m w) {l : List Itm} {u : V} (hu : ItemsV u l) : vstore Try.prog σ 22 (.optr q 8) u = some ⟨σ.objs.set q (Ob.cells (msgCells { m with items := l } u)), σ.toks⟩ := by
  rw [vstore_obj h SIs hu.one (by simp [msgCells])]; rfl
theorem IsM.put9 (h : IsM σ q m w) (s : List UInt8) : vstore Try.prog σ 9 (.optr q 9) (.str s) = some ⟨σ.objs.set q (Ob.cells (msgCells { m with book := s } w)), σ.toks⟩ := by
  rw [vstore_obj h S9 rfl (by simp [msgCells])]; rfl
theorem IsM.step {o : Msg} {u : V} (h : IsM σ q o u) {σ' : St} (hs : σ' = ⟨σ.objs.set q (Ob.cells (msgCells m w)), σ.toks⟩) : IsM σ' q m w ∧ KeepX q σ σ' := by
  subst hs
  exact ⟨obj_set h, KeepX.set q _ _⟩
end

/-- What Decode answers. -/
def MsgR (o : Option Msg) (v : V) : Prop := ∃ w, v = .tuple [.agg (msgCells (o.getD msg0) w), .int .i64 (if o.isSome then 0 else 11)] ∧ ItemsV w (o.getD msg0).items

theorem decode_eq {b : List UInt8} {a1 a2 a3 a4 a5 a6 a7 a8 a9 : Nat × List UInt8 × Bool} {c : List UInt8 × List UInt8 × Bool} (h1 : a1 = numS b false) (h2 : a2 = numS a1.2.1 a1.2.2) (h3 : a3 = numS a2.2.1 a2.2.2) (h4 : a4 = numS a3.2.1 a3.2.2) (h5 : a5 = numS a4.2.1 a4.2.2) (h6 : a6 = numS a5.2.1 a5.2.2) (h7 : a7 = numS a6.2.1 a6.2.2) (h8 : a8 = numS a7.2.1 a7.2.2) (h9 : a9 = numS a8.2.1 a8.2.2) (hc : c = bytS a9.2.1 a9.2.2 (a9.1 : Nat)) {I : Option (List Itm × List UInt8)} (hI : I = readItemsS c.2.1 c.2.2 16) :
    (I = none → decodeS b = none) ∧ ∀ l r, I = some (l, r) → decodeS b = if r.length = 0 ∧ a8.1 ≤ 1 ∧ msgOk ⟨(a1.1 : Nat), (a2.1 : Nat), (a3.1 : Nat), (a4.1 : Nat), (a5.1 : Nat), (a6.1 : Nat), (a7.1 : Nat), decide (((a8.1 : Nat) : Int) = 1), l, c.1⟩ = true then some ⟨(a1.1 : Nat), (a2.1 : Nat), (a3.1 : Nat), (a4.1 : Nat), (a5.1 : Nat), (a6.1 : Nat), (a7.1 : Nat), decide (((a8.1 : Nat) : Int) = 1), l, c.1⟩ else none := by
  have h := readMsgS_eq h1 h2 h3 h4 h5 h6 h7 h8 h9 hc
  rw [← hI] at h
  constructor
  · rintro rfl
    simp only at h
    unfold decodeS
    rw [h]
  · rintro l r rfl
    simp only at h
    unfold decodeS
    rw [h]
    by_cases hcnd : a8.1 ≤ 1 ∧ msgOk ⟨(a1.1 : Nat), (a2.1 : Nat), (a3.1 : Nat), (a4.1 : Nat), (a5.1 : Nat), (a6.1 : Nat), (a7.1 : Nat), decide (((a8.1 : Nat) : Int) = 1), l, c.1⟩ = true
    · rw [if_pos hcnd]
      cases r with
      | nil => simp [hcnd.1, hcnd.2]
      | cons x r => simp
    · rw [if_neg hcnd]
      rw [if_neg (fun hh => hcnd hh.2)]

theorem decode22_does {v : V} {bs : List UInt8} (hv : BtsV v bs) (hlen : bs.length ≤ 1000000000) (σ : St) :
    ∃ r σ', Does Try.prog noPrim 29 [v] σ (.ret r) σ' ∧ Keep σ σ' ∧ MsgR (decodeS bs) r := by
  have key : ∃ q σ', Does Try.prog noPrim 29 [v] σ q σ' ∧ ∃ r, q = .ret r ∧ Keep σ σ' ∧ MsgR (decodeS bs) r := by
    apply k29_is.does (by simp)
    have hn0 : IsM ⟨σ.objs ++ [.cells (msgCells msg0 .nils)], σ.toks⟩ σ.objs.length msg0 .nils := push_new _ _
    have hk0 := (Keep.refl σ).push (.cells (msgCells msg0 .nils))
    obtain ⟨rr, σ1, hd1, hk1, hrr, hr1⟩ := new_does hv (by omega) ⟨σ.objs ++ [.cells (msgCells msg0 .nils)], σ.toks⟩
    have hrr' : rr = σ.objs.length + 1 := by rw [hrr]; simp
    have hle : σ.objs.length ≤ rr := by omega
    have hne : σ.objs.length ≠ rr := by omega
    obtain ⟨a1, s1, ha1, hd2, x1, hr2, b1⟩ := number_step hr1 hlen (by omega)
    obtain ⟨a2, s2, ha2, hd3, x2, hr3, b2⟩ := number_step hr2 b1 (by omega)
    obtain ⟨a3, s3, ha3, hd4, x3, hr4, b3⟩ := number_step hr3 b2 (by omega)
    obtain ⟨a4, s4, ha4, hd5, x4, hr5, b4⟩ := number_step hr4 b3 (by omega)
    obtain ⟨a5, s5, ha5, hd6, x5, hr6, b5⟩ := number_step hr5 b4 (by omega)
    obtain ⟨a6, s6, ha6, hd7, x6, hr7, b6⟩ := number_step hr6 b5 (by omega)
    obtain ⟨a7, s7, ha7, hd8, x7, hr8, b7⟩ := number_step hr7 b6 (by omega)
    have x17 : KeepX rr σ1 s7 := (((((x1.trans x2).trans x3).trans x4).trans x5).trans x6).trans x7
    have k7 : Keep σ s7 := (hk0.trans hk1).viaX x17 hle
    have n7 : IsM s7 σ.objs.length msg0 .nils := x17.1 _ _ hne (hk1.1 _ _ hn0)
    have bld := BM7 (a1.1 : Nat) (a2.1 : Nat) (a3.1 : Nat) (a4.1 : Nat) (a5.1 : Nat) (a6.1 : Nat) (a7.1 : Nat)
    obtain ⟨m1, hm1⟩ : ∃ m1 : Msg, m1 = ⟨(a1.1 : Nat), (a2.1 : Nat), (a3.1 : Nat), (a4.1 : Nat), (a5.1 : Nat), (a6.1 : Nat), (a7.1 : Nat), false, [], []⟩ := ⟨_, rfl⟩
    rw [← hm1] at bld
    simp only [k29_r0_e, k29_r1_e, k29_r2_e, k29_r3_e, k29_r4_e, k29_r5_e, k29_r6_e, k29_r7_e, k29_r8_e, k29_r9_e, k29_e, WK0, WK1, WK2, WK3, WK4, WK5, true_implies, vop, evAll, evOpt, evParts, vbuiltin, vun, vextract, Option.map_some, Option.map_none, Nat.reduceLT, Nat.reduceEqDiff, ↓reduceIte, reduceCtorEq, Nat.reduceAdd, Int.reduceLT, Int.reduceNeg, decide_true, decide_false, Bool.not_true, Bool.not_false, ne_eq, not_true_eq_false, not_false_eq_true, List.append_nil, Bool.false_eq_true, List.getElem?_cons_zero, List.getElem?_cons_succ, and_self, and_true, true_and, List.getD_cons_zero, ZM, vbox, vcells]
    refine KD.ret hd1 ?_
    simp only [k29_r0_e, k29_r1_e, k29_r2_e, k29_r3_e, k29_r4_e, k29_r5_e, k29_r6_e, k29_r7_e, k29_r8_e, k29_r9_e, k29_e, WK0, WK1, WK2, WK3, WK4, WK5, true_implies, vop, evAll, evOpt, evParts, vbuiltin, vun, vextract, Option.map_some, Option.map_none, Nat.reduceLT, Nat.reduceEqDiff, ↓reduceIte, reduceCtorEq, Nat.reduceAdd, Int.reduceLT, Int.reduceNeg, decide_true, decide_false, Bool.not_true, Bool.not_false, ne_eq, not_true_eq_false, not_false_eq_true, List.append_nil, Bool.false_eq_true, List.getElem?_cons_zero, List.getElem?_cons_succ, and_self, and_true, true_and, List.getD_cons_zero, ZM, vbox, vcells]
    refine KD.ret hd2 ?_
    simp only [WK0, WK1, WK2, WK3, WK4, WK5, true_implies, vop, evAll, evOpt, evParts, vbuiltin, vun, vextract, Option.map_some, Option.map_none, Nat.reduceLT, Nat.reduceEqDiff, ↓reduceIte, reduceCtorEq, Nat.reduceAdd, Int.reduceLT, Int.reduceNeg, decide_true, decide_false, Bool.not_true, Bool.not_false, ne_eq, not_true_eq_false, not_false_eq_true, List.append_nil, Bool.false_eq_true, List.getElem?_cons_zero, List.getElem?_cons_succ, and_self, and_true, true_and]
    refine KD.ret hd3 ?_
    simp only [WK0, WK1, WK2, WK3, WK4, WK5, true_implies, vop, evAll, evOpt, evParts, vbuiltin, vun, vextract, Option.map_some, Option.map_none, Nat.reduceLT, Nat.reduceEqDiff, ↓reduceIte, reduceCtorEq, Nat.reduceAdd, Int.reduceLT, Int.reduceNeg, decide_true, decide_false, Bool.not_true, Bool.not_false, ne_eq, not_true_eq_false, not_false_eq_true, List.append_nil, Bool.false_eq_true, List.getElem?_cons_zero, List.getElem?_cons_succ, and_self, and_true, true_and]
    refine KD.ret hd4 ?_
    simp only [WK0, WK1, WK2, WK3, WK4, WK5, true_implies, vop, evAll, evOpt, evParts, vbuiltin, vun, vextract, Option.map_some, Option.map_none, Nat.reduceLT, Nat.reduceEqDiff, ↓reduceIte, reduceCtorEq, Nat.reduceAdd, Int.reduceLT, Int.reduceNeg, decide_true, decide_false, Bool.not_true, Bool.not_false, ne_eq, not_true_eq_false, not_false_eq_true, List.append_nil, Bool.false_eq_true, List.getElem?_cons_zero, List.getElem?_cons_succ, and_self, and_true, true_and]
    refine KD.ret hd5 ?_
    simp only [WK0, WK1, WK2, WK3, WK4, WK5, true_implies, vop, evAll, evOpt, evParts, vbuiltin, vun, vextract, Option.map_some, Option.map_none, Nat.reduceLT, Nat.reduceEqDiff, ↓reduceIte, reduceCtorEq, Nat.reduceAdd, Int.reduceLT, Int.reduceNeg, decide_true, decide_false, Bool.not_true, Bool.not_false, ne_eq, not_true_eq_false, not_false_eq_true, List.append_nil, Bool.false_eq_true, List.getElem?_cons_zero, List.getElem?_cons_succ, and_self, and_true, true_and]
    refine KD.ret hd6 ?_
    simp only [WK0, WK1, WK2, WK3, WK4, WK5, true_implies, vop, evAll, evOpt, evParts, vbuiltin, vun, vextract, Option.map_some, Option.map_none, Nat.reduceLT, Nat.reduceEqDiff, ↓reduceIte, reduceCtorEq, Nat.reduceAdd, Int.reduceLT, Int.reduceNeg, decide_true, decide_false, Bool.not_true, Bool.not_false, ne_eq, not_true_eq_false, not_false_eq_true, List.append_nil, Bool.false_eq_true, List.getElem?_cons_zero, List.getElem?_cons_succ, and_self, and_true, true_and]
    refine KD.ret hd7 ?_
    simp only [WK0, WK1, WK2, WK3, WK4, WK5, true_implies, vop, evAll, evOpt, evParts, vbuiltin, vun, vextract, Option.map_some, Option.map_none, Nat.reduceLT, Nat.reduceEqDiff, ↓reduceIte, reduceCtorEq, Nat.reduceAdd, Int.reduceLT, Int.reduceNeg, decide_true, decide_false, Bool.not_true, Bool.not_false, ne_eq, not_true_eq_false, not_false_eq_true, List.append_nil, Bool.false_eq_true, List.getElem?_cons_zero, List.getElem?_cons_succ, and_self, and_true, true_and]
    refine KD.ret hd8 ?_
    simp only [k29_r0_e, k29_r1_e, k29_r2_e, k29_r3_e, k29_r4_e, k29_r5_e, k29_r6_e, k29_r7_e, k29_r8_e, k29_r9_e, k29_e, WK0, WK1, WK2, WK3, WK4, WK5, true_implies, vop, evAll, evOpt, evParts, vbuiltin, vun, vextract, Option.map_some, Option.map_none, Nat.reduceLT, Nat.reduceEqDiff, ↓reduceIte, reduceCtorEq, Nat.reduceAdd, Int.reduceLT, Int.reduceNeg, decide_true, decide_false, Bool.not_true, Bool.not_false, ne_eq, not_true_eq_false, not_false_eq_true, List.append_nil, Bool.false_eq_true, List.getElem?_cons_zero, List.getElem?_cons_succ, and_self, and_true, true_and, ZM, vbox, vcells, bld, IsM.new (show one V.nils = true from rfl)]
    have hq := hr8.lt
    obtain ⟨q, hqe⟩ : ∃ q, q = s7.objs.length := ⟨_, rfl⟩
    rw [← hqe] at hq ⊢
    obtain ⟨t1, ht1⟩ : ∃ t1 : St, t1 = ⟨(s7.objs ++ [Ob.cells (msgCells msg0 .nils)]).set q (Ob.cells (msgCells m1 .nils)), s7.toks⟩ := ⟨_, rfl⟩
    have q1 : IsM t1 q m1 .nils := by rw [ht1, hqe]; exact obj_set (push_new _ _)
    have y1 : KeepX q s7 t1 := by rw [ht1]; exact ((KeepX.refl q s7).push _).trans (KeepX.set q _ _)
    have hql : σ.objs.length < q := by rw [hqe]; exact (List.getElem?_eq_some_iff.1 n7).1
    rw [← ht1]
    obtain ⟨a8, t2, ha8, he1, x8, hs1, b8⟩ := number_step (hr8.keep y1 (by omega)) b7 (by omega)
    obtain ⟨a9, t3, ha9, he2, x9, hs2, b9⟩ := number_step hs1 b8 (by omega)
    obtain ⟨c, u, t4, hc, he3, x10, hs3, hu, bc, bc'⟩ := bytes_step hs2 b9 (by omega) (a9.1 : Nat)
    have x14 : KeepX rr t1 t4 := (x8.trans x9).trans x10
    have k4 : Keep σ t4 := (k7.viaX y1 (by omega)).viaX x14 hle
    have n4 : IsM t4 σ.objs.length msg0 .nils := x14.1 _ _ hne (y1.1 _ _ (by omega) n7)
    have q4 : IsM t4 q m1 .nils := x14.1 _ _ (by omega) q1
    refine KD.ret he1 ?_
    simp only [k29_r0_e, k29_r1_e, k29_r2_e, k29_r3_e, k29_r4_e, k29_r5_e, k29_r6_e, k29_r7_e, k29_r8_e, k29_r9_e, k29_e, WK0, WK1, WK2, WK3, WK4, WK5, true_implies, vop, evAll, evOpt, evParts, vbuiltin, vun, vextract, Option.map_some, Option.map_none, Nat.reduceLT, Nat.reduceEqDiff, ↓reduceIte, reduceCtorEq, Nat.reduceAdd, Int.reduceLT, Int.reduceNeg, decide_true, decide_false, Bool.not_true, Bool.not_false, ne_eq, not_true_eq_false, not_false_eq_true, List.append_nil, Bool.false_eq_true, List.getElem?_cons_zero, List.getElem?_cons_succ, and_self, and_true, true_and]
    refine KD.ret he2 ?_
    simp only [WK0, WK1, WK2, WK3, WK4, WK5, true_implies, vop, evAll, evOpt, evParts, vbuiltin, vun, vextract, Option.map_some, Option.map_none, Nat.reduceLT, Nat.reduceEqDiff, ↓reduceIte, reduceCtorEq, Nat.reduceAdd, Int.reduceLT, Int.reduceNeg, decide_true, decide_false, Bool.not_true, Bool.not_false, ne_eq, not_true_eq_false, not_false_eq_true, List.append_nil, Bool.false_eq_true, List.getElem?_cons_zero, List.getElem?_cons_succ, and_self, and_true, true_and]
    refine KD.ret he3 ?_
    simp only [WK0, WK1, WK2, WK3, WK4, WK5, true_implies, vop, evAll, evOpt, evParts, vbuiltin, vun, vextract, Option.map_some, Option.map_none, Nat.reduceLT, Nat.reduceEqDiff, ↓reduceIte, reduceCtorEq, Nat.reduceAdd, Int.reduceLT, Int.reduceNeg, decide_true, decide_false, Bool.not_true, Bool.not_false, ne_eq, not_true_eq_false, not_false_eq_true, List.append_nil, Bool.false_eq_true, List.getElem?_cons_zero, List.getElem?_cons_succ, and_self, and_true, true_and, hu.str T22 U27 T9, FM7, FM9, q4.put7]
    obtain ⟨yes, hyes⟩ : ∃ yes, yes = decide (((a8.1 : Nat) : Int) = 1) := ⟨_, rfl⟩
    rw [← hyes]
    obtain ⟨t5, ht5⟩ : ∃ t5 : St, t5 = ⟨t4.objs.set q (Ob.cells (msgCells { m1 with yes := yes } .nils)), t4.toks⟩ := ⟨_, rfl⟩
    obtain ⟨q5, y5⟩ := q4.step ht5
    rw [← ht5]
    simp only [q5.put9, WK0, WK1, WK2, WK3, WK4, WK5, true_implies, vop, evAll, evOpt, evParts, vbuiltin, vun, vextract, Option.map_some, Option.map_none, Nat.reduceLT, Nat.reduceEqDiff, ↓reduceIte, reduceCtorEq, Nat.reduceAdd, Int.reduceLT, Int.reduceNeg, decide_true, decide_false, Bool.not_true, Bool.not_false, ne_eq, not_true_eq_false, not_false_eq_true, List.append_nil, Bool.false_eq_true, List.getElem?_cons_zero, List.getElem?_cons_succ, and_self, and_true, true_and]
    obtain ⟨t6, ht6⟩ : ∃ t6 : St, t6 = ⟨t5.objs.set q (Ob.cells (msgCells { m1 with yes := yes, book := c.1 } .nils)), t5.toks⟩ := ⟨_, rfl⟩
    obtain ⟨q6, y6⟩ := q5.step ht6
    rw [← ht6]
    obtain ⟨z, t7, he4, x11, hR⟩ := readitems_does ((hs3.keep y5 (by omega)).keep y6 (by omega)) (by omega) 16
    obtain ⟨I, hI⟩ : ∃ I, I = readItemsS c.2.1 c.2.2 16 := ⟨_, rfl⟩
    rw [← hI] at hR
    obtain ⟨dN, dS⟩ := decode_eq ha1 ha2 ha3 ha4 ha5 ha6 ha7 ha8 ha9 hc hI
    have k7' : Keep σ t7 := ((k4.viaX y5 (by omega)).viaX y6 (by omega)).viaX x11 hle
    have n7' : IsM t7 σ.objs.length msg0 .nils := x11.1 _ _ hne (y6.1 _ _ (by omega) (y5.1 _ _ (by omega) n4))
    have q7 : IsM t7 q { m1 with yes := yes, book := c.1 } .nils := x11.1 _ _ (by omega) q6
    have fin : ∀ (σ : St) (r : Nat) (o m : Msg) (u w : V), IsM σ r o u → vload Try.prog (σ.objs.set r (Ob.cells (msgCells m w))) 24 (.optr r 0) = some (.agg (msgCells m w)) := fun σ r o m u w h => IsM.load (σ := ⟨σ.objs.set r (.cells (msgCells m w)), σ.toks⟩) (obj_set h)
    have stay : ∀ {σ1 : St}, IsM σ1 σ.objs.length msg0 .nils → Keep σ σ1 → ∀ (m : Msg) (w : V), Keep σ ⟨σ1.objs.set σ.objs.length (Ob.cells (msgCells m w)), σ1.toks⟩ := fun h hk m w => hk.setNew (Nat.le_refl _) _
    simp only [k29_r0_e, k29_r1_e, k29_r2_e, k29_r3_e, k29_r4_e, k29_r5_e, k29_r6_e, k29_r7_e, k29_r8_e, k29_r9_e, k29_e, WK0, WK1, WK2, WK3, WK4, WK5, true_implies, vop, evAll, evOpt, evParts, vbuiltin, vun, vextract, Option.map_some, Option.map_none, Nat.reduceLT, Nat.reduceEqDiff, ↓reduceIte, reduceCtorEq, Nat.reduceAdd, Int.reduceLT, Int.reduceNeg, decide_true, decide_false, Bool.not_true, Bool.not_false, ne_eq, not_true_eq_false, not_false_eq_true, List.append_nil, Bool.false_eq_true, List.getElem?_cons_zero, List.getElem?_cons_succ, and_self, and_true, true_and]
    refine KD.ret he4 ?_
    cases I with
    | none =>
      simp only [ItemsR] at hR
      subst hR
      simp only [k29_r0_e, k29_r1_e, k29_r2_e, k29_r3_e, k29_r4_e, k29_r5_e, k29_r6_e, k29_r7_e, k29_r8_e, k29_r9_e, k29_e, WK0, WK1, WK2, WK3, WK4, WK5, true_implies, vop, evAll, evOpt, evParts, vbuiltin, vun, vextract, Option.map_some, Option.map_none, Nat.reduceLT, Nat.reduceEqDiff, ↓reduceIte, reduceCtorEq, Nat.reduceAdd, Int.reduceLT, Int.reduceNeg, decide_true, decide_false, Bool.not_true, Bool.not_false, ne_eq, not_true_eq_false, not_false_eq_true, List.append_nil, Bool.false_eq_true, List.getElem?_cons_zero, List.getElem?_cons_succ, and_self, and_true, true_and, FM8, q7.put8 ItemsV.nil]
      obtain ⟨t8, ht8⟩ : ∃ t8 : St, t8 = ⟨t7.objs.set q (Ob.cells (msgCells { m1 with yes := yes, book := c.1 } .nils)), t7.toks⟩ := ⟨_, rfl⟩
      obtain ⟨q8, y8⟩ := q7.step ht8
      have hitm : { ({ m1 with yes := yes, book := c.1 } : Msg) with items := [] } = { m1 with yes := yes, book := c.1 } := by rw [hm1]
      rw [hitm, ← ht8]
      have n8 := y8.1 _ _ (by omega) n7'
      simp only [BM0, IsM.put n8 (show one V.nils = true from rfl), fin _ _ _ _ _ _ n8, WK0, WK1, WK2, WK3, WK4, WK5, true_implies, vop, evAll, evOpt, evParts, vbuiltin, vun, vextract, Option.map_some, Option.map_none, Nat.reduceLT, Nat.reduceEqDiff, ↓reduceIte, reduceCtorEq, Nat.reduceAdd, Int.reduceLT, Int.reduceNeg, decide_true, decide_false, Bool.not_true, Bool.not_false, ne_eq, not_true_eq_false, not_false_eq_true, List.append_nil, Bool.false_eq_true, List.getElem?_cons_zero, List.getElem?_cons_succ, and_self, and_true, true_and]
      refine ⟨_, rfl, stay n8 (k7'.viaX y8 (by omega)) _ _, ?_⟩
      rw [dN rfl]
      exact ⟨.nils, rfl, ItemsV.nil⟩
    | some p =>
      obtain ⟨l, r⟩ := p
      simp only [ItemsR] at hR
      obtain ⟨w, rfl, hw, hs4⟩ := hR
      simp only [k29_r0_e, k29_r1_e, k29_r2_e, k29_r3_e, k29_r4_e, k29_r5_e, k29_r6_e, k29_r7_e, k29_r8_e, k29_r9_e, k29_e, WK0, WK1, WK2, WK3, WK4, WK5, true_implies, vop, evAll, evOpt, evParts, vbuiltin, vun, vextract, Option.map_some, Option.map_none, Nat.reduceLT, Nat.reduceEqDiff, ↓reduceIte, reduceCtorEq, Nat.reduceAdd, Int.reduceLT, Int.reduceNeg, decide_true, decide_false, Bool.not_true, Bool.not_false, ne_eq, not_true_eq_false, not_false_eq_true, List.append_nil, Bool.false_eq_true, List.getElem?_cons_zero, List.getElem?_cons_succ, and_self, and_true, true_and, FM8, q7.put8 hw]
      obtain ⟨m, hm⟩ : ∃ m : Msg, m = { m1 with yes := yes, items := l, book := c.1 } := ⟨_, rfl⟩
      obtain ⟨t8, ht8⟩ : ∃ t8 : St, t8 = ⟨t7.objs.set q (Ob.cells (msgCells m w)), t7.toks⟩ := ⟨_, rfl⟩
      obtain ⟨q8, y8⟩ := q7.step ht8
      have n8 := y8.1 _ _ (by omega) n7'
      have k8 : Keep σ t8 := k7'.viaX y8 (by omega)
      have hmw : msgCells { ({ m1 with yes := yes, book := c.1 } : Msg) with items := l } w = msgCells m w := by rw [hm]
      rw [hmw, ← ht8]
      have hD := dS l r rfl
      have hmE : (⟨(a1.1 : Nat), (a2.1 : Nat), (a3.1 : Nat), (a4.1 : Nat), (a5.1 : Nat), (a6.1 : Nat), (a7.1 : Nat), decide (((a8.1 : Nat) : Int) = 1), l, c.1⟩ : Msg) = m := by rw [hm, hm1, hyes]
      rw [hmE] at hD
      have hde := end_does (hs4.keep y8 (by omega))
      refine KD.ret hde ?_
      have hrI := readItemsS_some hI.symm
      cases hr0 : decide ((r.length : Int) = 0) with
      | false =>
        have : ¬ r.length = 0 := by simpa using hr0
        rw [if_neg (fun hh => this hh.1)] at hD
        simp only [k29_r0_e, k29_r1_e, k29_r2_e, k29_r3_e, k29_r4_e, k29_r5_e, k29_r6_e, k29_r7_e, k29_r8_e, k29_r9_e, k29_e, WK0, WK1, WK2, WK3, WK4, WK5, true_implies, vop, evAll, evOpt, evParts, vbuiltin, vun, vextract, Option.map_some, Option.map_none, Nat.reduceLT, Nat.reduceEqDiff, ↓reduceIte, reduceCtorEq, Nat.reduceAdd, Int.reduceLT, Int.reduceNeg, decide_true, decide_false, Bool.not_true, Bool.not_false, ne_eq, not_true_eq_false, not_false_eq_true, List.append_nil, Bool.false_eq_true, List.getElem?_cons_zero, List.getElem?_cons_succ, and_self, and_true, true_and, Bool.true_and, BM0, IsM.put n8 (show one V.nils = true from rfl), fin _ _ _ _ _ _ n8]
        refine ⟨_, rfl, stay n8 k8 _ _, ?_⟩
        rw [hD]
        exact ⟨.nils, rfl, ItemsV.nil⟩
      | true =>
      have hr0' : r.length = 0 := by simpa using hr0
      by_cases hy : (1 : Int) < (a8.1 : Nat)
      · rw [if_neg (fun hh => by have := hh.2.1; omega)] at hD
        simp only [k29_r0_e, k29_r1_e, k29_r2_e, k29_r3_e, k29_r4_e, k29_r5_e, k29_r6_e, k29_r7_e, k29_r8_e, k29_r9_e, k29_e, WK0, WK1, WK2, WK3, WK4, WK5, true_implies, vop, evAll, evOpt, evParts, vbuiltin, vun, vextract, Option.map_some, Option.map_none, Nat.reduceLT, Nat.reduceEqDiff, ↓reduceIte, reduceCtorEq, Nat.reduceAdd, Int.reduceLT, Int.reduceNeg, decide_true, decide_false, Bool.not_true, Bool.not_false, ne_eq, not_true_eq_false, not_false_eq_true, List.append_nil, Bool.false_eq_true, List.getElem?_cons_zero, List.getElem?_cons_succ, and_self, and_true, true_and, Bool.true_and, hy, BM0, IsM.put n8 (show one V.nils = true from rfl), fin _ _ _ _ _ _ n8]
        refine ⟨_, rfl, stay n8 k8 _ _, ?_⟩
        rw [hD]
        exact ⟨.nils, rfl, ItemsV.nil⟩
      · have hmi : m.items = l := by rw [hm]
        obtain ⟨t9, hd9, k9⟩ := valid22_does (m := m) (w := w) (by rw [hmi]; exact hw) (by rw [hmi]; exact fun x hx => ⟨(hrI.2.2.2.2.2 x hx).2.1, by have := of_decide_eq_true (hrI.2.2.2.2.2 x hx).1; omega⟩) (by rw [hmi]; have := hrI.2.2.1; omega) t8
        have q9 : IsM t9 q m w := k9.1 _ _ q8
        have n9 : IsM t9 σ.objs.length msg0 .nils := k9.1 _ _ n8
        simp only [k29_r0_e, k29_r1_e, k29_r2_e, k29_r3_e, k29_r4_e, k29_r5_e, k29_r6_e, k29_r7_e, k29_r8_e, k29_r9_e, k29_e, WK0, WK1, WK2, WK3, WK4, WK5, true_implies, vop, evAll, evOpt, evParts, vbuiltin, vun, vextract, Option.map_some, Option.map_none, Nat.reduceLT, Nat.reduceEqDiff, ↓reduceIte, reduceCtorEq, Nat.reduceAdd, Int.reduceLT, Int.reduceNeg, decide_true, decide_false, Bool.not_true, Bool.not_false, ne_eq, not_true_eq_false, not_false_eq_true, List.append_nil, Bool.false_eq_true, List.getElem?_cons_zero, List.getElem?_cons_succ, and_self, and_true, true_and, Bool.true_and, hy, q8.load]
        refine KD.ret hd9 ?_
        cases hok : msgOk m with
        | false =>
          rw [hok, if_neg (fun hh => by have := hh.2.2; cases this)] at hD
          simp only [k29_r0_e, k29_r1_e, k29_r2_e, k29_r3_e, k29_r4_e, k29_r5_e, k29_r6_e, k29_r7_e, k29_r8_e, k29_r9_e, k29_e, WK0, WK1, WK2, WK3, WK4, WK5, true_implies, vop, evAll, evOpt, evParts, vbuiltin, vun, vextract, Option.map_some, Option.map_none, Nat.reduceLT, Nat.reduceEqDiff, ↓reduceIte, reduceCtorEq, Nat.reduceAdd, Int.reduceLT, Int.reduceNeg, decide_true, decide_false, Bool.not_true, Bool.not_false, ne_eq, not_true_eq_false, not_false_eq_true, List.append_nil, Bool.false_eq_true, List.getElem?_cons_zero, List.getElem?_cons_succ, and_self, and_true, true_and, BM0, IsM.put n9 (show one V.nils = true from rfl), fin _ _ _ _ _ _ n9]
          refine ⟨_, rfl, stay n9 (k8.trans k9) _ _, ?_⟩
          rw [hD]
          exact ⟨.nils, rfl, ItemsV.nil⟩
        | true =>
          rw [hok, if_pos ⟨hr0', by omega, rfl⟩] at hD
          simp only [k29_r0_e, k29_r1_e, k29_r2_e, k29_r3_e, k29_r4_e, k29_r5_e, k29_r6_e, k29_r7_e, k29_r8_e, k29_r9_e, k29_e, WK0, WK1, WK2, WK3, WK4, WK5, true_implies, vop, evAll, evOpt, evParts, vbuiltin, vun, vextract, Option.map_some, Option.map_none, Nat.reduceLT, Nat.reduceEqDiff, ↓reduceIte, reduceCtorEq, Nat.reduceAdd, Int.reduceLT, Int.reduceNeg, decide_true, decide_false, Bool.not_true, Bool.not_false, ne_eq, not_true_eq_false, not_false_eq_true, List.append_nil, Bool.false_eq_true, List.getElem?_cons_zero, List.getElem?_cons_succ, and_self, and_true, true_and, q9.load, IsM.put n9 hw.one, fin _ _ _ _ _ _ n9]
          refine ⟨_, rfl, stay n9 (k8.trans k9) _ _, ?_⟩
          rw [hD]
          exact ⟨w, rfl, by rw [show (some m).getD msg0 = m from rfl, hmi]; exact hw⟩
  obtain ⟨q, σ', h1, r, rfl, h2, h3⟩ := key
  exact ⟨r, σ', h1, h2, h3⟩
end Go.Proofs.Ytcogghmmlndmgaa.Q
