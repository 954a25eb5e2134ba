import Derived.Test.YtcogghmmlndmgaaEi
set_option linter.unusedVariables false
set_option linter.unusedSimpArgs false
namespace Go.Proofs.Ytcogghmmlndmgaa.Q
open Go Go.RowKit Go.Proofs

/-- Items that were put are read. -/
theorem readItems_put {l : List Itm} (hl : ItmsIn l) (hn : l.length < 2 ^ 63) {most : Int} (hm : (l.length : Int) ≤ most) (r : List UInt8) : readItemsS (itemsS l ++ r) false most = if (l.all fun x => entOk x.ent) = true then some (l.map clip, r) else none := by
  have hE : itemsS l ++ r = putN l.length ++ (l.flatMap itmB ++ r) := by simp [itemsS]
  unfold readItemsS
  rw [hE, numS_put hn]
  simp only
  rw [if_neg (by omega)]
  obtain ⟨p1, p2⟩ := rItems_put hl r (i := l.length) (Nat.le_refl _)
  rw [List.take_length, List.drop_length] at p1
  rw [List.take_length] at p2
  cases hall : (l.all fun x => entOk x.ent) with
  | true =>
    rw [p1 (by simpa using hall)]
    simp
  | false =>
    rw [p2 (by simpa using hall)]
    simp

def msgRange (m : Msg) : Bool := decide (0 ≤ m.src ∧ m.src < 7 ∧ 0 ≤ m.dst ∧ m.dst < 7 ∧ 1 ≤ m.kind ∧ m.kind ≤ 5 ∧ (0 ≤ m.term ∧ 0 ≤ m.last ∧ 0 ≤ m.lterm ∧ 0 ≤ m.com) ∧ (m.items.length : Int) ≤ 16)
def msgOk (m : Msg) : Bool := msgRange m && m.items.all (fun x => entOk x.ent) && !(m.items.any fun x => decide (x.term < 0))

theorem min4_neg {a b c d : Int} : mm false (mm false (mm false a b) c) d < 0 ↔ ¬ (0 ≤ a ∧ 0 ≤ b ∧ 0 ≤ c ∧ 0 ≤ d) := by
  have h : ∀ x y, mm false x y = min x y := by
    intro x y
    simp only [mm, Bool.false_eq_true, if_false]
    split <;> omega
  simp only [h]
  omega

theorem valid22_does {m : Msg} {w : V} (hw : ItemsV w m.items) (hin : ItmsIn m.items) (hl : m.items.length ≤ 4294967296) (σ : St) :
    ∃ σ', Does Try.prog noPrim 31 [.agg (msgCells m w)] σ (.ret (.bool (msgOk m))) σ' ∧ Keep σ σ' := by
  have key : ∃ q σ', Does Try.prog noPrim 31 [.agg (msgCells m w)] σ q σ' ∧ q = .ret (.bool (msgOk m)) ∧ Keep σ σ' := by
    apply k31_is.does (by simp)
    obtain ⟨σ1, hσ1⟩ : ∃ σ1 : St, σ1 = ⟨σ.objs ++ [Ob.cells (msgCells m w)], σ.toks⟩ := ⟨_, rfl⟩
    have hk1 : Keep σ σ1 := by rw [hσ1]; exact (Keep.refl σ).push _
    have q1 : IsM σ1 σ.objs.length m w := by rw [hσ1]; exact push_new _ _
    obtain ⟨mt, hmt⟩ : ∃ mt, mt = mm false (mm false (mm false m.term m.last) m.lterm) m.com := ⟨_, rfl⟩
    have hR : msgRange m = true ↔ ¬ (m.src < 0) ∧ ¬ (7 ≤ m.src) ∧ ¬ (m.dst < 0) ∧ ¬ (7 ≤ m.dst) ∧ ¬ (m.kind < 1) ∧ ¬ (5 < m.kind) ∧ ¬ (mt < 0) ∧ ¬ ((16 : Int) < m.items.length) := by
      unfold msgRange
      rw [hmt, min4_neg, decide_eq_true_iff]
      clear hmt
      omega
    rcases (((Classical.em (m.src < 0)).elim (fun h0 => Or.inl h0) (fun h0 => Or.inr ((Classical.em (7 ≤ m.src)).elim (fun h1 => Or.inl ⟨h0, h1⟩) (fun h1 => Or.inr ((Classical.em (m.dst < 0)).elim (fun h2 => Or.inl ⟨h0, h1, h2⟩) (fun h2 => Or.inr ((Classical.em (7 ≤ m.dst)).elim (fun h3 => Or.inl ⟨h0, h1, h2, h3⟩) (fun h3 => Or.inr ((Classical.em (m.kind < 1)).elim (fun h4 => Or.inl ⟨h0, h1, h2, h3, h4⟩) (fun h4 => Or.inr ((Classical.em (5 < m.kind)).elim (fun h5 => Or.inl ⟨h0, h1, h2, h3, h4, h5⟩) (fun h5 => Or.inr ((Classical.em (mt < 0)).elim (fun h6 => Or.inl ⟨h0, h1, h2, h3, h4, h5, h6⟩) (fun h6 => Or.inr ((Classical.em ((16 : Int) < m.items.length)).elim (fun h7 => Or.inl ⟨h0, h1, h2, h3, h4, h5, h6, h7⟩) (fun h7 => Or.inr (⟨h0, h1, h2, h3, h4, h5, h6, h7⟩))))))))))))))))) : ((m.src < 0) ∨ ¬ (m.src < 0) ∧ (7 ≤ m.src) ∨ ¬ (m.src < 0) ∧ ¬ (7 ≤ m.src) ∧ (m.dst < 0) ∨ ¬ (m.src < 0) ∧ ¬ (7 ≤ m.src) ∧ ¬ (m.dst < 0) ∧ (7 ≤ m.dst) ∨ ¬ (m.src < 0) ∧ ¬ (7 ≤ m.src) ∧ ¬ (m.dst < 0) ∧ ¬ (7 ≤ m.dst) ∧ (m.kind < 1) ∨ ¬ (m.src < 0) ∧ ¬ (7 ≤ m.src) ∧ ¬ (m.dst < 0) ∧ ¬ (7 ≤ m.dst) ∧ ¬ (m.kind < 1) ∧ (5 < m.kind) ∨ ¬ (m.src < 0) ∧ ¬ (7 ≤ m.src) ∧ ¬ (m.dst < 0) ∧ ¬ (7 ≤ m.dst) ∧ ¬ (m.kind < 1) ∧ ¬ (5 < m.kind) ∧ (mt < 0) ∨ ¬ (m.src < 0) ∧ ¬ (7 ≤ m.src) ∧ ¬ (m.dst < 0) ∧ ¬ (7 ≤ m.dst) ∧ ¬ (m.kind < 1) ∧ ¬ (5 < m.kind) ∧ ¬ (mt < 0) ∧ ((16 : Int) < m.items.length) ∨ ¬ (m.src < 0) ∧ ¬ (7 ≤ m.src) ∧ ¬ (m.dst < 0) ∧ ¬ (7 ≤ m.dst) ∧ ¬ (m.kind < 1) ∧ ¬ (5 < m.kind) ∧ ¬ (mt < 0) ∧ ¬ ((16 : Int) < m.items.length))) with h | h | h | h | h | h | h | h | h
    all_goals
      simp only [k31_r0_e, k31_r1_e, k31_r2_e, k31_r3_e, k31_r4_e, k31_e, WK0, WK1, WK2, WK3, WK4, WK5, true_implies, vop, evAll, evOpt, evParts, vbuiltin, vun, vextract, Option.map_some, Option.map_none, Nat.reduceLT, Nat.reduceEqDiff, ↓reduceIte, reduceCtorEq, Nat.reduceAdd, Int.reduceLT, Int.reduceNeg, decide_true, decide_false, Bool.not_true, Bool.not_false, ne_eq, not_true_eq_false, not_false_eq_true, List.append_nil, Bool.false_eq_true, List.getElem?_cons_zero, List.getElem?_cons_succ, and_self, and_true, true_and, List.getD_cons_zero, List.getD_cons_succ, vbox, vcells, ← hσ1, FM0, FM1, FM2, FM3, FM4, FM5, FM6, FM7, FM8, FM9, q1.i, q1.b, q1.s, q1.l, msgC0, msgC1, msgC2, msgC3, msgC4, msgC5, msgC6, msgC7, msgC8, msgC9, vmm4, ← hmt, hw.len, ofVal_nil, h]
    case' inr.inr.inr.inr.inr.inr.inr.inr =>
      have hr : msgRange m = true := hR.2 h
      have hlen : (m.items.length : Int) ≤ 16 := by omega
      obtain ⟨r2, σ2, hd2, hk2, ho2⟩ := items_does BtsV.nil hw hin (by simp; omega) σ1
      rw [List.nil_append] at ho2
      have hpl := pre_len (bs := []) hin (Nat.le_refl _)
      rw [pre_all, List.nil_append] at hpl
      have hpn := putN_nat_len (n := m.items.length) (by omega)
      simp only [List.length_nil] at hpl
      obtain ⟨rr, σ3, hd3, hk3, hrr, hr3⟩ := new_does ho2.bts (by omega) σ2
      obtain ⟨v4, σ4, hd4, hk4, hR4⟩ := readitems_does hr3 (by omega) 16
      have hput := readItems_put hin (by omega) hlen []
      rw [List.append_nil] at hput
      rw [hput] at hR4
      have hle : σ1.objs.length ≤ σ2.objs.length := by
        apply Nat.le_of_not_lt
        intro hlt
        have h1 := hk2.1 σ2.objs.length _ (List.getElem?_eq_getElem hlt)
        have := (List.getElem?_eq_some_iff.1 h1).1
        omega
      have hls : σ.objs.length < σ1.objs.length := by rw [hσ1]; simp
      have hk14 : Keep σ σ4 := (((hk1.trans hk2).trans hk3).viaX hk4 (by omega))
      have q4 : IsM σ4 σ.objs.length m w := hk4.1 _ _ (by omega) (hk3.1 _ _ (hk2.1 _ _ q1))
      refine KD.ret hd2 ?_
      simp only [k31_r0_e, k31_r1_e, k31_r2_e, k31_r3_e, k31_r4_e, k31_e, WK0, WK1, WK2, WK3, WK4, WK5, true_implies, vop, evAll, evOpt, evParts, vbuiltin, vun, vextract, Option.map_some, Option.map_none, Nat.reduceLT, Nat.reduceEqDiff, ↓reduceIte, reduceCtorEq, Nat.reduceAdd, Int.reduceLT, Int.reduceNeg, decide_true, decide_false, Bool.not_true, Bool.not_false, ne_eq, not_true_eq_false, not_false_eq_true, List.append_nil, Bool.false_eq_true, List.getElem?_cons_zero, List.getElem?_cons_succ, and_self, and_true, true_and]
      refine KD.ret hd3 ?_
      simp only [k31_r0_e, k31_r1_e, k31_r2_e, k31_r3_e, k31_r4_e, k31_e, WK0, WK1, WK2, WK3, WK4, WK5, true_implies, vop, evAll, evOpt, evParts, vbuiltin, vun, vextract, Option.map_some, Option.map_none, Nat.reduceLT, Nat.reduceEqDiff, ↓reduceIte, reduceCtorEq, Nat.reduceAdd, Int.reduceLT, Int.reduceNeg, decide_true, decide_false, Bool.not_true, Bool.not_false, ne_eq, not_true_eq_false, not_false_eq_true, List.append_nil, Bool.false_eq_true, List.getElem?_cons_zero, List.getElem?_cons_succ, and_self, and_true, true_and]
      refine KD.ret hd4 ?_
      cases hall : (m.items.all fun x => entOk x.ent) with
      | false =>
        rw [hall] at hR4
        simp only [Bool.false_eq_true, if_false, ItemsR] at hR4
        subst hR4
        simp only [k31_r0_e, k31_r1_e, k31_r2_e, k31_r3_e, k31_r4_e, k31_e, WK0, WK1, WK2, WK3, WK4, WK5, true_implies, vop, evAll, evOpt, evParts, vbuiltin, vun, vextract, Option.map_some, Option.map_none, Nat.reduceLT, Nat.reduceEqDiff, ↓reduceIte, reduceCtorEq, Nat.reduceAdd, Int.reduceLT, Int.reduceNeg, decide_true, decide_false, Bool.not_true, Bool.not_false, ne_eq, not_true_eq_false, not_false_eq_true, List.append_nil, Bool.false_eq_true, List.getElem?_cons_zero, List.getElem?_cons_succ, and_self, and_true, true_and]
        exact ⟨by simp [msgOk, hr, hall], hk14⟩
      | true =>
        rw [hall] at hR4
        simp only [if_true, ItemsR] at hR4
        obtain ⟨w4, rfl, hw4, hr4⟩ := hR4
        obtain ⟨σ5, hd5, hk5⟩ := anyneg_does hw (by unfold maxLen; omega) σ4
        simp only [k31_r0_e, k31_r1_e, k31_r2_e, k31_r3_e, k31_r4_e, k31_e, WK0, WK1, WK2, WK3, WK4, WK5, true_implies, vop, evAll, evOpt, evParts, vbuiltin, vun, vextract, Option.map_some, Option.map_none, Nat.reduceLT, Nat.reduceEqDiff, ↓reduceIte, reduceCtorEq, Nat.reduceAdd, Int.reduceLT, Int.reduceNeg, decide_true, decide_false, Bool.not_true, Bool.not_false, ne_eq, not_true_eq_false, not_false_eq_true, List.append_nil, Bool.false_eq_true, List.getElem?_cons_zero, List.getElem?_cons_succ, and_self, and_true, true_and, FM8, q4.l, msgC8]
        refine KD.ret hd5 ?_
        simp only [k31_r0_e, k31_r1_e, k31_r2_e, k31_r3_e, k31_r4_e, k31_e, WK0, WK1, WK2, WK3, WK4, WK5, true_implies, vop, evAll, evOpt, evParts, vbuiltin, vun, vextract, Option.map_some, Option.map_none, Nat.reduceLT, Nat.reduceEqDiff, ↓reduceIte, reduceCtorEq, Nat.reduceAdd, Int.reduceLT, Int.reduceNeg, decide_true, decide_false, Bool.not_true, Bool.not_false, ne_eq, not_true_eq_false, not_false_eq_true, List.append_nil, Bool.false_eq_true, List.getElem?_cons_zero, List.getElem?_cons_succ, and_self, and_true, true_and]
        exact ⟨by simp [msgOk, hr, hall], hk14.trans hk5⟩
    all_goals
      refine ⟨?_, hk1⟩
      clear hmt
      have hn : msgRange m = false := by
        rw [← Bool.not_eq_true, hR]
        omega
      simp [msgOk, hn]
  obtain ⟨q, σ', h1, rfl, h3⟩ := key
  exact ⟨σ', h1, h3⟩

def bitI (b : Bool) : Int := if b then 1 else 0
theorem bit_does (b : Bool) (σ : St) : Does Try.prog noPrim 41 [.bool b] σ (.ret (.int .i64 (bitI b))) σ := by
  apply k41_is.ret (by simp)
  cases b <;> simp only [k41_r0_e, k41_r1_e, k41_r2_e, k41_r3_e, k41_e, WK0, WK1, WK2, WK3, WK4, WK5, true_implies, vop, evAll, evOpt, evParts, vbuiltin, vun, vextract, Option.map_some, Option.map_none, Nat.reduceLT, Nat.reduceEqDiff, ↓reduceIte, reduceCtorEq, Nat.reduceAdd, Int.reduceLT, Int.reduceNeg, decide_true, decide_false, Bool.not_true, Bool.not_false, ne_eq, not_true_eq_false, not_false_eq_true, List.append_nil, Bool.false_eq_true, List.getElem?_cons_zero, List.getElem?_cons_succ, and_self, and_true, true_and, List.getD_cons_zero] <;> rfl

/-- A message's bytes. -/
def headI (m : Msg) : List Int := [m.src, m.dst, m.kind, m.term, m.last, m.lterm, m.com, bitI m.yes, (m.book.length : Int)]
def msgB (m : Msg) : List UInt8 := putS (headI m) ++ m.book ++ itemsS m.items

theorem buildInts9 {a b c d f g h i j : Int} (hx : ∀ x ∈ [a, b, c, d, f, g, h, i, j], InI64 x) : ∃ v, vbuildSlice Try.prog 81 9 [(0, .int .i64 a), (1, .int .i64 b), (2, .int .i64 c), (3, .int .i64 d), (4, .int .i64 f), (5, .int .i64 g), (6, .int .i64 h), (7, .int .i64 i), (8, .int .i64 j)] = some v ∧ IntsV v [a, b, c, d, f, g, h, i, j] := by
  refine ⟨.slice .exact 1 [i64V a, i64V b, i64V c, i64V d, i64V f, i64V g, i64V h, i64V i, i64V j] 9, ?_, .inr ⟨.exact, rfl⟩, hx⟩
  simp [vbuildSlice, IT.u, IT.s, IT.z, vcells, vfill, zeroCellsV, setAll, i64V]
  simp [List.range, List.range.loop]

theorem headI_in {m : Msg} (hm : m.In) (hb : m.book.length ≤ 4294967296) : ∀ x ∈ headI m, InI64 x := by
  obtain ⟨h1, h2, h3, h4, h5, h6, h7⟩ := hm
  intro x hx
  simp only [headI, List.mem_cons, List.not_mem_nil, or_false] at hx
  rcases hx with rfl | rfl | rfl | rfl | rfl | rfl | rfl | rfl | rfl
  any_goals assumption
  · unfold bitI InI64; split <;> omega
  · unfold InI64; omega

theorem encode22_does {m : Msg} {w : V} (hm : m.In) (hw : ItemsV w m.items) (hin : ItmsIn m.items) (hl : m.items.length ≤ 4294967296) (hbl : m.book.length ≤ 4294967296) (σ : St) :
    ∃ r σ', Does Try.prog noPrim 11 [.agg (msgCells m w)] σ (.ret (.tuple [r, .int .i64 (if msgOk m then 0 else 1)])) σ' ∧ Keep σ σ' ∧ BtsV r (if msgOk m then msgB m else []) := by
  have key : ∃ q σ', Does Try.prog noPrim 11 [.agg (msgCells m w)] σ q σ' ∧ ∃ r, q = .ret (.tuple [r, .int .i64 (if msgOk m then 0 else 1)]) ∧ Keep σ σ' ∧ BtsV r (if msgOk m then msgB m else []) := by
    apply k11_is.does (by simp)
    obtain ⟨σ1, hσ1⟩ : ∃ σ1 : St, σ1 = ⟨σ.objs ++ [Ob.cells (msgCells m w)], σ.toks⟩ := ⟨_, rfl⟩
    have hk1 : Keep σ σ1 := by rw [hσ1]; exact (Keep.refl σ).push _
    have q1 : IsM σ1 σ.objs.length m w := by rw [hσ1]; exact push_new _ _
    obtain ⟨σ2, hd2, hk2⟩ := valid22_does hw hin hl σ1
    have q2 : IsM σ2 σ.objs.length m w := hk2.1 _ _ q1
    simp only [k11_r0_e, k11_r1_e, k11_r2_e, k11_r3_e, k11_r4_e, k11_e, WK0, WK1, WK2, WK3, WK4, WK5, true_implies, vop, evAll, evOpt, evParts, vbuiltin, vun, vextract, Option.map_some, Option.map_none, Nat.reduceLT, Nat.reduceEqDiff, ↓reduceIte, reduceCtorEq, Nat.reduceAdd, Int.reduceLT, Int.reduceNeg, decide_true, decide_false, Bool.not_true, Bool.not_false, ne_eq, not_true_eq_false, not_false_eq_true, List.append_nil, Bool.false_eq_true, List.getElem?_cons_zero, List.getElem?_cons_succ, and_self, and_true, true_and, List.getD_cons_zero, List.getD_cons_succ, vbox, vcells, ← hσ1, q1.load]
    refine KD.ret hd2 ?_
    cases hok : msgOk m with
    | false =>
      simp only [k11_r0_e, k11_r1_e, k11_r2_e, k11_r3_e, k11_r4_e, k11_e, WK0, WK1, WK2, WK3, WK4, WK5, true_implies, vop, evAll, evOpt, evParts, vbuiltin, vun, vextract, Option.map_some, Option.map_none, Nat.reduceLT, Nat.reduceEqDiff, ↓reduceIte, reduceCtorEq, Nat.reduceAdd, Int.reduceLT, Int.reduceNeg, decide_true, decide_false, Bool.not_true, Bool.not_false, ne_eq, not_true_eq_false, not_false_eq_true, List.append_nil, Bool.false_eq_true, List.getElem?_cons_zero, List.getElem?_cons_succ, and_self, and_true, true_and, ofVal_nil]
      exact ⟨_, rfl, hk1.trans hk2, BtsV.nil⟩
    | true =>
      have hIn := headI_in hm hbl
      obtain ⟨b9, hb9, hb9i⟩ := buildInts9 hIn
      obtain ⟨r3, σ3, hd3, hk3, ho3⟩ := put_does BtsV.nil hb9i (by simp) σ2
      rw [List.nil_append] at ho3
      have q3 : IsM σ3 σ.objs.length m w := hk3.1 _ _ q2
      have hpl := putS_len hIn
      obtain ⟨v4, σ4, ha4, ho4, hk4, hob4⟩ := ho3.appendS BT rfl hk3 T9 (ys := m.book) (by simp only [headI, List.length_cons, List.length_nil] at hpl; simp only [headI] at *; omega)
      have q4 : IsM σ4 σ.objs.length m w := by unfold IsM; rw [hob4]; exact q3
      obtain ⟨r5, σ5, hd5, hk5, ho5⟩ := items_does ho4.bts hw hin (by simp only [List.length_append]; simp only [headI, List.length_cons, List.length_nil] at hpl; simp only [headI] at *; omega) σ4
      simp only [k11_r0_e, k11_r1_e, k11_r2_e, k11_r3_e, k11_r4_e, k11_e, WK0, WK1, WK2, WK3, WK4, WK5, true_implies, vop, evAll, evOpt, evParts, vbuiltin, vun, vextract, Option.map_some, Option.map_none, Nat.reduceLT, Nat.reduceEqDiff, ↓reduceIte, reduceCtorEq, Nat.reduceAdd, Int.reduceLT, Int.reduceNeg, decide_true, decide_false, Bool.not_true, Bool.not_false, ne_eq, not_true_eq_false, not_false_eq_true, List.append_nil, Bool.false_eq_true, List.getElem?_cons_zero, List.getElem?_cons_succ, and_self, and_true, true_and, FM0, FM1, FM2, FM3, FM4, FM5, FM6, FM7, FM8, FM9, q2.i, q2.b, q2.s, q2.l, msgC0, msgC1, msgC2, msgC3, msgC4, msgC5, msgC6, msgC7, msgC8, msgC9, vlen_str T9, ofVal_nil]
      refine KD.ret (bit_does m.yes σ2) ?_
      simp only [k11_r0_e, k11_r1_e, k11_r2_e, k11_r3_e, k11_r4_e, k11_e, WK0, WK1, WK2, WK3, WK4, WK5, true_implies, vop, evAll, evOpt, evParts, vbuiltin, vun, vextract, Option.map_some, Option.map_none, Nat.reduceLT, Nat.reduceEqDiff, ↓reduceIte, reduceCtorEq, Nat.reduceAdd, Int.reduceLT, Int.reduceNeg, decide_true, decide_false, Bool.not_true, Bool.not_false, ne_eq, not_true_eq_false, not_false_eq_true, List.append_nil, Bool.false_eq_true, List.getElem?_cons_zero, List.getElem?_cons_succ, and_self, and_true, true_and, FM0, FM1, FM2, FM3, FM4, FM5, FM6, FM7, FM8, FM9, q2.i, q2.b, q2.s, q2.l, msgC0, msgC1, msgC2, msgC3, msgC4, msgC5, msgC6, msgC7, msgC8, msgC9, vlen_str T9, ofVal_nil, hb9]
      refine KD.ret hd3 ?_
      simp only [k11_r0_e, k11_r1_e, k11_r2_e, k11_r3_e, k11_r4_e, k11_e, WK0, WK1, WK2, WK3, WK4, WK5, true_implies, vop, evAll, evOpt, evParts, vbuiltin, vun, vextract, Option.map_some, Option.map_none, Nat.reduceLT, Nat.reduceEqDiff, ↓reduceIte, reduceCtorEq, Nat.reduceAdd, Int.reduceLT, Int.reduceNeg, decide_true, decide_false, Bool.not_true, Bool.not_false, ne_eq, not_true_eq_false, not_false_eq_true, List.append_nil, Bool.false_eq_true, List.getElem?_cons_zero, List.getElem?_cons_succ, and_self, and_true, true_and, FM0, FM1, FM2, FM3, FM4, FM5, FM6, FM7, FM8, FM9, q2.i, q2.b, q2.s, q2.l, q3.i, q3.b, q3.s, q3.l, q4.i, q4.b, q4.s, q4.l, msgC0, msgC1, msgC2, msgC3, msgC4, msgC5, msgC6, msgC7, msgC8, msgC9, vlen_str T9, ofVal_nil, hb9, ha4]
      refine KD.ret hd5 ?_
      simp only [k11_r0_e, k11_r1_e, k11_r2_e, k11_r3_e, k11_r4_e, k11_e, WK0, WK1, WK2, WK3, WK4, WK5, true_implies, vop, evAll, evOpt, evParts, vbuiltin, vun, vextract, Option.map_some, Option.map_none, Nat.reduceLT, Nat.reduceEqDiff, ↓reduceIte, reduceCtorEq, Nat.reduceAdd, Int.reduceLT, Int.reduceNeg, decide_true, decide_false, Bool.not_true, Bool.not_false, ne_eq, not_true_eq_false, not_false_eq_true, List.append_nil, Bool.false_eq_true, List.getElem?_cons_zero, List.getElem?_cons_succ, and_self, and_true, true_and, FM0, FM1, FM2, FM3, FM4, FM5, FM6, FM7, FM8, FM9, q2.i, q2.b, q2.s, q2.l, q3.i, q3.b, q3.s, q3.l, q4.i, q4.b, q4.s, q4.l, msgC0, msgC1, msgC2, msgC3, msgC4, msgC5, msgC6, msgC7, msgC8, msgC9, vlen_str T9, ofVal_nil, hb9, ha4]
      refine ⟨_, rfl, ?_, ho5.bts⟩
      exact ((hk1.trans hk2).trans hk4).trans hk5
  obtain ⟨q, σ', h1, r, rfl, h2, h3⟩ := key
  exact ⟨r, σ', h1, h2, h3⟩
end Go.Proofs.Ytcogghmmlndmgaa.Q
