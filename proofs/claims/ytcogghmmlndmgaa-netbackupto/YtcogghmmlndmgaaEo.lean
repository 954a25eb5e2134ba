import Derived.Test.YtcogghmmlndmgaaEn
set_option linter.unusedVariables false
set_option linter.unusedSimpArgs false
namespace Go.Proofs.Ytcogghmmlndmgaa.Q
open Go Go.RowKit Go.Proofs

def itmOk (x : Itm) : Bool := decide (0 ≤ x.term) && entOk x.ent
theorem msgOk_alt (m : Msg) : msgOk m = (msgRange m && m.items.all itmOk) := by
  unfold msgOk
  rw [Bool.and_assoc]
  congr 1
  rw [Bool.eq_iff_iff]
  simp only [Bool.and_eq_true, List.all_eq_true, Bool.not_eq_true', List.any_eq_false, decide_eq_true_eq, itmOk]
  constructor
  · rintro ⟨h1, h2⟩ x hx
    exact ⟨by have := h2 x hx; omega, h1 x hx⟩
  · intro h
    exact ⟨fun x hx => (h x hx).2, fun x hx => by have := (h x hx).1; omega⟩

def I32 (σ0 : St) (m : Msg) : Nat → (Nat → V) → St → Prop := fun i e σ => e 63 = .int .i64 i ∧ i ≤ m.items.length ∧ e 3 = .bool (msgRange m && (m.items.take i).all itmOk) ∧ Keep σ0 σ

theorem refvalid22_does {m : Msg} {w : V} (hw : ItemsV w m.items) (hl : m.items.length ≤ 4294967296) (σ : St) :
    ∃ σ', Does Try.prog noPrim 32 [.agg (msgCells m w)] σ (.ret (.bool (msgOk m))) σ' ∧ Keep σ σ' := by
  have key : ∃ q σ', Does Try.prog noPrim 32 [.agg (msgCells m w)] σ q σ' ∧ q = .ret (.bool (msgOk m)) ∧ Keep σ σ' := by
    apply k32_is.does (by simp)
    obtain ⟨σ1, hσ1⟩ : ∃ σ1 : St, σ1 = ⟨σ.objs ++ [Ob.cells (msgCells m w)], σ.toks⟩ := ⟨_, rfl⟩
    have hk1 : Keep σ σ1 := by rw [hσ1]; exact (Keep.refl σ).push _
    have q1 : IsM σ1 σ.objs.length m w := by rw [hσ1]; exact push_new _ _
    have hR : msgRange m = decide ((0 ≤ m.src) ∧ (m.src < 7) ∧ (0 ≤ m.dst) ∧ (m.dst < 7) ∧ (1 ≤ m.kind) ∧ (m.kind ≤ 5) ∧ (0 ≤ m.term) ∧ (0 ≤ m.last) ∧ (0 ≤ m.lterm) ∧ (0 ≤ m.com) ∧ ((m.items.length : Int) ≤ 16)) := by
      unfold msgRange
      rw [decide_eq_decide]
      omega
    have loop : ∀ (e : Nat → V), e 61 = w → e 62 = .int .i64 m.items.length → e 63 = .int .i64 0 → e 3 = .bool (msgRange m) → Ev Try.prog noPrim 80 (.loop k32_l0) e σ1 (fun x e' σ' => x = .exit 0 ∧ e' 3 = .bool (msgOk m) ∧ Keep σ σ') := by
      intro e0 g61 g62 g63 g3
      refine Ev.loopF (I32 σ m) (fun i => m.items.length - i) 0 ⟨by simp [g63], by simp, by simp [g3], hk1⟩ ?_
      rintro i e σ2 ⟨h63, hi, h3, hk⟩ hf
      have h61 : e 61 = w := (hf 61 (by decide)).trans g61
      have h62 : e 62 = .int .i64 m.items.length := (hf 62 (by decide)).trans g62
      clear hf
      by_cases hlt : i < m.items.length
      · have hlt' : (i : Int) < (m.items.length : Int) := by omega
        have hwi : IntKind.i64.wrap ((i : Int) + 1) = ((i + 1 : Nat) : Int) := by rw [show ((i : Int) + 1) = ((i + 1 : Nat) : Int) from by omega]; exact wrap_nat (by omega)
        have hq := IsI.made (σ := σ2) (o := itm0) (x := m.items[i])
        obtain ⟨σ3, hσ3⟩ : ∃ σ3 : St, σ3 = ⟨(σ2.objs ++ [Ob.cells (itmCells itm0)]).set σ2.objs.length (Ob.cells (itmCells m.items[i])), σ2.toks⟩ := ⟨_, rfl⟩
        have hk3 : Keep σ2 σ3 := by rw [hσ3]; exact (Keep.refl σ2).made _ _
        rw [← hσ3] at hq
        obtain ⟨σ4, hd4, hk4⟩ := refvalid_does m.items[i].ent σ3
        have ht : (m.items.take (i + 1)).all itmOk = ((m.items.take i).all itmOk && itmOk m.items[i]) := by
          rw [List.take_succ_eq_append_getElem hlt]; simp only [List.all_append, List.all_cons, List.all_nil, Bool.and_true]
        cases hb : (msgRange m && (m.items.take i).all itmOk) with
        | false =>
          rw [hb] at h3
          simp only [k32_r0_e, k32_r1_e, k32_r2_e, k32_r3_e, k32_r4_e, k32_r5_e, k32_r6_e, k32_l0_e, k32_r7_e, k32_e, WK0, WK1, WK2, WK3, WK4, WK5, true_implies, vop, evAll, evOpt, evParts, vbuiltin, vun, vextract, Option.map_some, Option.map_none, Nat.reduceLT, Nat.reduceEqDiff, ↓reduceIte, reduceCtorEq, Nat.reduceAdd, Int.reduceLT, Int.reduceNeg, decide_true, decide_false, Bool.not_true, Bool.not_false, ne_eq, not_true_eq_false, not_false_eq_true, List.append_nil, Bool.false_eq_true, List.getElem?_cons_zero, List.getElem?_cons_succ, and_self, and_true, true_and, h3, h61, h62, h63, hlt', hw.addr hlt, ItemsV.load hlt, Z66, vbox, vcells, IsI.new, ← hσ3, hwi]
          refine ⟨i + 1, ⟨by simp [upd_some], hlt, ?_, hk.trans hk3⟩, by omega⟩
          rw [ht, ← Bool.and_assoc, hb]
          simp [upd_some]
        | true =>
          rw [hb] at h3
          by_cases hx : (0 : Int) ≤ m.items[i].term
          · simp only [k32_r0_e, k32_r1_e, k32_r2_e, k32_r3_e, k32_r4_e, k32_r5_e, k32_r6_e, k32_l0_e, k32_r7_e, k32_e, WK0, WK1, WK2, WK3, WK4, WK5, true_implies, vop, evAll, evOpt, evParts, vbuiltin, vun, vextract, Option.map_some, Option.map_none, Nat.reduceLT, Nat.reduceEqDiff, ↓reduceIte, reduceCtorEq, Nat.reduceAdd, Int.reduceLT, Int.reduceNeg, decide_true, decide_false, Bool.not_true, Bool.not_false, ne_eq, not_true_eq_false, not_false_eq_true, List.append_nil, Bool.false_eq_true, List.getElem?_cons_zero, List.getElem?_cons_succ, and_self, and_true, true_and, h3, h61, h62, h63, hlt', hw.addr hlt, ItemsV.load hlt, Z66, vbox, vcells, IsI.new, FI0, FI1, hq.term, hq.ent, ← hσ3, hx]
            refine KD.ret hd4 ?_
            simp only [k32_r0_e, k32_r1_e, k32_r2_e, k32_r3_e, k32_r4_e, k32_r5_e, k32_r6_e, k32_l0_e, k32_r7_e, k32_e, WK0, WK1, WK2, WK3, WK4, WK5, true_implies, vop, evAll, evOpt, evParts, vbuiltin, vun, vextract, Option.map_some, Option.map_none, Nat.reduceLT, Nat.reduceEqDiff, ↓reduceIte, reduceCtorEq, Nat.reduceAdd, Int.reduceLT, Int.reduceNeg, decide_true, decide_false, Bool.not_true, Bool.not_false, ne_eq, not_true_eq_false, not_false_eq_true, List.append_nil, Bool.false_eq_true, List.getElem?_cons_zero, List.getElem?_cons_succ, and_self, and_true, true_and, h61, h62, h63, hwi]
            refine ⟨i + 1, ⟨by simp [upd_some], hlt, ?_, (hk.trans hk3).trans hk4⟩, by omega⟩
            rw [ht, ← Bool.and_assoc, hb]
            simp [upd_some, itmOk, hx]
          · simp only [k32_r0_e, k32_r1_e, k32_r2_e, k32_r3_e, k32_r4_e, k32_r5_e, k32_r6_e, k32_l0_e, k32_r7_e, k32_e, WK0, WK1, WK2, WK3, WK4, WK5, true_implies, vop, evAll, evOpt, evParts, vbuiltin, vun, vextract, Option.map_some, Option.map_none, Nat.reduceLT, Nat.reduceEqDiff, ↓reduceIte, reduceCtorEq, Nat.reduceAdd, Int.reduceLT, Int.reduceNeg, decide_true, decide_false, Bool.not_true, Bool.not_false, ne_eq, not_true_eq_false, not_false_eq_true, List.append_nil, Bool.false_eq_true, List.getElem?_cons_zero, List.getElem?_cons_succ, and_self, and_true, true_and, h3, h61, h62, h63, hlt', hw.addr hlt, ItemsV.load hlt, Z66, vbox, vcells, IsI.new, FI0, FI1, hq.term, hq.ent, ← hσ3, hx, hwi]
            refine ⟨i + 1, ⟨by simp [upd_some], hlt, ?_, hk.trans hk3⟩, by omega⟩
            rw [ht, ← Bool.and_assoc, hb]
            simp [upd_some, itmOk, hx]
      · have hlt' : ¬ (i : Int) < (m.items.length : Int) := by omega
        simp only [k32_r0_e, k32_r1_e, k32_r2_e, k32_r3_e, k32_r4_e, k32_r5_e, k32_r6_e, k32_l0_e, k32_r7_e, k32_e, WK0, WK1, WK2, WK3, WK4, WK5, true_implies, vop, evAll, evOpt, evParts, vbuiltin, vun, vextract, Option.map_some, Option.map_none, Nat.reduceLT, Nat.reduceEqDiff, ↓reduceIte, reduceCtorEq, Nat.reduceAdd, Int.reduceLT, Int.reduceNeg, decide_true, decide_false, Bool.not_true, Bool.not_false, ne_eq, not_true_eq_false, not_false_eq_true, List.append_nil, Bool.false_eq_true, List.getElem?_cons_zero, List.getElem?_cons_succ, and_self, and_true, true_and, h61, h62, h63, hlt']
        rw [List.take_of_length_le (by omega), ← msgOk_alt] at h3
        exact ⟨h3, hk⟩
    rcases (((Classical.em (0 ≤ m.src)).elim (fun h0 => Or.inr ((Classical.em (m.src < 7)).elim (fun h1 => Or.inr ((Classical.em (0 ≤ m.dst)).elim (fun h2 => Or.inr ((Classical.em (m.dst < 7)).elim (fun h3 => Or.inr ((Classical.em (1 ≤ m.kind)).elim (fun h4 => Or.inr ((Classical.em (m.kind ≤ 5)).elim (fun h5 => Or.inr ((Classical.em (0 ≤ m.term)).elim (fun h6 => Or.inr ((Classical.em (0 ≤ m.last)).elim (fun h7 => Or.inr ((Classical.em (0 ≤ m.lterm)).elim (fun h8 => Or.inr ((Classical.em (0 ≤ m.com)).elim (fun h9 => Or.inr ((Classical.em ((m.items.length : Int) ≤ 16)).elim (fun h10 => Or.inr (⟨h0, h1, h2, h3, h4, h5, h6, h7, h8, h9, h10⟩)) (fun h10 => Or.inl ⟨h0, h1, h2, h3, h4, h5, h6, h7, h8, h9, h10⟩))) (fun h9 => Or.inl ⟨h0, h1, h2, h3, h4, h5, h6, h7, h8, h9⟩))) (fun h8 => Or.inl ⟨h0, h1, h2, h3, h4, h5, h6, h7, h8⟩))) (fun h7 => Or.inl ⟨h0, h1, h2, h3, h4, h5, h6, h7⟩))) (fun h6 => Or.inl ⟨h0, h1, h2, h3, h4, h5, h6⟩))) (fun h5 => Or.inl ⟨h0, h1, h2, h3, h4, h5⟩))) (fun h4 => Or.inl ⟨h0, h1, h2, h3, h4⟩))) (fun h3 => Or.inl ⟨h0, h1, h2, h3⟩))) (fun h2 => Or.inl ⟨h0, h1, h2⟩))) (fun h1 => Or.inl ⟨h0, h1⟩))) (fun h0 => Or.inl h0)) : (¬ (0 ≤ m.src) ∨ (0 ≤ m.src) ∧ ¬ (m.src < 7) ∨ (0 ≤ m.src) ∧ (m.src < 7) ∧ ¬ (0 ≤ m.dst) ∨ (0 ≤ m.src) ∧ (m.src < 7) ∧ (0 ≤ m.dst) ∧ ¬ (m.dst < 7) ∨ (0 ≤ m.src) ∧ (m.src < 7) ∧ (0 ≤ m.dst) ∧ (m.dst < 7) ∧ ¬ (1 ≤ m.kind) ∨ (0 ≤ m.src) ∧ (m.src < 7) ∧ (0 ≤ m.dst) ∧ (m.dst < 7) ∧ (1 ≤ m.kind) ∧ ¬ (m.kind ≤ 5) ∨ (0 ≤ m.src) ∧ (m.src < 7) ∧ (0 ≤ m.dst) ∧ (m.dst < 7) ∧ (1 ≤ m.kind) ∧ (m.kind ≤ 5) ∧ ¬ (0 ≤ m.term) ∨ (0 ≤ m.src) ∧ (m.src < 7) ∧ (0 ≤ m.dst) ∧ (m.dst < 7) ∧ (1 ≤ m.kind) ∧ (m.kind ≤ 5) ∧ (0 ≤ m.term) ∧ ¬ (0 ≤ m.last) ∨ (0 ≤ m.src) ∧ (m.src < 7) ∧ (0 ≤ m.dst) ∧ (m.dst < 7) ∧ (1 ≤ m.kind) ∧ (m.kind ≤ 5) ∧ (0 ≤ m.term) ∧ (0 ≤ m.last) ∧ ¬ (0 ≤ m.lterm) ∨ (0 ≤ m.src) ∧ (m.src < 7) ∧ (0 ≤ m.dst) ∧ (m.dst < 7) ∧ (1 ≤ m.kind) ∧ (m.kind ≤ 5) ∧ (0 ≤ m.term) ∧ (0 ≤ m.last) ∧ (0 ≤ m.lterm) ∧ ¬ (0 ≤ m.com) ∨ (0 ≤ m.src) ∧ (m.src < 7) ∧ (0 ≤ m.dst) ∧ (m.dst < 7) ∧ (1 ≤ m.kind) ∧ (m.kind ≤ 5) ∧ (0 ≤ m.term) ∧ (0 ≤ m.last) ∧ (0 ≤ m.lterm) ∧ (0 ≤ m.com) ∧ ¬ ((m.items.length : Int) ≤ 16) ∨ (0 ≤ m.src) ∧ (m.src < 7) ∧ (0 ≤ m.dst) ∧ (m.dst < 7) ∧ (1 ≤ m.kind) ∧ (m.kind ≤ 5) ∧ (0 ≤ m.term) ∧ (0 ≤ m.last) ∧ (0 ≤ m.lterm) ∧ (0 ≤ m.com) ∧ ((m.items.length : Int) ≤ 16))) with h | h | h | h | h | h | h | h | h | h | h | h
    all_goals
      simp only [k32_r0_e, k32_r1_e, k32_r2_e, k32_r3_e, k32_r4_e, k32_r5_e, k32_r6_e, k32_l0_e, k32_r7_e, k32_e, WK0, WK1, WK2, WK3, WK4, WK5, true_implies, vop, evAll, evOpt, evParts, vbuiltin, vun, vextract, Option.map_some, Option.map_none, Nat.reduceLT, Nat.reduceEqDiff, ↓reduceIte, reduceCtorEq, Nat.reduceAdd, Int.reduceLT, Int.reduceNeg, decide_true, decide_false, Bool.not_true, Bool.not_false, ne_eq, not_true_eq_false, not_false_eq_true, List.append_nil, Bool.false_eq_true, List.getElem?_cons_zero, List.getElem?_cons_succ, and_self, and_true, true_and, List.getD_cons_zero, List.getD_cons_succ, vbox, vcells, ← hσ1, FM0, FM1, FM2, FM3, FM4, FM5, FM6, FM7, FM8, FM9, q1.i, q1.b, q1.s, q1.l, msgC0, msgC1, msgC2, msgC3, msgC4, msgC5, msgC6, msgC7, msgC8, msgC9, hw.len, h]
      refine Ev.cut (loop _ (by simp [upd_some]) (by simp [upd_some]) (by simp [upd_some]) (by simp [upd_some, hR, h])) ?_
      rintro ex e' σ2 ⟨rfl, h3, hk2⟩ _
      simp only [k32_r0_e, k32_r1_e, k32_r2_e, k32_r3_e, k32_r4_e, k32_r5_e, k32_r6_e, k32_l0_e, k32_r7_e, k32_e, WK0, WK1, WK2, WK3, WK4, WK5, true_implies, vop, evAll, evOpt, evParts, vbuiltin, vun, vextract, Option.map_some, Option.map_none, Nat.reduceLT, Nat.reduceEqDiff, ↓reduceIte, reduceCtorEq, Nat.reduceAdd, Int.reduceLT, Int.reduceNeg, decide_true, decide_false, Bool.not_true, Bool.not_false, ne_eq, not_true_eq_false, not_false_eq_true, List.append_nil, Bool.false_eq_true, List.getElem?_cons_zero, List.getElem?_cons_succ, and_self, and_true, true_and, h3]
      exact hk2
  obtain ⟨q, σ', h1, rfl, h3⟩ := key
  exact ⟨σ', h1, h3⟩

def I28 (n : Nat) (σ0 : St) (xs : List Int) : Nat → (Nat → V) → St → Prop := fun i e σ => e 33 = .int .i64 i ∧ i ≤ xs.length ∧ OwnV 5 n σ (e 5) (putS (xs.take i)) ∧ Keep σ0 σ

theorem refencode22_does {m : Msg} {w : V} (hm : m.In) (hw : ItemsV w m.items) (hin : ItmsIn m.items) (hl : m.items.length ≤ 4294967296) (hbl : m.book.length ≤ 4294967296) (σ : St) :
    ∃ r σ', Does Try.prog noPrim 28 [.agg (msgCells m w)] σ (.ret (.tuple [r, .int .i64 (if msgOk m then 0 else 1)])) σ' ∧ Keep σ σ' ∧ BtsV r (if msgOk m then msgB m else []) := by
  have key : ∃ q σ', Does Try.prog noPrim 28 [.agg (msgCells m w)] σ q σ' ∧ ∃ r, q = .ret (.tuple [r, .int .i64 (if msgOk m then 0 else 1)]) ∧ Keep σ σ' ∧ BtsV r (if msgOk m then msgB m else []) := by
    apply k28_is.does (by simp)
    obtain ⟨σ1, hσ1⟩ : ∃ σ1 : St, σ1 = ⟨σ.objs ++ [Ob.cells (msgCells m w)], σ.toks⟩ := ⟨_, rfl⟩
    have hk1 : Keep σ σ1 := by rw [hσ1]; exact (Keep.refl σ).push _
    have q1 : IsM σ1 σ.objs.length m w := by rw [hσ1]; exact push_new _ _
    obtain ⟨σ2, hd2, hk2⟩ := refvalid22_does hw hl σ1
    have q2 : IsM σ2 σ.objs.length m w := hk2.1 _ _ q1
    simp only [k28_r0_e, k28_r1_e, k28_r2_e, k28_r3_e, k28_r4_e, k28_r5_e, k28_r6_e, k28_r7_e, k28_r8_e, k28_r9_e, k28_r10_e, k28_r11_e, k28_l0_e, k28_r12_e, k28_e, WK0, WK1, WK2, WK3, WK4, WK5, true_implies, vop, evAll, evOpt, evParts, vbuiltin, vun, vextract, Option.map_some, Option.map_none, Nat.reduceLT, Nat.reduceEqDiff, ↓reduceIte, reduceCtorEq, Nat.reduceAdd, Int.reduceLT, Int.reduceNeg, decide_true, decide_false, Bool.not_true, Bool.not_false, ne_eq, not_true_eq_false, not_false_eq_true, List.append_nil, Bool.false_eq_true, List.getElem?_cons_zero, List.getElem?_cons_succ, and_self, and_true, true_and, List.getD_cons_zero, List.getD_cons_succ, vbox, vcells, ← hσ1, q1.load]
    refine KD.ret hd2 ?_
    cases hok : msgOk m with
    | false =>
      simp only [k28_r0_e, k28_r1_e, k28_r2_e, k28_r3_e, k28_r4_e, k28_r5_e, k28_r6_e, k28_r7_e, k28_r8_e, k28_r9_e, k28_r10_e, k28_r11_e, k28_l0_e, k28_r12_e, k28_e, WK0, WK1, WK2, WK3, WK4, WK5, true_implies, vop, evAll, evOpt, evParts, vbuiltin, vun, vextract, Option.map_some, Option.map_none, Nat.reduceLT, Nat.reduceEqDiff, ↓reduceIte, reduceCtorEq, Nat.reduceAdd, Int.reduceLT, Int.reduceNeg, decide_true, decide_false, Bool.not_true, Bool.not_false, ne_eq, not_true_eq_false, not_false_eq_true, List.append_nil, Bool.false_eq_true, List.getElem?_cons_zero, List.getElem?_cons_succ, and_self, and_true, true_and, ofVal_nil]
      exact ⟨_, rfl, hk1.trans hk2, BtsV.nil⟩
    | true =>
      have hIn := headI_in hm hbl
      obtain ⟨b9, hb9, hb9i⟩ := buildInts9 hIn
      obtain ⟨xs, hxs⟩ : ∃ xs, xs = headI m := ⟨_, rfl⟩
      have hb9i' : IntsV b9 xs := by rw [hxs]; exact hb9i
      have hxl : xs.length = 9 := by rw [hxs]; rfl
      have loop : ∀ (e : Nat → V), e 1 = .optr σ.objs.length 0 → e 31 = b9 → e 32 = .int .i64 xs.length → e 33 = .int .i64 0 → e 5 = .nils → Ev Try.prog noPrim 48 (.loop k28_l0) e σ2 (fun x e' σ' => x = .exit 0 ∧ e' 1 = .optr σ.objs.length 0 ∧ OwnV 5 σ2.toks.length σ' (e' 5) (putS xs) ∧ Keep σ2 σ') := by
        intro e0 g1 g31 g32 g33 g5
        refine Ev.loopF (I28 σ2.toks.length σ2 xs) (fun i => xs.length - i) 0 ⟨by simp [g33], by simp, .inl ⟨g5, by simp [putS]⟩, Keep.refl _⟩ ?_
        rintro i en σ3 ⟨h33, hi, h5, hk3⟩ hf
        have h31 : en 31 = b9 := (hf 31 (by decide)).trans g31
        have h32 : en 32 = .int .i64 xs.length := (hf 32 (by decide)).trans g32
        have h1 : en 1 = .optr σ.objs.length 0 := (hf 1 (by decide)).trans g1
        clear hf
        have hpl := putS_len (xs := xs.take i) fun x hx => hb9i'.2 x (List.mem_of_mem_take hx)
        rw [List.length_take, hxl] at hpl
        by_cases hlt : i < xs.length
        · have hlt' : (i : Int) < xs.length := by omega
          have hX := hb9i'.2 xs[i] (List.getElem_mem hlt)
          have hwi : IntKind.i64.wrap ((i : Int) + 1) = ((i + 1 : Nat) : Int) := by rw [show ((i : Int) + 1) = ((i + 1 : Nat) : Int) from by omega]; exact wrap_nat (by omega)
          obtain ⟨r4, σ4, hd4, hk4, hr4⟩ := refput_does h5.bts hX (by omega) σ3
          simp only [k28_r0_e, k28_r1_e, k28_r2_e, k28_r3_e, k28_r4_e, k28_r5_e, k28_r6_e, k28_r7_e, k28_r8_e, k28_r9_e, k28_r10_e, k28_r11_e, k28_l0_e, k28_r12_e, k28_e, WK0, WK1, WK2, WK3, WK4, WK5, true_implies, vop, evAll, evOpt, evParts, vbuiltin, vun, vextract, Option.map_some, Option.map_none, Nat.reduceLT, Nat.reduceEqDiff, ↓reduceIte, reduceCtorEq, Nat.reduceAdd, Int.reduceLT, Int.reduceNeg, decide_true, decide_false, Bool.not_true, Bool.not_false, ne_eq, not_true_eq_false, not_false_eq_true, List.append_nil, Bool.false_eq_true, List.getElem?_cons_zero, List.getElem?_cons_succ, and_self, and_true, true_and, h31, h32, h33, hlt', hb9i'.addr IT (Int.natCast_nonneg i) hlt', IntsV.load IT hlt, Int.toNat_natCast]
          refine KD.ret hd4 ?_
          simp only [k28_r0_e, k28_r1_e, k28_r2_e, k28_r3_e, k28_r4_e, k28_r5_e, k28_r6_e, k28_r7_e, k28_r8_e, k28_r9_e, k28_r10_e, k28_r11_e, k28_l0_e, k28_r12_e, k28_e, WK0, WK1, WK2, WK3, WK4, WK5, true_implies, vop, evAll, evOpt, evParts, vbuiltin, vun, vextract, Option.map_some, Option.map_none, Nat.reduceLT, Nat.reduceEqDiff, ↓reduceIte, reduceCtorEq, Nat.reduceAdd, Int.reduceLT, Int.reduceNeg, decide_true, decide_false, Bool.not_true, Bool.not_false, ne_eq, not_true_eq_false, not_false_eq_true, List.append_nil, Bool.false_eq_true, List.getElem?_cons_zero, List.getElem?_cons_succ, and_self, and_true, true_and, h31, h32, h33, hwi]
          refine ⟨i + 1, ⟨by simp [upd_some], hlt, ?_, hk3.trans hk4⟩, by omega⟩
          simp only [upd_some, ↓reduceIte, Nat.reduceEqDiff]
          rw [putS_take hlt]
          exact hr4.low (by have := hk3.2.1; omega)
        · have hlt' : ¬ (i : Int) < xs.length := by omega
          have ht : xs.take i = xs := List.take_of_length_le (by omega)
          rw [ht] at h5
          simp only [k28_r0_e, k28_r1_e, k28_r2_e, k28_r3_e, k28_r4_e, k28_r5_e, k28_r6_e, k28_r7_e, k28_r8_e, k28_r9_e, k28_r10_e, k28_r11_e, k28_l0_e, k28_r12_e, k28_e, WK0, WK1, WK2, WK3, WK4, WK5, true_implies, vop, evAll, evOpt, evParts, vbuiltin, vun, vextract, Option.map_some, Option.map_none, Nat.reduceLT, Nat.reduceEqDiff, ↓reduceIte, reduceCtorEq, Nat.reduceAdd, Int.reduceLT, Int.reduceNeg, decide_true, decide_false, Bool.not_true, Bool.not_false, ne_eq, not_true_eq_false, not_false_eq_true, List.append_nil, Bool.false_eq_true, List.getElem?_cons_zero, List.getElem?_cons_succ, and_self, and_true, true_and, h31, h32, h33, hlt']
          exact ⟨h1, h5, hk3⟩
      have fin : ∀ (e : Nat → V) (σ3 : St), e 1 = .optr σ.objs.length 0 → OwnV 5 σ2.toks.length σ3 (e 5) (putS xs) → Keep σ2 σ3 → Ev Try.prog noPrim 48 k28_r12 e σ3 (fun x e' σ' => x = .normal ∧ e' 3 = .int .i64 0 ∧ Keep σ σ' ∧ BtsV (e' 2) (msgB m)) := by
        intro e σ3 g1 g5 hk3
        have q3 : IsM σ3 σ.objs.length m w := hk3.1 _ _ q2
        have hpl := putS_len hb9i'.2
        rw [hxl] at hpl
        obtain ⟨v4, σ4, ha4, ho4, hk4, hob4⟩ := g5.appendS BT rfl hk3 T9 (ys := m.book) (by omega)
        have q4 : IsM σ4 σ.objs.length m w := by unfold IsM; rw [hob4]; exact q3
        obtain ⟨r5, σ5, hd5, hk5, ho5⟩ := refitems_does ho4.bts hw hin (by simp only [List.length_append]; omega) σ4
        simp only [k28_r0_e, k28_r1_e, k28_r2_e, k28_r3_e, k28_r4_e, k28_r5_e, k28_r6_e, k28_r7_e, k28_r8_e, k28_r9_e, k28_r10_e, k28_r11_e, k28_l0_e, k28_r12_e, k28_e, WK0, WK1, WK2, WK3, WK4, WK5, true_implies, vop, evAll, evOpt, evParts, vbuiltin, vun, vextract, Option.map_some, Option.map_none, Nat.reduceLT, Nat.reduceEqDiff, ↓reduceIte, reduceCtorEq, Nat.reduceAdd, Int.reduceLT, Int.reduceNeg, decide_true, decide_false, Bool.not_true, Bool.not_false, ne_eq, not_true_eq_false, not_false_eq_true, List.append_nil, Bool.false_eq_true, List.getElem?_cons_zero, List.getElem?_cons_succ, and_self, and_true, true_and, g1, FM8, FM9, q3.s, q3.l, q4.s, q4.l, msgC8, msgC9, ha4]
        refine KD.ret hd5 ?_
        simp only [k28_r0_e, k28_r1_e, k28_r2_e, k28_r3_e, k28_r4_e, k28_r5_e, k28_r6_e, k28_r7_e, k28_r8_e, k28_r9_e, k28_r10_e, k28_r11_e, k28_l0_e, k28_r12_e, k28_e, WK0, WK1, WK2, WK3, WK4, WK5, true_implies, vop, evAll, evOpt, evParts, vbuiltin, vun, vextract, Option.map_some, Option.map_none, Nat.reduceLT, Nat.reduceEqDiff, ↓reduceIte, reduceCtorEq, Nat.reduceAdd, Int.reduceLT, Int.reduceNeg, decide_true, decide_false, Bool.not_true, Bool.not_false, ne_eq, not_true_eq_false, not_false_eq_true, List.append_nil, Bool.false_eq_true, List.getElem?_cons_zero, List.getElem?_cons_succ, and_self, and_true, true_and, g1, FM8, FM9, q3.s, q3.l, q4.s, q4.l, msgC8, msgC9, ha4]
        refine ⟨((hk1.trans hk2).trans hk4).trans hk5, ?_⟩
        have := ho5.bts
        rw [hxs] at this
        exact this
      cases hy : m.yes
      all_goals
        simp only [bitI, hy, if_true, Bool.false_eq_true, if_false] at hb9
        simp only [k28_r0_e, k28_r1_e, k28_r2_e, k28_r3_e, k28_r4_e, k28_r5_e, k28_r6_e, k28_r7_e, k28_r8_e, k28_r9_e, k28_r10_e, k28_r11_e, k28_l0_e, k28_r12_e, k28_e, WK0, WK1, WK2, WK3, WK4, WK5, true_implies, vop, evAll, evOpt, evParts, vbuiltin, vun, vextract, Option.map_some, Option.map_none, Nat.reduceLT, Nat.reduceEqDiff, ↓reduceIte, reduceCtorEq, Nat.reduceAdd, Int.reduceLT, Int.reduceNeg, decide_true, decide_false, Bool.not_true, Bool.not_false, ne_eq, not_true_eq_false, not_false_eq_true, List.append_nil, Bool.false_eq_true, List.getElem?_cons_zero, List.getElem?_cons_succ, and_self, and_true, true_and, FM0, FM1, FM2, FM3, FM4, FM5, FM6, FM7, FM8, FM9, q2.i, q2.b, q2.s, q2.l, msgC0, msgC1, msgC2, msgC3, msgC4, msgC5, msgC6, msgC7, msgC8, msgC9, vlen_str T9, ofVal_nil, hy, hb9, hb9i'.len IT]
        refine Ev.cut (loop _ (by simp [upd_some]) (by simp [upd_some]) (by simp [upd_some]) (by simp [upd_some]) (by simp [upd_some])) ?_
        rintro ex e' σ3 ⟨rfl, g1, g5, hk3⟩ _
        simp only [blockK_exit, seqC_normal, WK0, WK1, WK2, WK3, WK4, WK5]
        refine Ev.cut (fin _ _ g1 g5 hk3) ?_
        rintro ex e2 σ4 ⟨rfl, g3, hk4, hb⟩ _
        simp only [WK0, WK1, WK2, WK3, WK4, WK5, true_implies, vop, evAll, evOpt, evParts, vbuiltin, vun, vextract, Option.map_some, Option.map_none, Nat.reduceLT, Nat.reduceEqDiff, ↓reduceIte, reduceCtorEq, Nat.reduceAdd, Int.reduceLT, Int.reduceNeg, decide_true, decide_false, Bool.not_true, Bool.not_false, ne_eq, not_true_eq_false, not_false_eq_true, List.append_nil, Bool.false_eq_true, List.getElem?_cons_zero, List.getElem?_cons_succ, and_self, and_true, true_and, g3]
        exact ⟨_, rfl, hk4, hb⟩
  obtain ⟨q, σ', h1, r, rfl, h2, h3⟩ := key
  exact ⟨r, σ', h1, h2, h3⟩
end Go.Proofs.Ytcogghmmlndmgaa.Q
