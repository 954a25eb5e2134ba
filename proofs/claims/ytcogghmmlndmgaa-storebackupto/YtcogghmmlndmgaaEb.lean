import Derived.Test.YtcogghmmlndmgaaEa
set_option linter.unusedVariables false
set_option linter.unusedSimpArgs false
namespace Go.Proofs.Ytcogghmmlndmgaa.Q
open Go Go.RowKit Go.Proofs

/-- An entry's bytes. -/
def entB (e : Ent) : List UInt8 := putS [e.kind, e.ver, e.cli, e.seq] ++ runS e.data
def entryS (e : Ent) : List UInt8 := if entOk e then entB e else []

theorem buildInts4 {a b c d : Int} (ha : InI64 a) (hb : InI64 b) (hc : InI64 c) (hd : InI64 d) : ∃ v, vbuildSlice Try.prog 81 4 [(0, .int .i64 a), (1, .int .i64 b), (2, .int .i64 c), (3, .int .i64 d)] = some v ∧ IntsV v [a, b, c, d] := by
  refine ⟨.slice .exact 1 [i64V a, i64V b, i64V c, i64V d] 4, ?_, .inr ⟨.exact, rfl⟩, ?_⟩
  · simp [vbuildSlice, IT.u, IT.s, IT.z, vcells, vfill, zeroCellsV, setAll, i64V]
    simp [List.range, List.range.loop]
  · intro x hx
    simp at hx
    rcases hx with rfl | rfl | rfl | rfl <;> assumption

theorem entry_does (e : Ent) (hI : e.In) (hl : e.data.length ≤ 140737487000000) (σ : St) :
    ∃ r σ', Does Try.prog noPrim 53 [.agg (entCells e)] σ (.ret (.tuple [r, .int .i64 (if entOk e then 0 else 1)])) σ' ∧ Keep σ σ' ∧ BtsV r (entryS e) := by
  have key : ∃ q σ', Does Try.prog noPrim 53 [.agg (entCells e)] σ q σ' ∧ ∃ r, q = .ret (.tuple [r, .int .i64 (if entOk e then 0 else 1)]) ∧ Keep σ σ' ∧ BtsV r (entryS e) := by
    apply k53_is.does (by simp)
    have ho := push_new σ.objs (.cells (entCells e))
    have hk0 := (Keep.refl σ).push (.cells (entCells e))
    obtain ⟨σ1, hd1, hk1⟩ := valid_does e ⟨σ.objs ++ [.cells (entCells e)], σ.toks⟩
    have ho1 := hk1.1 _ _ ho
    have ll := vload_agg ho G64 S64
    simp only [k53_r0_e, k53_r1_e, k53_r2_e, k53_r3_e, k53_e, WK0, WK1, WK2, WK3, WK4, WK5, true_implies, vop, evAll, evOpt, evParts, vbuiltin, vun, vextract, Option.map_some, Option.map_none, Nat.reduceLT, Nat.reduceEqDiff, ↓reduceIte, reduceCtorEq, Nat.reduceAdd, Int.reduceLT, Int.reduceNeg, decide_true, decide_false, Bool.not_true, Bool.not_false, ne_eq, not_true_eq_false, not_false_eq_true, List.append_nil, Bool.false_eq_true, List.getElem?_cons_zero, List.getElem?_cons_succ, and_self, and_true, true_and, List.getD_cons_zero, vbox, vcells, ll]
    refine KD.ret hd1 ?_
    unfold entryS
    cases hv : entOk e with
    | false =>
      simp only [k53_r0_e, k53_r1_e, k53_r2_e, k53_r3_e, k53_e, WK0, WK1, WK2, WK3, WK4, WK5, true_implies, vop, evAll, evOpt, evParts, vbuiltin, vun, vextract, Option.map_some, Option.map_none, Nat.reduceLT, Nat.reduceEqDiff, ↓reduceIte, reduceCtorEq, Nat.reduceAdd, Int.reduceLT, Int.reduceNeg, decide_true, decide_false, Bool.not_true, Bool.not_false, ne_eq, not_true_eq_false, not_false_eq_true, List.append_nil, Bool.false_eq_true, List.getElem?_cons_zero, List.getElem?_cons_succ, and_self, and_true, true_and, List.getD_cons_zero]
      exact ⟨_, rfl, hk0.trans hk1, BtsV.nil⟩
    | true =>
      obtain ⟨b4, hb4, hb4i⟩ := buildInts4 hI.1 hI.2.1 hI.2.2.1 hI.2.2.2
      obtain ⟨r2, σ2, hd2, hk2, hr2⟩ := put_does BtsV.nil hb4i (by simp) σ1
      have ho2 := hk2.1 _ _ ho1
      have hpl := putS_len (xs := [e.kind, e.ver, e.cli, e.seq]) hb4i.2
      obtain ⟨r3, σ3, hd3, hk3, hr3⟩ := run_does hr2.bts e.data (by simp at hpl ⊢; omega) σ2
      have l1 := fun off => vload_obj (off := off) ho1 G3
      have l2 := fun off => vload_obj (off := off) ho1 G9
      have l3 := fun off => vload_obj (off := off) ho2 G9
      simp only [k53_r0_e, k53_r1_e, k53_r2_e, k53_r3_e, k53_e, WK0, WK1, WK2, WK3, WK4, WK5, true_implies, vop, evAll, evOpt, evParts, vbuiltin, vun, vextract, Option.map_some, Option.map_none, Nat.reduceLT, Nat.reduceEqDiff, ↓reduceIte, reduceCtorEq, Nat.reduceAdd, Int.reduceLT, Int.reduceNeg, decide_true, decide_false, Bool.not_true, Bool.not_false, ne_eq, not_true_eq_false, not_false_eq_true, List.append_nil, Bool.false_eq_true, List.getElem?_cons_zero, List.getElem?_cons_succ, and_self, and_true, true_and, List.getD_cons_zero, FE0, FE1, FE2, FE3, FE4, l1, l2, entC0, entC1, entC2, entC3, entC4, hb4, ofVal_nil]
      refine KD.ret hd2 ?_
      simp only [k53_r0_e, k53_r1_e, k53_r2_e, k53_r3_e, k53_e, WK0, WK1, WK2, WK3, WK4, WK5, true_implies, vop, evAll, evOpt, evParts, vbuiltin, vun, vextract, Option.map_some, Option.map_none, Nat.reduceLT, Nat.reduceEqDiff, ↓reduceIte, reduceCtorEq, Nat.reduceAdd, Int.reduceLT, Int.reduceNeg, decide_true, decide_false, Bool.not_true, Bool.not_false, ne_eq, not_true_eq_false, not_false_eq_true, List.append_nil, Bool.false_eq_true, List.getElem?_cons_zero, List.getElem?_cons_succ, and_self, and_true, true_and, List.getD_cons_zero, FE0, FE1, FE2, FE3, FE4, l1, l2, l3, entC0, entC1, entC2, entC3, entC4, hb4, ofVal_nil]
      refine KD.ret hd3 ?_
      simp only [k53_r0_e, k53_r1_e, k53_r2_e, k53_r3_e, k53_e, WK0, WK1, WK2, WK3, WK4, WK5, true_implies, vop, evAll, evOpt, evParts, vbuiltin, vun, vextract, Option.map_some, Option.map_none, Nat.reduceLT, Nat.reduceEqDiff, ↓reduceIte, reduceCtorEq, Nat.reduceAdd, Int.reduceLT, Int.reduceNeg, decide_true, decide_false, Bool.not_true, Bool.not_false, ne_eq, not_true_eq_false, not_false_eq_true, List.append_nil, Bool.false_eq_true, List.getElem?_cons_zero, List.getElem?_cons_succ, and_self, and_true, true_and, List.getD_cons_zero, FE0, FE1, FE2, FE3, FE4, l1, l2, l3, entC0, entC1, entC2, entC3, entC4, hb4, ofVal_nil]
      refine ⟨_, rfl, ((hk0.trans hk1).trans hk2).trans hk3, ?_⟩
      exact hr3.bts
  obtain ⟨q, σ', h1, r, rfl, h3⟩ := key
  exact ⟨r, σ', h1, h3⟩

def I54 (n : Nat) (σ0 : St) (xs : List Int) : Nat → (Nat → V) → St → Prop := fun i e σ => e 20 = .int .i64 i ∧ i ≤ xs.length ∧ OwnV 5 n σ (e 4) (putS (xs.take i)) ∧ Keep σ0 σ

theorem refentry_does (e : Ent) (hI : e.In) (hl : e.data.length ≤ 140737487000000) (σ : St) :
    ∃ r σ', Does Try.prog noPrim 54 [.agg (entCells e)] σ (.ret (.tuple [r, .int .i64 (if entOk e then 0 else 1)])) σ' ∧ Keep σ σ' ∧ BtsV r (entryS e) := by
  have key : ∃ q σ', Does Try.prog noPrim 54 [.agg (entCells e)] σ q σ' ∧ ∃ r, q = .ret (.tuple [r, .int .i64 (if entOk e then 0 else 1)]) ∧ Keep σ σ' ∧ BtsV r (entryS e) := by
    apply k54_is.does (by simp)
    have ho := push_new σ.objs (.cells (entCells e))
    have hk0 := (Keep.refl σ).push (.cells (entCells e))
    obtain ⟨σ1, hd1, hk1⟩ := refvalid_does e ⟨σ.objs ++ [.cells (entCells e)], σ.toks⟩
    have ho1 := hk1.1 _ _ ho
    have ll := vload_agg ho G64 S64
    simp only [k54_r0_e, k54_r1_e, k54_r2_e, k54_r3_e, k54_r4_e, k54_r5_e, k54_r6_e, k54_r7_e, k54_r8_e, k54_l0_e, k54_r9_e, k54_e, WK0, WK1, WK2, WK3, WK4, WK5, true_implies, vop, evAll, evOpt, evParts, vbuiltin, vun, vextract, Option.map_some, Option.map_none, Nat.reduceLT, Nat.reduceEqDiff, ↓reduceIte, reduceCtorEq, Nat.reduceAdd, Int.reduceLT, Int.reduceNeg, decide_true, decide_false, Bool.not_true, Bool.not_false, ne_eq, not_true_eq_false, not_false_eq_true, List.append_nil, Bool.false_eq_true, List.getElem?_cons_zero, List.getElem?_cons_succ, and_self, and_true, true_and, List.getD_cons_zero, vbox, vcells, ll]
    refine KD.ret hd1 ?_
    unfold entryS
    cases hv : entOk e with
    | false =>
      simp only [k54_r0_e, k54_r1_e, k54_r2_e, k54_r3_e, k54_r4_e, k54_r5_e, k54_r6_e, k54_r7_e, k54_r8_e, k54_l0_e, k54_r9_e, k54_e, WK0, WK1, WK2, WK3, WK4, WK5, true_implies, vop, evAll, evOpt, evParts, vbuiltin, vun, vextract, Option.map_some, Option.map_none, Nat.reduceLT, Nat.reduceEqDiff, ↓reduceIte, reduceCtorEq, Nat.reduceAdd, Int.reduceLT, Int.reduceNeg, decide_true, decide_false, Bool.not_true, Bool.not_false, ne_eq, not_true_eq_false, not_false_eq_true, List.append_nil, Bool.false_eq_true, List.getElem?_cons_zero, List.getElem?_cons_succ, and_self, and_true, true_and, List.getD_cons_zero]
      exact ⟨_, rfl, hk0.trans hk1, BtsV.nil⟩
    | true =>
      obtain ⟨b4, hb4, hb4i⟩ := buildInts4 hI.1 hI.2.1 hI.2.2.1 hI.2.2.2
      obtain ⟨xs, hxs⟩ : ∃ xs, xs = [e.kind, e.ver, e.cli, e.seq] := ⟨_, rfl⟩
      rw [← hxs] at hb4i
      have hxl : xs.length = 4 := by rw [hxs]; rfl
      have l1 := fun off => vload_obj (off := off) ho1 G3
      simp only [k54_r0_e, k54_r1_e, k54_r2_e, k54_r3_e, k54_r4_e, k54_r5_e, k54_r6_e, k54_r7_e, k54_r8_e, k54_l0_e, k54_r9_e, k54_e, WK0, WK1, WK2, WK3, WK4, WK5, true_implies, vop, evAll, evOpt, evParts, vbuiltin, vun, vextract, Option.map_some, Option.map_none, Nat.reduceLT, Nat.reduceEqDiff, ↓reduceIte, reduceCtorEq, Nat.reduceAdd, Int.reduceLT, Int.reduceNeg, decide_true, decide_false, Bool.not_true, Bool.not_false, ne_eq, not_true_eq_false, not_false_eq_true, List.append_nil, Bool.false_eq_true, List.getElem?_cons_zero, List.getElem?_cons_succ, and_self, and_true, true_and, List.getD_cons_zero, FE0, FE1, FE2, FE3, FE4, l1, entC0, entC1, entC2, entC3, entC4, hb4, ofVal_nil, hb4i.len IT]
      refine Ev.loopF (I54 σ1.toks.length σ1 xs) (fun i => xs.length - i) 0 ⟨by simp [upd_some], by simp, .inl ⟨by simp [upd_some], by simp [putS]⟩, Keep.refl _⟩ ?_
      rintro i en σ2 ⟨h20, hi, h4, hk2⟩ hf
      have h18 : en 18 = b4 := (hf 18 (by decide)).trans (by simp [upd_some])
      have h19 : en 19 = .int .i64 xs.length := (hf 19 (by decide)).trans (by simp [upd_some])
      have h1 : en 1 = .optr σ.objs.length 0 := (hf 1 (by decide)).trans (by simp [upd_some])
      clear hf
      have hpl := putS_len (xs := xs.take i) fun x hx => hb4i.2 x (List.mem_of_mem_take hx)
      rw [List.length_take, hxl] at hpl
      by_cases hlt : i < xs.length
      · have hlt' : (i : Int) < xs.length := by omega
        have hX := hb4i.2 xs[i] (List.getElem_mem hlt)
        have hwi : IntKind.i64.wrap ((i : Int) + 1) = ((i + 1 : Nat) : Int) := by rw [show ((i : Int) + 1) = ((i + 1 : Nat) : Int) from by omega]; exact wrap_nat (by omega)
        obtain ⟨r3, σ3, hd3, hk3, hr3⟩ := refput_does h4.bts hX (by omega) σ2
        simp only [k54_r0_e, k54_r1_e, k54_r2_e, k54_r3_e, k54_r4_e, k54_r5_e, k54_r6_e, k54_r7_e, k54_r8_e, k54_l0_e, k54_r9_e, k54_e, WK0, WK1, WK2, WK3, WK4, WK5, true_implies, vop, evAll, evOpt, evParts, vbuiltin, vun, vextract, Option.map_some, Option.map_none, Nat.reduceLT, Nat.reduceEqDiff, ↓reduceIte, reduceCtorEq, Nat.reduceAdd, Int.reduceLT, Int.reduceNeg, decide_true, decide_false, Bool.not_true, Bool.not_false, ne_eq, not_true_eq_false, not_false_eq_true, List.append_nil, Bool.false_eq_true, List.getElem?_cons_zero, List.getElem?_cons_succ, and_self, and_true, true_and, h18, h19, h20, hlt', hb4i.addr IT (Int.natCast_nonneg i) hlt', IntsV.load IT hlt, Int.toNat_natCast]
        refine KD.ret hd3 ?_
        simp only [k54_r0_e, k54_r1_e, k54_r2_e, k54_r3_e, k54_r4_e, k54_r5_e, k54_r6_e, k54_r7_e, k54_r8_e, k54_l0_e, k54_r9_e, k54_e, WK0, WK1, WK2, WK3, WK4, WK5, true_implies, vop, evAll, evOpt, evParts, vbuiltin, vun, vextract, Option.map_some, Option.map_none, Nat.reduceLT, Nat.reduceEqDiff, ↓reduceIte, reduceCtorEq, Nat.reduceAdd, Int.reduceLT, Int.reduceNeg, decide_true, decide_false, Bool.not_true, Bool.not_false, ne_eq, not_true_eq_false, not_false_eq_true, List.append_nil, Bool.false_eq_true, List.getElem?_cons_zero, List.getElem?_cons_succ, and_self, and_true, true_and, h18, h19, h20, hwi]
        refine ⟨i + 1, ⟨by simp [upd_some], hlt, ?_, hk2.trans hk3⟩, by omega⟩
        simp only [upd_some, ↓reduceIte, Nat.reduceEqDiff]
        rw [putS_take hlt]
        exact hr3.low (by have := hk2.2.1; omega)
      · have hlt' : ¬ (i : Int) < xs.length := by omega
        have ht : xs.take i = xs := List.take_of_length_le (by omega)
        rw [ht] at h4
        rw [ht] at hpl
        have ho2 := hk2.1 _ _ ho1
        have l2 := fun off => vload_obj (off := off) ho2 G9
        obtain ⟨r3, σ3, hd3, hk3, hr3⟩ := refrun18_does h4.bts e.data (by omega) σ2
        simp only [k54_r0_e, k54_r1_e, k54_r2_e, k54_r3_e, k54_r4_e, k54_r5_e, k54_r6_e, k54_r7_e, k54_r8_e, k54_l0_e, k54_r9_e, k54_e, WK0, WK1, WK2, WK3, WK4, WK5, true_implies, vop, evAll, evOpt, evParts, vbuiltin, vun, vextract, Option.map_some, Option.map_none, Nat.reduceLT, Nat.reduceEqDiff, ↓reduceIte, reduceCtorEq, Nat.reduceAdd, Int.reduceLT, Int.reduceNeg, decide_true, decide_false, Bool.not_true, Bool.not_false, ne_eq, not_true_eq_false, not_false_eq_true, List.append_nil, Bool.false_eq_true, List.getElem?_cons_zero, List.getElem?_cons_succ, and_self, and_true, true_and, h18, h19, h20, h1, hlt', FE4, l2, entC4]
        refine KD.ret hd3 ?_
        simp only [k54_r0_e, k54_r1_e, k54_r2_e, k54_r3_e, k54_r4_e, k54_r5_e, k54_r6_e, k54_r7_e, k54_r8_e, k54_l0_e, k54_r9_e, k54_e, WK0, WK1, WK2, WK3, WK4, WK5, true_implies, vop, evAll, evOpt, evParts, vbuiltin, vun, vextract, Option.map_some, Option.map_none, Nat.reduceLT, Nat.reduceEqDiff, ↓reduceIte, reduceCtorEq, Nat.reduceAdd, Int.reduceLT, Int.reduceNeg, decide_true, decide_false, Bool.not_true, Bool.not_false, ne_eq, not_true_eq_false, not_false_eq_true, List.append_nil, Bool.false_eq_true, List.getElem?_cons_zero, List.getElem?_cons_succ, and_self, and_true, true_and, h18, h19, h20, h1]
        refine ⟨_, rfl, ((hk0.trans hk1).trans hk2).trans hk3, ?_⟩
        rw [hxs] at hr3
        exact hr3.bts
  obtain ⟨q, σ', h1, r, rfl, h3⟩ := key
  exact ⟨r, σ', h1, h3⟩
end Go.Proofs.Ytcogghmmlndmgaa.Q
