import Derived.Test.YtcogghmmlndmgaaEj
import Derived.Test.YtcogghmmlndmgaaQt
set_option linter.unusedVariables false
set_option linter.unusedSimpArgs false
namespace Go.Proofs.Ytcogghmmlndmgaa.Q
open Go Go.RowKit Go.Proofs

theorem FO24 : fieldsOf Try.prog 24 = [(3, 0), (3, 1), (3, 2), (3, 3), (3, 4), (3, 5), (3, 6), (4, 7), (22, 8), (9, 9)] := by kernel_rfl
theorem CO3 : Try.prog.cellsOf 3 = 1 := by kernel_rfl
theorem CO4 : Try.prog.cellsOf 4 = 1 := by kernel_rfl
theorem CO9 : Try.prog.cellsOf 9 = 1 := by kernel_rfl
theorem CO22 : Try.prog.cellsOf 22 = 1 := by kernel_rfl
theorem CO64 : Try.prog.cellsOf 64 = 5 := by kernel_rfl
theorem CO66 : Try.prog.cellsOf 66 = 6 := by kernel_rfl
theorem CO24 : Try.prog.cellsOf 24 = 10 := by kernel_rfl

theorem one_of {cs : List V} {i : Nat} {v : V} (h : (cs.drop i).take 1 = [v]) : cs[i]? = some v := by
  have : ((cs.drop i).take 1)[0]? = some v := by rw [h]; rfl
  simpa using this

theorem list_ext5 {cs : List V} {a b c d e : V} (hl : cs.length = 5) (h0 : cs[0]? = some a) (h1 : cs[1]? = some b) (h2 : cs[2]? = some c) (h3 : cs[3]? = some d) (h4 : cs[4]? = some e) : cs = [a, b, c, d, e] := by
  match cs, hl with
  | [x0, x1, x2, x3, x4], _ => simp at h0 h1 h2 h3 h4; simp [h0, h1, h2, h3, h4]

theorem ent_VT {k : Nat} {cs : List V} (h : VT Try.prog k 64 cs) : ∃ e : Ent, cs = entCells e ∧ e.In := by
  obtain ⟨k', hl, hf⟩ := VT_struct FO64 h
  rw [CO64] at hl
  simp only [List.mem_cons, List.not_mem_nil, or_false, forall_eq_or_imp, forall_eq, CO3, CO9] at hf
  obtain ⟨f0, f1, f2, f3, f4⟩ := hf
  obtain ⟨a, h0, w0⟩ := VT_int T3 f0
  obtain ⟨b, h1, w1⟩ := VT_int T3 f1
  obtain ⟨c, h2, w2⟩ := VT_int T3 f2
  obtain ⟨d, h3, w3⟩ := VT_int T3 f3
  obtain ⟨s, h4, w4⟩ := VT_str T9 f4
  exact ⟨⟨a, b, c, d, s⟩, list_ext5 hl (one_of h0) (one_of h1) (one_of h2) (one_of h3) (one_of h4), InI64_of w0, InI64_of w1, InI64_of w2, InI64_of w3⟩

theorem itm_VT {k : Nat} {cs : List V} (h : VT Try.prog k 66 cs) : ∃ x : Itm, cs = itmCells x ∧ x.In := by
  obtain ⟨k', hl, hf⟩ := VT_struct FO66 h
  rw [CO66] at hl
  simp only [List.mem_cons, List.not_mem_nil, or_false, forall_eq_or_imp, forall_eq, CO3, CO64] at hf
  obtain ⟨f0, f1⟩ := hf
  obtain ⟨a, h0, w0⟩ := VT_int T3 f0
  obtain ⟨e, h1, hI⟩ := ent_VT f1
  refine ⟨⟨a, e⟩, ?_, InI64_of w0, hI⟩
  match cs, hl with
  | [x0, x1, x2, x3, x4, x5], _ =>
    simp at h0 h1
    simp only [itmCells, ← h1, h0]

theorem items_VT {k : Nat} {cs : List V} (h : VT Try.prog k 22 cs) : ∃ w l, cs = [w] ∧ ItemsV w l ∧ (∀ x ∈ l, x.In ∧ x.ent.data.length ≤ vbulks cs) ∧ l.length ≤ vbulks cs := by
  obtain ⟨k', hc⟩ := VT_slice RT.u h
  rcases hc with rfl | ⟨vs, len, rfl, h1, h2, h3⟩
  · exact ⟨.nils, [], rfl, ItemsV.nil, by simp, by simp⟩
  · rw [CO66] at h1 h3
    obtain ⟨l, rfl, hl, hR⟩ := rows_of (f := itmCells) (R := Itm.In) len vs h1 fun i hi => by
      obtain ⟨x, hx, hI⟩ := itm_VT (h3 i hi)
      exact ⟨x, hx, hI⟩
    subst hl
    rw [CO66]
    refine ⟨_, l, rfl, ⟨flat_len itmCells_len l, .inr ⟨.ro, rfl⟩⟩, fun x hx => ⟨hR x hx, ?_⟩, ?_⟩
    · have := bulk_mem (f := itmCells) hx
      simp only [itmCells, entCells, vbulks, vbulk] at this ⊢
      omega
    · have := bulk_len itmCells_len (by omega) l
      simp only [vbulks, vbulk]
      omega

theorem msg_arg {x : V} (h : ArgT Try.prog 24 x) : ∃ m w, x = .agg (msgCells m w) ∧ ItemsV w m.items ∧ m.In ∧ (∀ y ∈ m.items, y.In ∧ y.ent.data.length ≤ vbulk x) ∧ m.items.length ≤ vbulk x ∧ m.book.length ≤ vbulk x := by
  obtain ⟨k, cs, rfl, h0⟩ := ArgT_struct FO24 h
  obtain ⟨k', hl, hf⟩ := VT_struct FO24 h0
  rw [CO24] at hl
  simp only [List.mem_cons, List.not_mem_nil, or_false, forall_eq_or_imp, forall_eq, CO3, CO4, CO9, CO22] at hf
  obtain ⟨f0, f1, f2, f3, f4, f5, f6, f7, f8, f9⟩ := hf
  obtain ⟨a0, h0, w0⟩ := VT_int T3 f0
  obtain ⟨a1, h1, w1⟩ := VT_int T3 f1
  obtain ⟨a2, h2, w2⟩ := VT_int T3 f2
  obtain ⟨a3, h3, w3⟩ := VT_int T3 f3
  obtain ⟨a4, h4, w4⟩ := VT_int T3 f4
  obtain ⟨a5, h5, w5⟩ := VT_int T3 f5
  obtain ⟨a6, h6, w6⟩ := VT_int T3 f6
  obtain ⟨a7, h7⟩ := VT_bool T4 f7
  obtain ⟨w, l, h8, hv, hx, hlen⟩ := items_VT f8
  obtain ⟨s, h9, w9⟩ := VT_str T9 f9
  have hcs : cs = msgCells ⟨a0, a1, a2, a3, a4, a5, a6, a7, l, s⟩ w := by
    match cs, hl with
    | [x0, x1, x2, x3, x4, x5, x6, x7, x8, x9], _ =>
      simp at h0 h1 h2 h3 h4 h5 h6 h7 h8 h9
      simp [msgCells, h0, h1, h2, h3, h4, h5, h6, h7, h8, h9]
  subst hcs
  rw [h8] at hx hlen
  refine ⟨_, w, rfl, hv, ⟨InI64_of w0, InI64_of w1, InI64_of w2, InI64_of w3, InI64_of w4, InI64_of w5, InI64_of w6⟩, fun y hy => ⟨(hx y hy).1, ?_⟩, ?_, ?_⟩
  · have := (hx y hy).2
    simp only [msgCells, vbulk, vbulks] at this ⊢
    omega
  · simp only [msgCells, vbulk, vbulks] at hlen ⊢
    omega
  · simp only [msgCells, vbulk, vbulks]
    omega

def I10 (σ0 : St) (m : Msg) : Nat → (Nat → V) → St → Prop := fun i e σ => e 12 = .int .i64 i ∧ i ≤ m.items.length ∧ (∃ n : Int, e 3 = .int .i64 n ∧ 0 ≤ n ∧ n ≤ 4294967296) ∧ Keep σ0 σ

theorem heavy22_does {m : Msg} {w : V} (hw : ItemsV w m.items) (hin : ∀ x ∈ m.items, x.ent.data.length ≤ 1048600) (hl : m.items.length ≤ 1048600) (hbl : m.book.length ≤ 1048600) (σ : St) :
    ∃ b σ', Does Try.prog noPrim 10 [.agg (msgCells m w)] σ (.ret (.bool b)) σ' ∧ Keep σ σ' := by
  have key : ∃ q σ', Does Try.prog noPrim 10 [.agg (msgCells m w)] σ q σ' ∧ ∃ b, q = .ret (.bool b) ∧ Keep σ σ' := by
    apply k10_is.does (by simp)
    obtain ⟨σ1, hσ1⟩ : ∃ σ1 : St, σ1 = ⟨σ.objs ++ [Ob.cells (msgCells m w)], σ.toks⟩ := ⟨_, rfl⟩
    have hk1 : Keep σ σ1 := by rw [hσ1]; exact (Keep.refl σ).push _
    have q1 : IsM σ1 σ.objs.length m w := by rw [hσ1]; exact push_new _ _
    simp only [k10_r0_e, k10_r1_e, k10_r2_e, k10_r3_e, k10_r4_e, k10_r5_e, k10_r6_e, k10_r7_e, k10_r8_e, k10_l0_e, k10_r9_e, k10_e, WK0, WK1, WK2, WK3, WK4, WK5, true_implies, vop, evAll, evOpt, evParts, vbuiltin, vun, vextract, Option.map_some, Option.map_none, Nat.reduceLT, Nat.reduceEqDiff, ↓reduceIte, reduceCtorEq, Nat.reduceAdd, Int.reduceLT, Int.reduceNeg, decide_true, decide_false, Bool.not_true, Bool.not_false, ne_eq, not_true_eq_false, not_false_eq_true, List.append_nil, Bool.false_eq_true, List.getElem?_cons_zero, List.getElem?_cons_succ, and_self, and_true, true_and, List.getD_cons_zero, vbox, vcells, ← hσ1, FM8, FM9, q1.s, q1.l, msgC8, msgC9, vlen_str T9, hw.len]
    refine Ev.loopF (I10 σ m) (fun i => m.items.length - i) 0 ⟨by simp [upd_some], by simp, ⟨m.book.length, by simp [upd_some], by omega, by omega⟩, hk1⟩ ?_
    rintro i e σ2 ⟨h12, hi, ⟨n, h3, hn0, hn1⟩, hk⟩ hf
    have h10 : e 10 = w := (hf 10 (by decide)).trans (by simp [upd_some])
    have h11 : e 11 = .int .i64 m.items.length := (hf 11 (by decide)).trans (by simp [upd_some])
    clear hf
    by_cases hlt : i < m.items.length
    · have hlt' : (i : Int) < (m.items.length : Int) := by omega
      have hwi : IntKind.i64.wrap ((i : Int) + 1) = ((i + 1 : Nat) : Int) := by rw [show ((i : Int) + 1) = ((i + 1 : Nat) : Int) from by omega]; exact wrap_nat (by omega)
      have hd := hin _ (List.getElem_mem hlt)
      have hw1 : IntKind.i64.wrap (1 + (m.items[i].ent.data.length : Int)) = 1 + (m.items[i].ent.data.length : Int) := wrap_i64 (by omega) (by omega)
      have hw2 : IntKind.i64.wrap (n + (1 + (m.items[i].ent.data.length : Int))) = n + (1 + (m.items[i].ent.data.length : Int)) := wrap_i64 (by omega) (by omega)
      have hq := IsI.made (σ := σ2) (o := itm0) (x := m.items[i])
      obtain ⟨σ3, hσ3⟩ : ∃ σ3 : St, σ3 = ⟨(σ2.objs ++ [Ob.cells (itmCells itm0)]).set σ2.objs.length (Ob.cells (itmCells m.items[i])), σ2.toks⟩ := ⟨_, rfl⟩
      have hk3 : Keep σ2 σ3 := by rw [hσ3]; exact (Keep.refl σ2).made _ _
      rw [← hσ3] at hq
      have hds : vload Try.prog σ3.objs 9 (.optr σ2.objs.length 5) = some (.str m.items[i].ent.data) := by rw [vload_obj hq G9]; rfl
      by_cases hbig : (16384 : Int) < n + (1 + (m.items[i].ent.data.length : Int))
      · simp only [k10_r0_e, k10_r1_e, k10_r2_e, k10_r3_e, k10_r4_e, k10_r5_e, k10_r6_e, k10_r7_e, k10_r8_e, k10_l0_e, k10_r9_e, k10_e, WK0, WK1, WK2, WK3, WK4, WK5, true_implies, vop, evAll, evOpt, evParts, vbuiltin, vun, vextract, Option.map_some, Option.map_none, Nat.reduceLT, Nat.reduceEqDiff, ↓reduceIte, reduceCtorEq, Nat.reduceAdd, Int.reduceLT, Int.reduceNeg, decide_true, decide_false, Bool.not_true, Bool.not_false, ne_eq, not_true_eq_false, not_false_eq_true, List.append_nil, Bool.false_eq_true, List.getElem?_cons_zero, List.getElem?_cons_succ, and_self, and_true, true_and, h3, h10, h11, h12, hlt', hw.addr hlt, ItemsV.load hlt, Z66, vbox, vcells, IsI.new, FI1, FE4, ← hσ3, hds, vlen_str T9, hw1, hw2, hbig]
        exact ⟨_, rfl, hk.trans hk3⟩
      · simp only [k10_r0_e, k10_r1_e, k10_r2_e, k10_r3_e, k10_r4_e, k10_r5_e, k10_r6_e, k10_r7_e, k10_r8_e, k10_l0_e, k10_r9_e, k10_e, WK0, WK1, WK2, WK3, WK4, WK5, true_implies, vop, evAll, evOpt, evParts, vbuiltin, vun, vextract, Option.map_some, Option.map_none, Nat.reduceLT, Nat.reduceEqDiff, ↓reduceIte, reduceCtorEq, Nat.reduceAdd, Int.reduceLT, Int.reduceNeg, decide_true, decide_false, Bool.not_true, Bool.not_false, ne_eq, not_true_eq_false, not_false_eq_true, List.append_nil, Bool.false_eq_true, List.getElem?_cons_zero, List.getElem?_cons_succ, and_self, and_true, true_and, h3, h10, h11, h12, hlt', hw.addr hlt, ItemsV.load hlt, Z66, vbox, vcells, IsI.new, FI1, FE4, ← hσ3, hds, vlen_str T9, hw1, hw2, hbig, hwi]
        refine ⟨i + 1, ⟨by simp [upd_some], hlt, ⟨_, by simp [upd_some]; rfl, by omega, by omega⟩, hk.trans hk3⟩, by omega⟩
    · have hlt' : ¬ (i : Int) < (m.items.length : Int) := by omega
      simp only [k10_r0_e, k10_r1_e, k10_r2_e, k10_r3_e, k10_r4_e, k10_r5_e, k10_r6_e, k10_r7_e, k10_r8_e, k10_l0_e, k10_r9_e, k10_e, WK0, WK1, WK2, WK3, WK4, WK5, true_implies, vop, evAll, evOpt, evParts, vbuiltin, vun, vextract, Option.map_some, Option.map_none, Nat.reduceLT, Nat.reduceEqDiff, ↓reduceIte, reduceCtorEq, Nat.reduceAdd, Int.reduceLT, Int.reduceNeg, decide_true, decide_false, Bool.not_true, Bool.not_false, ne_eq, not_true_eq_false, not_false_eq_true, List.append_nil, Bool.false_eq_true, List.getElem?_cons_zero, List.getElem?_cons_succ, and_self, and_true, true_and, h3, h10, h11, h12, hlt']
      exact ⟨_, rfl, hk⟩
  obtain ⟨q, σ', h1, b, rfl, h3⟩ := key
  exact ⟨b, σ', h1, h3⟩
end Go.Proofs.Ytcogghmmlndmgaa.Q
