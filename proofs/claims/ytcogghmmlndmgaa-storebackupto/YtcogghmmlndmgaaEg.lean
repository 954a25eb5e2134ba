import Derived.Test.YtcogghmmlndmgaaEf
set_option linter.unusedVariables false
set_option linter.unusedSimpArgs false
namespace Go.Proofs.Ytcogghmmlndmgaa.Q
open Go Go.RowKit Go.Proofs

theorem BI2 (a : Int) (e : Ent) : vbuild Try.prog 66 [(0, .int .i64 a), (1, .agg (entCells e))] = some (.agg (itmCells ⟨a, e⟩)) := by kernel_rfl
theorem BI1 (a : Int) : vbuild Try.prog 66 [(0, .int .i64 a)] = some (.agg (itmCells ⟨a, ent0⟩)) := by kernel_rfl
theorem buildItem (x : Itm) : vbuildSlice Try.prog 22 1 [(0, .agg (itmCells x))] = some (.slice .exact 6 (itmCells x) 1) := by
  obtain ⟨z, hz, hl⟩ := RT.z
  obtain ⟨z', hz', hl'⟩ : ∃ z', z' = vcells z ∧ z'.length = 6 := ⟨_, rfl, hl⟩
  simp only [vbuildSlice, RT.u, RT.s, hz, ← hz', hl']
  have h0 : (zeroCellsV z' (1 * 6)).length = 6 := by simp [zeroCellsV]
  have h1 : vfill (fun i => some (i * 6, 6)) (zeroCellsV z' (1 * 6)) [(0, .agg (itmCells x))] = some (itmCells x) := by
    simp only [vfill, vcells, itmCells_len, h0]
    rw [setAll_take _ _ _ (by rw [itmCells_len, h0]; omega)]
    have : List.drop (0 * 6 + (itmCells x).length) (zeroCellsV z' (1 * 6)) = [] := List.drop_of_length_le (by rw [h0, itmCells_len]; omega)
    rw [this]
    simp
  simp [h1]
theorem itmCells_one (x : Itm) : (itmCells x).all one = true := rfl

/-- A reading's answer. -/
def ItemsR (o : Option (List Itm × List UInt8)) (r : Nat) (v : V) (σ' : St) : Prop := match o with
  | none => v = .tuple [.nils, .bool false]
  | some (l, b) => ∃ w, v = .tuple [w, .bool true] ∧ ItemsV w l ∧ Rdr σ' r b false

def I24 (rr : Nat) (m : Nat) (σ0 : St) (s : List UInt8 × Bool) (n : Nat) : Nat → (Nat → V) → St → Prop := fun i e σ =>
  e 17 = .int .i64 i ∧ i ≤ n ∧ ∃ l s', rItems i s = some (l, s') ∧ Rdr σ rr s'.1 s'.2 ∧ OwnR 66 6 m σ (e 7) (l.flatMap itmCells) l.length ∧ KeepX rr σ0 σ ∧ (i = 0 → e 7 = .nils)

theorem KeepX.len {r : Nat} {σ σ' : St} (hk : KeepX r σ σ') (hr : r < σ'.objs.length) : σ.objs.length ≤ σ'.objs.length := by
  apply Nat.le_of_not_lt
  intro hlt
  have h1 := hk.1 σ'.objs.length _ (by omega) (List.getElem?_eq_getElem hlt)
  have := (List.getElem?_eq_some_iff.1 h1).1
  omega
theorem KeepX.toks {q : Nat} {σ σ' : St} (h : KeepX q σ σ') : ∀ k, tokLive σ.toks k = true → tokLive σ'.toks k = true := h.2.2

theorem OwnR.appendX {q : Nat} {t t2 e : TypeId} {k by_ : Nat} (hT : RowT Try.prog t e k by_) {m : Nat} {σ0 σ : St} {v y : V} {cs ys : List V} {n l : Nat} (h : OwnR e k m σ v cs n) (hn : m = σ0.toks.length) (hk : KeepX q σ0 σ) (hnews : vnews Try.prog t2 y k = some (ys, l)) (hyl : ys.length = l * k) (hone : ys.all one = true) (hl : n + l ≤ 140737488355328) (hb : (n + l) * by_ ≤ 140737488355328) :
    ∃ v' σ', vappend Try.prog σ t t2 v y = some (v', σ') ∧ OwnR e k m σ' v' (cs ++ ys) (n + l) ∧ KeepX q σ0 σ' ∧ σ'.objs = σ.objs := by
  obtain ⟨v', σ', h1, h2, h3, h4⟩ := h.append hT (σ0 := ⟨[], σ0.toks⟩) hn ⟨fun r o ho => by simp at ho, hk.2⟩ hnews hyl hone hl hb
  exact ⟨v', σ', h1, h2, ⟨fun r o hr ho => by rw [h4]; exact hk.1 r o hr ho, h3.2⟩, h4⟩

theorem rItem_eq (s : List UInt8 × Bool) {a b : Nat × List UInt8 × Bool} {c : List UInt8 × List UInt8 × Bool} (ha : a = numS s.1 s.2) (hb : b = numS a.2.1 a.2.2) (hc : c = bytS b.2.1 b.2.2 (b.1 : Nat)) : rItem s = ((readEntS c.1).map fun e => ⟨(a.1 : Nat), e⟩, c.2) := by
  rw [hc, hb, ha]; rfl

theorem readitems_does {r : Nat} {bs : List UInt8} {bad : Bool} {σ : St} (h : Rdr σ r bs bad) (hlen : bs.length ≤ 1000000000000) (most : Int) :
    ∃ v σ', Does Try.prog noPrim 24 [.optr r 0, .int .i64 most] σ (.ret v) σ' ∧ KeepX r σ σ' ∧ ItemsR (readItemsS bs bad most) r v σ' := by
  have key : ∃ q σ', Does Try.prog noPrim 24 [.optr r 0, .int .i64 most] σ q σ' ∧ ∃ v, q = .ret v ∧ KeepX r σ σ' ∧ ItemsR (readItemsS bs bad most) r v σ' := by
    apply k24_is.does (by simp)
    obtain ⟨a1, σ1, ha1, hd1, hk1, hr1, b1⟩ := number_step h hlen (by omega)
    obtain ⟨S, hS⟩ : ∃ S, S = readItemsS bs bad most := ⟨_, rfl⟩
    rw [← hS]
    unfold readItemsS at hS
    rw [← ha1] at hS
    simp only [k24_r0_e, k24_r1_e, k24_r2_e, k24_r3_e, k24_r4_e, k24_r5_e, k24_r6_e, k24_r7_e, k24_r8_e, k24_r9_e, k24_r10_e, k24_r11_e, k24_r12_e, k24_l0_e, k24_r13_e, k24_e, WK0, WK1, WK2, WK3, WK4, WK5, true_implies, vop, evAll, evOpt, evParts, vbuiltin, vun, vextract, Option.map_some, Option.map_none, Nat.reduceLT, Nat.reduceEqDiff, ↓reduceIte, reduceCtorEq, Nat.reduceAdd, Int.reduceLT, Int.reduceNeg, decide_true, decide_false, Bool.not_true, Bool.not_false, ne_eq, not_true_eq_false, not_false_eq_true, List.append_nil, Bool.false_eq_true, List.getElem?_cons_zero, List.getElem?_cons_succ, and_self, and_true, true_and, List.getD_cons_zero, List.getD_cons_succ, ofVal_nil]
    refine KD.ret hd1 ?_
    by_cases hm : most < (a1.1 : Int)
    · simp only [k24_r0_e, k24_r1_e, k24_r2_e, k24_r3_e, k24_r4_e, k24_r5_e, k24_r6_e, k24_r7_e, k24_r8_e, k24_r9_e, k24_r10_e, k24_r11_e, k24_r12_e, k24_l0_e, k24_r13_e, k24_e, WK0, WK1, WK2, WK3, WK4, WK5, true_implies, vop, evAll, evOpt, evParts, vbuiltin, vun, vextract, Option.map_some, Option.map_none, Nat.reduceLT, Nat.reduceEqDiff, ↓reduceIte, reduceCtorEq, Nat.reduceAdd, Int.reduceLT, Int.reduceNeg, decide_true, decide_false, Bool.not_true, Bool.not_false, ne_eq, not_true_eq_false, not_false_eq_true, List.append_nil, Bool.false_eq_true, List.getElem?_cons_zero, List.getElem?_cons_succ, and_self, and_true, true_and, List.getD_cons_zero, List.getD_cons_succ, ofVal_nil, hm]
      rw [if_pos hm] at hS
      subst hS
      exact ⟨_, rfl, hk1, rfl⟩
    · simp only [k24_r0_e, k24_r1_e, k24_r2_e, k24_r3_e, k24_r4_e, k24_r5_e, k24_r6_e, k24_r7_e, k24_r8_e, k24_r9_e, k24_r10_e, k24_r11_e, k24_r12_e, k24_l0_e, k24_r13_e, k24_e, WK0, WK1, WK2, WK3, WK4, WK5, true_implies, vop, evAll, evOpt, evParts, vbuiltin, vun, vextract, Option.map_some, Option.map_none, Nat.reduceLT, Nat.reduceEqDiff, ↓reduceIte, reduceCtorEq, Nat.reduceAdd, Int.reduceLT, Int.reduceNeg, decide_true, decide_false, Bool.not_true, Bool.not_false, ne_eq, not_true_eq_false, not_false_eq_true, List.append_nil, Bool.false_eq_true, List.getElem?_cons_zero, List.getElem?_cons_succ, and_self, and_true, true_and, List.getD_cons_zero, List.getD_cons_succ, ofVal_nil, hm]
      have ha1l : a1.1 < 2 ^ 63 := by
        rw [ha1]
        cases hb : (numS bs bad).2.2 with
        | true => rw [numS_bad hb]; omega
        | false => exact (numS_ok hb).2.2
      refine Ev.loopF (I24 r σ.toks.length σ a1.2 a1.1) (fun i => a1.1 - i) 0 ⟨by simp [upd_some], by simp, [], a1.2, rfl, hr1, by simpa [upd_some] using OwnR.nil, hk1, fun _ => by simp [upd_some]⟩ ?_
      rintro i e σ2 ⟨h17, hi, l, s', hri, hr2, h7, hk2, hz⟩ hf
      have h16 : e 16 = .int .i64 a1.1 := (hf 16 (by decide)).trans (by simp [upd_some])
      have h0 : e 0 = .optr r 0 := (hf 0 (by decide)).trans (by simp [upd_some])
      clear hf
      obtain ⟨j1, j2, j3, j4, j5, j6⟩ := rItems_some hri
      by_cases hlt : i < a1.1
      · have hlt' : (i : Int) < a1.1 := by omega
        have hwi : IntKind.i64.wrap ((i : Int) + 1) = ((i + 1 : Nat) : Int) := by rw [show ((i : Int) + 1) = ((i + 1 : Nat) : Int) from by omega]; exact wrap_nat (by omega)
        obtain ⟨c1, σ3, hc1, hd3, hk3, hr3, b3⟩ := number_step hr2 (M := 1000000000000) (by omega) (by omega)
        obtain ⟨c2, σ4, hc2, hd4, hk4, hr4, b4⟩ := number_step hr3 b3 (by omega)
        obtain ⟨c3, w, σ5, hc3, hd5, hk5, hr5, hw5, b5, b5'⟩ := bytes_step hr4 b4 (by omega) (c2.1 : Nat)
        have hIt := rItem_eq s' hc1 hc2 hc3
        obtain ⟨σ6, hd6, hk6⟩ := readentry_does hw5 (by omega) σ5
        have hr6 := hr5.keep' hk6
        have hk26 : KeepX r σ σ6 := (((hk2.trans hk3).trans hk4).trans hk5).trans (hk6.x r)
        simp only [k24_r0_e, k24_r1_e, k24_r2_e, k24_r3_e, k24_r4_e, k24_r5_e, k24_r6_e, k24_r7_e, k24_r8_e, k24_r9_e, k24_r10_e, k24_r11_e, k24_r12_e, k24_l0_e, k24_r13_e, k24_e, WK0, WK1, WK2, WK3, WK4, WK5, true_implies, vop, evAll, evOpt, evParts, vbuiltin, vun, vextract, Option.map_some, Option.map_none, Nat.reduceLT, Nat.reduceEqDiff, ↓reduceIte, reduceCtorEq, Nat.reduceAdd, Int.reduceLT, Int.reduceNeg, decide_true, decide_false, Bool.not_true, Bool.not_false, ne_eq, not_true_eq_false, not_false_eq_true, List.append_nil, Bool.false_eq_true, List.getElem?_cons_zero, List.getElem?_cons_succ, and_self, and_true, true_and, h0, h16, h17, hlt']
        refine KD.ret hd3 ?_
        simp only [k24_r0_e, k24_r1_e, k24_r2_e, k24_r3_e, k24_r4_e, k24_r5_e, k24_r6_e, k24_r7_e, k24_r8_e, k24_r9_e, k24_r10_e, k24_r11_e, k24_r12_e, k24_l0_e, k24_r13_e, k24_e, WK0, WK1, WK2, WK3, WK4, WK5, true_implies, vop, evAll, evOpt, evParts, vbuiltin, vun, vextract, Option.map_some, Option.map_none, Nat.reduceLT, Nat.reduceEqDiff, ↓reduceIte, reduceCtorEq, Nat.reduceAdd, Int.reduceLT, Int.reduceNeg, decide_true, decide_false, Bool.not_true, Bool.not_false, ne_eq, not_true_eq_false, not_false_eq_true, List.append_nil, Bool.false_eq_true, List.getElem?_cons_zero, List.getElem?_cons_succ, and_self, and_true, true_and, h0, h16, h17]
        refine KD.ret hd4 ?_
        simp only [k24_r0_e, k24_r1_e, k24_r2_e, k24_r3_e, k24_r4_e, k24_r5_e, k24_r6_e, k24_r7_e, k24_r8_e, k24_r9_e, k24_r10_e, k24_r11_e, k24_r12_e, k24_l0_e, k24_r13_e, k24_e, WK0, WK1, WK2, WK3, WK4, WK5, true_implies, vop, evAll, evOpt, evParts, vbuiltin, vun, vextract, Option.map_some, Option.map_none, Nat.reduceLT, Nat.reduceEqDiff, ↓reduceIte, reduceCtorEq, Nat.reduceAdd, Int.reduceLT, Int.reduceNeg, decide_true, decide_false, Bool.not_true, Bool.not_false, ne_eq, not_true_eq_false, not_false_eq_true, List.append_nil, Bool.false_eq_true, List.getElem?_cons_zero, List.getElem?_cons_succ, and_self, and_true, true_and, h0, h16, h17]
        refine KD.ret hd5 ?_
        simp only [k24_r0_e, k24_r1_e, k24_r2_e, k24_r3_e, k24_r4_e, k24_r5_e, k24_r6_e, k24_r7_e, k24_r8_e, k24_r9_e, k24_r10_e, k24_r11_e, k24_r12_e, k24_l0_e, k24_r13_e, k24_e, WK0, WK1, WK2, WK3, WK4, WK5, true_implies, vop, evAll, evOpt, evParts, vbuiltin, vun, vextract, Option.map_some, Option.map_none, Nat.reduceLT, Nat.reduceEqDiff, ↓reduceIte, reduceCtorEq, Nat.reduceAdd, Int.reduceLT, Int.reduceNeg, decide_true, decide_false, Bool.not_true, Bool.not_false, ne_eq, not_true_eq_false, not_false_eq_true, List.append_nil, Bool.false_eq_true, List.getElem?_cons_zero, List.getElem?_cons_succ, and_self, and_true, true_and, h0, h16, h17]
        refine KD.ret hd6 ?_
        unfold entR at hd6
        cases hre : readEntS c3.1 with
        | none =>
          rw [hre] at hIt
          have hn : rItems a1.1 a1.2 = none := rItems_mono (i := i + 1) (by rw [rItems, hri]; simp only; rw [hIt]; rfl) (by omega)
          simp only [k24_r0_e, k24_r1_e, k24_r2_e, k24_r3_e, k24_r4_e, k24_r5_e, k24_r6_e, k24_r7_e, k24_r8_e, k24_r9_e, k24_r10_e, k24_r11_e, k24_r12_e, k24_l0_e, k24_r13_e, k24_e, WK0, WK1, WK2, WK3, WK4, WK5, true_implies, vop, evAll, evOpt, evParts, vbuiltin, vun, vextract, Option.map_some, Option.map_none, Nat.reduceLT, Nat.reduceEqDiff, ↓reduceIte, reduceCtorEq, Nat.reduceAdd, Int.reduceLT, Int.reduceNeg, decide_true, decide_false, Bool.not_true, Bool.not_false, ne_eq, not_true_eq_false, not_false_eq_true, List.append_nil, Bool.false_eq_true, List.getElem?_cons_zero, List.getElem?_cons_succ, and_self, and_true, true_and, h0, h16, h17, Z64, vbox, vcells, IsE.new, Option.getD_none, Option.isSome_none, ofVal_nil, Int.reduceEq]
          rw [if_neg hm, hn] at hS
          subst hS
          refine ⟨_, rfl, (hk26.push _).setNew (hk26.len hr6.lt) _, rfl⟩
        | some en =>
          rw [hre] at hIt
          have hnx : rItems (i + 1) a1.2 = some (l ++ [⟨(c1.1 : Nat), en⟩], c3.2) := by rw [rItems, hri]; simp only; rw [hIt]; rfl
          obtain ⟨σ7, hσ7⟩ : ∃ σ7 : St, σ7 = ⟨(σ6.objs ++ [Ob.cells (entCells ent0)]).set σ6.objs.length (Ob.cells (entCells en)), σ6.toks⟩ := ⟨_, rfl⟩
          have q7 : IsE σ7 σ6.objs.length en := by rw [hσ7]; exact obj_set (push_new _ _)
          have k67 : Keep σ6 σ7 := by rw [hσ7]; exact ((Keep.refl σ6).push _).setNew (Nat.le_refl _) _
          have h7' : OwnR 66 6 σ.toks.length σ7 (e 7) (l.flatMap itmCells) l.length := h7.keep fun k hk => k67.2.2 k (hk6.2.2 k (hk5.2.2 k (hk4.2.2 k (hk3.2.2 k hk))))
          have hxl : l.length + 1 ≤ 1000000000000 := by
            have := (rItems_some hnx).2.2.2.2.1
            omega
          obtain ⟨v8, σ8, ha8, ho8, hk8, hob⟩ := h7'.appendX RT (q := r) (σ0 := σ) rfl (hk26.trans (k67.x r)) (t2 := 22) (y := .slice .exact 6 (itmCells ⟨(c1.1 : Nat), en⟩) 1) (ys := itmCells ⟨(c1.1 : Nat), en⟩) (l := 1) (by simp [vnews, RT.u]) rfl rfl (by omega) (by omega)
          have hr8 : Rdr σ8 r c3.2.1 c3.2.2 := by
            obtain ⟨u, hu1, hu2⟩ := hr6.keep' k67
            exact ⟨u, by rw [hob]; exact hu1, hu2⟩
          simp only [k24_r0_e, k24_r1_e, k24_r2_e, k24_r3_e, k24_r4_e, k24_r5_e, k24_r6_e, k24_r7_e, k24_r8_e, k24_r9_e, k24_r10_e, k24_r11_e, k24_r12_e, k24_l0_e, k24_r13_e, k24_e, WK0, WK1, WK2, WK3, WK4, WK5, true_implies, vop, evAll, evOpt, evParts, vbuiltin, vun, vextract, Option.map_some, Option.map_none, Nat.reduceLT, Nat.reduceEqDiff, ↓reduceIte, reduceCtorEq, Nat.reduceAdd, Int.reduceLT, Int.reduceNeg, decide_true, decide_false, Bool.not_true, Bool.not_false, ne_eq, not_true_eq_false, not_false_eq_true, List.append_nil, Bool.false_eq_true, List.getElem?_cons_zero, List.getElem?_cons_succ, and_self, and_true, true_and, h0, h16, h17, Z64, vbox, vcells, IsE.new, Option.getD_some, Option.isSome_some, ofVal_nil, ← hσ7, q7.load, BI2, buildItem, ha8, hwi]
          refine ⟨i + 1, ⟨by simp [upd_some], hlt, _, _, hnx, hr8, ?_, hk8, fun h => by omega⟩, by omega⟩
          simp only [upd_some, ↓reduceIte, Nat.reduceEqDiff, List.flatMap_append, List.flatMap_cons, List.flatMap_nil, List.append_nil, List.length_append, List.length_cons, List.length_nil]
          exact ho8
      · have hlt' : ¬ (i : Int) < a1.1 := by omega
        have hie : i = a1.1 := by omega
        subst hie
        have hbd := bad_does hr2
        simp only [k24_r0_e, k24_r1_e, k24_r2_e, k24_r3_e, k24_r4_e, k24_r5_e, k24_r6_e, k24_r7_e, k24_r8_e, k24_r9_e, k24_r10_e, k24_r11_e, k24_r12_e, k24_l0_e, k24_r13_e, k24_e, WK0, WK1, WK2, WK3, WK4, WK5, true_implies, vop, evAll, evOpt, evParts, vbuiltin, vun, vextract, Option.map_some, Option.map_none, Nat.reduceLT, Nat.reduceEqDiff, ↓reduceIte, reduceCtorEq, Nat.reduceAdd, Int.reduceLT, Int.reduceNeg, decide_true, decide_false, Bool.not_true, Bool.not_false, ne_eq, not_true_eq_false, not_false_eq_true, List.append_nil, Bool.false_eq_true, List.getElem?_cons_zero, List.getElem?_cons_succ, and_self, and_true, true_and, h0, h16, h17, hlt']
        refine KD.ret hbd ?_
        simp only [k24_r0_e, k24_r1_e, k24_r2_e, k24_r3_e, k24_r4_e, k24_r5_e, k24_r6_e, k24_r7_e, k24_r8_e, k24_r9_e, k24_r10_e, k24_r11_e, k24_r12_e, k24_l0_e, k24_r13_e, k24_e, WK0, WK1, WK2, WK3, WK4, WK5, true_implies, vop, evAll, evOpt, evParts, vbuiltin, vun, vextract, Option.map_some, Option.map_none, Nat.reduceLT, Nat.reduceEqDiff, ↓reduceIte, reduceCtorEq, Nat.reduceAdd, Int.reduceLT, Int.reduceNeg, decide_true, decide_false, Bool.not_true, Bool.not_false, ne_eq, not_true_eq_false, not_false_eq_true, List.append_nil, Bool.false_eq_true, List.getElem?_cons_zero, List.getElem?_cons_succ, and_self, and_true, true_and, h0, h16, h17, hlt']
        rw [if_neg hm, hri] at hS
        cases hsb : s'.2 with
        | false =>
          have : S = some (l, s'.1) := by rw [hS]; simp [hsb]
          subst this
          rw [hsb] at hr2
          exact ⟨_, rfl, hk2, _, rfl, h7.row, hr2⟩
        | true =>
          have : S = none := by rw [hS]; simp [hsb]
          subst this
          have hl0 : a1.1 = 0 := by
            rw [ha1]
            exact numS_bad (by rw [← ha1, ← j3, hsb])
          have hl1 : l = [] := List.length_eq_zero_iff.1 (by omega)
          subst hl1
          rw [hz hl0]
          exact ⟨_, rfl, hk2, rfl⟩
  obtain ⟨q, σ', h1, v, rfl, h2, h3⟩ := key
  exact ⟨v, σ', h1, h2, h3⟩

def I25 (rr : Nat) (m : Nat) (σ0 : St) (s : List UInt8 × Bool) (n : Nat) : Nat → (Nat → V) → St → Prop := fun i e σ =>
  e 8 = .int .i64 i ∧ i ≤ n ∧ ∃ l s', rItems i s = some (l, s') ∧ s'.2 = false ∧ Rdr σ rr s'.1 s'.2 ∧ OwnR 66 6 m σ (e 7) (l.flatMap itmCells) l.length ∧ KeepX rr σ0 σ

theorem IsI.setEnt {σ : St} {q : Nat} {x : Itm} (h : IsI σ q x) (e : Ent) : vstore Try.prog σ 64 (.optr q 1) (.agg (entCells e)) = some ⟨σ.objs.set q (Ob.cells (itmCells ⟨x.term, e⟩)), σ.toks⟩ := by
  have h' : σ.objs[q]? = some (.cells (itmCells x)) := h
  simp only [vstore, h', vcells, S64]
  rfl

theorem refreaditems_does {r : Nat} {bs : List UInt8} {bad : Bool} {σ : St} (h : Rdr σ r bs bad) (hlen : bs.length ≤ 1000000000000) (most : Int) :
    ∃ v σ', Does Try.prog noPrim 25 [.optr r 0, .int .i64 most] σ (.ret v) σ' ∧ KeepX r σ σ' ∧ ItemsR (readItemsS bs bad most) r v σ' := by
  have key : ∃ q σ', Does Try.prog noPrim 25 [.optr r 0, .int .i64 most] σ q σ' ∧ ∃ v, q = .ret v ∧ KeepX r σ σ' ∧ ItemsR (readItemsS bs bad most) r v σ' := by
    apply k25_is.does (by simp)
    obtain ⟨a1, σ1, ha1, hd1, hk1, hr1, b1⟩ := refnumber_step h hlen (by omega)
    obtain ⟨S, hS⟩ : ∃ S, S = readItemsS bs bad most := ⟨_, rfl⟩
    rw [← hS]
    unfold readItemsS at hS
    rw [← ha1] at hS
    obtain ⟨u1, hu1, hub1⟩ := id hr1
    simp only [k25_r0_e, k25_r1_e, k25_r2_e, k25_r3_e, k25_r4_e, k25_r5_e, k25_r6_e, k25_r8_e, k25_r9_e, k25_r10_e, k25_r11_e, k25_r12_e, k25_r13_e, k25_r14_e, k25_r7_e, k25_l0_e, k25_r15_e, k25_e, WK0, WK1, WK2, WK3, WK4, WK5, true_implies, vop, evAll, evOpt, evParts, vbuiltin, vun, vextract, Option.map_some, Option.map_none, Nat.reduceLT, Nat.reduceEqDiff, ↓reduceIte, reduceCtorEq, Nat.reduceAdd, Int.reduceLT, Int.reduceNeg, decide_true, decide_false, Bool.not_true, Bool.not_false, ne_eq, not_true_eq_false, not_false_eq_true, List.append_nil, Bool.false_eq_true, List.getElem?_cons_zero, List.getElem?_cons_succ, and_self, and_true, true_and, List.getD_cons_zero, List.getD_cons_succ, ofVal_nil]
    refine KD.ret hd1 ?_
    cases hbad : a1.2.2 with
    | true =>
      rw [hbad] at hu1
      have h0 : a1.1 = 0 := by rw [ha1]; exact numS_bad (by rw [← ha1]; exact hbad)
      have hS' : S = none := by
        rw [hS]
        split
        · rfl
        · rw [h0, rItems]
          simp [hbad]
      subst hS'
      simp only [k25_r0_e, k25_r1_e, k25_r2_e, k25_r3_e, k25_r4_e, k25_r5_e, k25_r6_e, k25_r8_e, k25_r9_e, k25_r10_e, k25_r11_e, k25_r12_e, k25_r13_e, k25_r14_e, k25_r7_e, k25_l0_e, k25_r15_e, k25_e, WK0, WK1, WK2, WK3, WK4, WK5, true_implies, vop, evAll, evOpt, evParts, vbuiltin, vun, vextract, Option.map_some, Option.map_none, Nat.reduceLT, Nat.reduceEqDiff, ↓reduceIte, reduceCtorEq, Nat.reduceAdd, Int.reduceLT, Int.reduceNeg, decide_true, decide_false, Bool.not_true, Bool.not_false, ne_eq, not_true_eq_false, not_false_eq_true, List.append_nil, Bool.false_eq_true, List.getElem?_cons_zero, List.getElem?_cons_succ, and_self, and_true, true_and, List.getD_cons_zero, List.getD_cons_succ, ofVal_nil, FB1, vload_obj hu1 G4]
      exact ⟨_, rfl, hk1, rfl⟩
    | false =>
    rw [hbad] at hu1
    by_cases hm : most < (a1.1 : Int)
    · rw [if_pos hm] at hS
      subst hS
      simp only [k25_r0_e, k25_r1_e, k25_r2_e, k25_r3_e, k25_r4_e, k25_r5_e, k25_r6_e, k25_r8_e, k25_r9_e, k25_r10_e, k25_r11_e, k25_r12_e, k25_r13_e, k25_r14_e, k25_r7_e, k25_l0_e, k25_r15_e, k25_e, WK0, WK1, WK2, WK3, WK4, WK5, true_implies, vop, evAll, evOpt, evParts, vbuiltin, vun, vextract, Option.map_some, Option.map_none, Nat.reduceLT, Nat.reduceEqDiff, ↓reduceIte, reduceCtorEq, Nat.reduceAdd, Int.reduceLT, Int.reduceNeg, decide_true, decide_false, Bool.not_true, Bool.not_false, ne_eq, not_true_eq_false, not_false_eq_true, List.append_nil, Bool.false_eq_true, List.getElem?_cons_zero, List.getElem?_cons_succ, and_self, and_true, true_and, List.getD_cons_zero, List.getD_cons_succ, ofVal_nil, FB1, vload_obj hu1 G4, hm]
      exact ⟨_, rfl, hk1, rfl⟩
    · simp only [k25_r0_e, k25_r1_e, k25_r2_e, k25_r3_e, k25_r4_e, k25_r5_e, k25_r6_e, k25_r8_e, k25_r9_e, k25_r10_e, k25_r11_e, k25_r12_e, k25_r13_e, k25_r14_e, k25_r7_e, k25_l0_e, k25_r15_e, k25_e, WK0, WK1, WK2, WK3, WK4, WK5, true_implies, vop, evAll, evOpt, evParts, vbuiltin, vun, vextract, Option.map_some, Option.map_none, Nat.reduceLT, Nat.reduceEqDiff, ↓reduceIte, reduceCtorEq, Nat.reduceAdd, Int.reduceLT, Int.reduceNeg, decide_true, decide_false, Bool.not_true, Bool.not_false, ne_eq, not_true_eq_false, not_false_eq_true, List.append_nil, Bool.false_eq_true, List.getElem?_cons_zero, List.getElem?_cons_succ, and_self, and_true, true_and, List.getD_cons_zero, List.getD_cons_succ, ofVal_nil, FB1, vload_obj hu1 G4, hm]
      have ha1l : a1.1 < 2 ^ 63 := by
        rw [ha1]
        exact (numS_ok (by rw [← ha1]; exact hbad)).2.2
      refine Ev.loopF (I25 r σ.toks.length σ a1.2 a1.1) (fun i => a1.1 - i) 0 ⟨by simp [upd_some], by simp, [], a1.2, rfl, hbad, hr1, by simpa [upd_some] using OwnR.nil, hk1⟩ ?_
      rintro i e σ2 ⟨h8, hi, l, s', hri, hsb, hr2, h7, hk2⟩ hf
      have h6 : e 6 = .int .i64 a1.1 := (hf 6 (by decide)).trans (by simp [upd_some])
      have h0 : e 0 = .optr r 0 := (hf 0 (by decide)).trans (by simp [upd_some])
      clear hf
      obtain ⟨j1, j2, j3, j4, j5, j6⟩ := rItems_some hri
      by_cases hlt : i < a1.1
      · have hlt' : (i : Int) < a1.1 := by omega
        have hwi : IntKind.i64.wrap ((i : Int) + 1) = ((i + 1 : Nat) : Int) := by rw [show ((i : Int) + 1) = ((i + 1 : Nat) : Int) from by omega]; exact wrap_nat (by omega)
        obtain ⟨c1, σ3, hc1, hd3, hk3, hr3, b3⟩ := refnumber_step hr2 (M := 1000000000000) (by omega) (by omega)
        have hrl := hr3.lt
        obtain ⟨q, hqe⟩ : ∃ q, q = σ3.objs.length := ⟨_, rfl⟩
        have hne : r ≠ q := by omega
        obtain ⟨σ4, hσ4⟩ : ∃ σ4 : St, σ4 = ⟨(σ3.objs ++ [Ob.cells (itmCells itm0)]).set q (Ob.cells (itmCells ⟨(c1.1 : Nat), ent0⟩)), σ3.toks⟩ := ⟨_, rfl⟩
        have q4 : IsI σ4 q ⟨(c1.1 : Nat), ent0⟩ := by rw [hσ4, hqe]; exact IsI.made
        have k34 : Keep σ3 σ4 := by rw [hσ4, hqe]; exact (Keep.refl σ3).made _ _
        obtain ⟨c2, σ5, hc2, hd5, hk5, hr5, b5⟩ := refnumber_step (hr3.keep' k34) b3 (by omega)
        obtain ⟨c3, w, σ6, hc3, hd6, hk6, hr6, hw6, b6, b6'⟩ := refbytes_step hr5 b5 (by omega) (c2.1 : Nat)
        have hIt := rItem_eq s' hc1 hc2 hc3
        obtain ⟨σ7, hd7, hk7⟩ := refreadentry_does hw6 (by omega) σ6
        have hr7 := hr6.keep' hk7
        have q7 : IsI σ7 q ⟨(c1.1 : Nat), ent0⟩ := hk7.1 _ _ (hk6.1 _ _ (by omega) (hk5.1 _ _ (by omega) q4))
        have hk27 : KeepX r σ σ7 := ((((hk2.trans hk3).trans (k34.x r)).trans hk5).trans hk6).trans (hk7.x r)
        simp only [k25_r0_e, k25_r1_e, k25_r2_e, k25_r3_e, k25_r4_e, k25_r5_e, k25_r6_e, k25_r8_e, k25_r9_e, k25_r10_e, k25_r11_e, k25_r12_e, k25_r13_e, k25_r14_e, k25_r7_e, k25_l0_e, k25_r15_e, k25_e, WK0, WK1, WK2, WK3, WK4, WK5, true_implies, vop, evAll, evOpt, evParts, vbuiltin, vun, vextract, Option.map_some, Option.map_none, Nat.reduceLT, Nat.reduceEqDiff, ↓reduceIte, reduceCtorEq, Nat.reduceAdd, Int.reduceLT, Int.reduceNeg, decide_true, decide_false, Bool.not_true, Bool.not_false, ne_eq, not_true_eq_false, not_false_eq_true, List.append_nil, Bool.false_eq_true, List.getElem?_cons_zero, List.getElem?_cons_succ, and_self, and_true, true_and, h0, h6, h8, hlt']
        refine KD.ret hd3 ?_
        simp only [k25_r0_e, k25_r1_e, k25_r2_e, k25_r3_e, k25_r4_e, k25_r5_e, k25_r6_e, k25_r8_e, k25_r9_e, k25_r10_e, k25_r11_e, k25_r12_e, k25_r13_e, k25_r14_e, k25_r7_e, k25_l0_e, k25_r15_e, k25_e, WK0, WK1, WK2, WK3, WK4, WK5, true_implies, vop, evAll, evOpt, evParts, vbuiltin, vun, vextract, Option.map_some, Option.map_none, Nat.reduceLT, Nat.reduceEqDiff, ↓reduceIte, reduceCtorEq, Nat.reduceAdd, Int.reduceLT, Int.reduceNeg, decide_true, decide_false, Bool.not_true, Bool.not_false, ne_eq, not_true_eq_false, not_false_eq_true, List.append_nil, Bool.false_eq_true, List.getElem?_cons_zero, List.getElem?_cons_succ, and_self, and_true, true_and, h0, h6, h8, Z66, vbox, vcells, BI1, IsI.new]
        rw [← hqe, ← hσ4]
        refine KD.ret hd5 ?_
        simp only [k25_r0_e, k25_r1_e, k25_r2_e, k25_r3_e, k25_r4_e, k25_r5_e, k25_r6_e, k25_r8_e, k25_r9_e, k25_r10_e, k25_r11_e, k25_r12_e, k25_r13_e, k25_r14_e, k25_r7_e, k25_l0_e, k25_r15_e, k25_e, WK0, WK1, WK2, WK3, WK4, WK5, true_implies, vop, evAll, evOpt, evParts, vbuiltin, vun, vextract, Option.map_some, Option.map_none, Nat.reduceLT, Nat.reduceEqDiff, ↓reduceIte, reduceCtorEq, Nat.reduceAdd, Int.reduceLT, Int.reduceNeg, decide_true, decide_false, Bool.not_true, Bool.not_false, ne_eq, not_true_eq_false, not_false_eq_true, List.append_nil, Bool.false_eq_true, List.getElem?_cons_zero, List.getElem?_cons_succ, and_self, and_true, true_and, h0, h6, h8]
        refine KD.ret hd6 ?_
        simp only [k25_r0_e, k25_r1_e, k25_r2_e, k25_r3_e, k25_r4_e, k25_r5_e, k25_r6_e, k25_r8_e, k25_r9_e, k25_r10_e, k25_r11_e, k25_r12_e, k25_r13_e, k25_r14_e, k25_r7_e, k25_l0_e, k25_r15_e, k25_e, WK0, WK1, WK2, WK3, WK4, WK5, true_implies, vop, evAll, evOpt, evParts, vbuiltin, vun, vextract, Option.map_some, Option.map_none, Nat.reduceLT, Nat.reduceEqDiff, ↓reduceIte, reduceCtorEq, Nat.reduceAdd, Int.reduceLT, Int.reduceNeg, decide_true, decide_false, Bool.not_true, Bool.not_false, ne_eq, not_true_eq_false, not_false_eq_true, List.append_nil, Bool.false_eq_true, List.getElem?_cons_zero, List.getElem?_cons_succ, and_self, and_true, true_and, h0, h6, h8]
        refine KD.ret hd7 ?_
        obtain ⟨en, hen⟩ : ∃ en, en = (readEntS c3.1).getD ent0 := ⟨_, rfl⟩
        obtain ⟨p, hpe⟩ : ∃ p, p = σ7.objs.length := ⟨_, rfl⟩
        obtain ⟨σ8, hσ8⟩ : ∃ σ8 : St, σ8 = ⟨(σ7.objs ++ [Ob.cells (entCells ent0)]).set p (Ob.cells (entCells en)), σ7.toks⟩ := ⟨_, rfl⟩
        have q8 : IsE σ8 p en := by rw [hσ8, hpe]; exact obj_set (push_new _ _)
        have k78 : Keep σ7 σ8 := by rw [hσ8, hpe]; exact ((Keep.refl σ7).push _).setNew (Nat.le_refl _) _
        have hr8 := hr7.keep' k78
        obtain ⟨u8, hu8, hub8⟩ := id hr8
        have x8 : IsI σ8 q ⟨(c1.1 : Nat), ent0⟩ := k78.1 _ _ q7
        have hk28 : KeepX r σ σ8 := hk27.trans (k78.x r)
        have ent8 : vstore Try.prog ⟨σ7.objs ++ [Ob.cells (entCells ent0)], σ7.toks⟩ 64 (.optr p 0) (.agg (entCells en)) = some σ8 := by rw [hpe, IsE.new, ← hpe, ← hσ8]
        cases hre : readEntS c3.1 with
        | none =>
          rw [hre] at hIt
          have hn : rItems a1.1 a1.2 = none := rItems_mono (i := i + 1) (by rw [rItems, hri]; simp only; rw [hIt]; rfl) (by omega)
          rw [if_neg hm, hn] at hS
          subst hS
          rw [hre] at hen
          simp only [Option.getD_none] at hen
          subst hen
          cases hcb : c3.2.2 with
          | true =>
            rw [hcb] at hu8
            simp only [k25_r0_e, k25_r1_e, k25_r2_e, k25_r3_e, k25_r4_e, k25_r5_e, k25_r6_e, k25_r8_e, k25_r9_e, k25_r10_e, k25_r11_e, k25_r12_e, k25_r13_e, k25_r14_e, k25_r7_e, k25_l0_e, k25_r15_e, k25_e, WK0, WK1, WK2, WK3, WK4, WK5, true_implies, vop, evAll, evOpt, evParts, vbuiltin, vun, vextract, Option.map_some, Option.map_none, Nat.reduceLT, Nat.reduceEqDiff, ↓reduceIte, reduceCtorEq, Nat.reduceAdd, Int.reduceLT, Int.reduceNeg, decide_true, decide_false, Bool.not_true, Bool.not_false, ne_eq, not_true_eq_false, not_false_eq_true, List.append_nil, Bool.false_eq_true, List.getElem?_cons_zero, List.getElem?_cons_succ, and_self, and_true, true_and, h0, h6, h8, Z64, vbox, vcells, Option.getD_none, Option.isSome_none, ofVal_nil, Int.reduceEq, ← hpe, ent8, FB1, vload_obj hu8 G4]
            exact ⟨_, rfl, hk28, rfl⟩
          | false =>
            rw [hcb] at hu8
            simp only [k25_r0_e, k25_r1_e, k25_r2_e, k25_r3_e, k25_r4_e, k25_r5_e, k25_r6_e, k25_r8_e, k25_r9_e, k25_r10_e, k25_r11_e, k25_r12_e, k25_r13_e, k25_r14_e, k25_r7_e, k25_l0_e, k25_r15_e, k25_e, WK0, WK1, WK2, WK3, WK4, WK5, true_implies, vop, evAll, evOpt, evParts, vbuiltin, vun, vextract, Option.map_some, Option.map_none, Nat.reduceLT, Nat.reduceEqDiff, ↓reduceIte, reduceCtorEq, Nat.reduceAdd, Int.reduceLT, Int.reduceNeg, decide_true, decide_false, Bool.not_true, Bool.not_false, ne_eq, not_true_eq_false, not_false_eq_true, List.append_nil, Bool.false_eq_true, List.getElem?_cons_zero, List.getElem?_cons_succ, and_self, and_true, true_and, h0, h6, h8, Z64, vbox, vcells, Option.getD_none, Option.isSome_none, ofVal_nil, Int.reduceEq, ← hpe, ent8, FB1, vload_obj hu8 G4]
            exact ⟨_, rfl, hk28, rfl⟩
        | some e1 =>
          rw [hre] at hIt hen
          simp only [Option.getD_some] at hen
          subst hen
          have hnx : rItems (i + 1) a1.2 = some (l ++ [⟨(c1.1 : Nat), en⟩], c3.2) := by rw [rItems, hri]; simp only; rw [hIt]; rfl
          have hcb : c3.2.2 = false := (rItem_some (show rItem s' = (some ⟨(c1.1 : Nat), en⟩, c3.2) from hIt)).2.1
          rw [hcb] at hu8
          obtain ⟨σ9, hσ9⟩ : ∃ σ9 : St, σ9 = ⟨σ8.objs.set q (Ob.cells (itmCells ⟨(c1.1 : Nat), en⟩)), σ8.toks⟩ := ⟨_, rfl⟩
          have x9 : IsI σ9 q ⟨(c1.1 : Nat), en⟩ := by rw [hσ9]; exact obj_set x8
          have k89 : KeepX q σ8 σ9 := by rw [hσ9]; exact KeepX.set q _ _
          have hr9 := hr8.keep k89 hne
          have hk29 : KeepX r σ σ9 := by rw [hσ9]; exact hk28.setNew (by rw [hqe]; exact ((hk2.trans hk3).len hr3.lt)) _
          have h7' : OwnR 66 6 σ.toks.length σ9 (e 7) (l.flatMap itmCells) l.length := h7.keep fun k hk => k89.2.2 k (k78.2.2 k (hk7.2.2 k (hk6.2.2 k (hk5.2.2 k (k34.2.2 k (hk3.2.2 k hk))))))
          have hxl : l.length + 1 ≤ 1000000000000 := by
            have := (rItems_some hnx).2.2.2.2.1
            omega
          obtain ⟨va, σa, haa, hoa, hka, hob⟩ := h7'.appendX RT (q := r) (σ0 := σ) rfl hk29 (t2 := 22) (y := .slice .exact 6 (itmCells ⟨(c1.1 : Nat), en⟩) 1) (ys := itmCells ⟨(c1.1 : Nat), en⟩) (l := 1) (by simp [vnews, RT.u]) rfl rfl (by omega) (by omega)
          have hra : Rdr σa r c3.2.1 c3.2.2 := by
            obtain ⟨u, hu1, hu2⟩ := hr9
            exact ⟨u, by rw [hob]; exact hu1, hu2⟩
          have put := x8.setEnt en
          rw [← hσ9] at put
          simp only [k25_r0_e, k25_r1_e, k25_r2_e, k25_r3_e, k25_r4_e, k25_r5_e, k25_r6_e, k25_r8_e, k25_r9_e, k25_r10_e, k25_r11_e, k25_r12_e, k25_r13_e, k25_r14_e, k25_r7_e, k25_l0_e, k25_r15_e, k25_e, WK0, WK1, WK2, WK3, WK4, WK5, true_implies, vop, evAll, evOpt, evParts, vbuiltin, vun, vextract, Option.map_some, Option.map_none, Nat.reduceLT, Nat.reduceEqDiff, ↓reduceIte, reduceCtorEq, Nat.reduceAdd, Int.reduceLT, Int.reduceNeg, decide_true, decide_false, Bool.not_true, Bool.not_false, ne_eq, not_true_eq_false, not_false_eq_true, List.append_nil, Bool.false_eq_true, List.getElem?_cons_zero, List.getElem?_cons_succ, and_self, and_true, true_and, h0, h6, h8, Z64, vbox, vcells, Option.getD_some, Option.isSome_some, ofVal_nil, Int.reduceEq, ← hpe, ent8, FB1, FI1, vload_obj hu8 G4, q8.load, put, x9.load, buildItem, haa, hwi]
          refine ⟨i + 1, ⟨by simp [upd_some], hlt, _, _, hnx, hcb, hra, ?_, hka⟩, by omega⟩
          simp only [upd_some, ↓reduceIte, Nat.reduceEqDiff, List.flatMap_append, List.flatMap_cons, List.flatMap_nil, List.append_nil, List.length_append, List.length_cons, List.length_nil]
          exact hoa
      · have hlt' : ¬ (i : Int) < a1.1 := by omega
        have hie : i = a1.1 := by omega
        subst hie
        simp only [k25_r0_e, k25_r1_e, k25_r2_e, k25_r3_e, k25_r4_e, k25_r5_e, k25_r6_e, k25_r8_e, k25_r9_e, k25_r10_e, k25_r11_e, k25_r12_e, k25_r13_e, k25_r14_e, k25_r7_e, k25_l0_e, k25_r15_e, k25_e, WK0, WK1, WK2, WK3, WK4, WK5, true_implies, vop, evAll, evOpt, evParts, vbuiltin, vun, vextract, Option.map_some, Option.map_none, Nat.reduceLT, Nat.reduceEqDiff, ↓reduceIte, reduceCtorEq, Nat.reduceAdd, Int.reduceLT, Int.reduceNeg, decide_true, decide_false, Bool.not_true, Bool.not_false, ne_eq, not_true_eq_false, not_false_eq_true, List.append_nil, Bool.false_eq_true, List.getElem?_cons_zero, List.getElem?_cons_succ, and_self, and_true, true_and, h0, h6, h8, hlt']
        rw [if_neg hm, hri] at hS
        have : S = some (l, s'.1) := by rw [hS]; simp [hsb]
        subst this
        rw [hsb] at hr2
        exact ⟨_, rfl, hk2, _, rfl, h7.row, hr2⟩
  obtain ⟨q, σ', h1, v, rfl, h2, h3⟩ := key
  exact ⟨v, σ', h1, h2, h3⟩
end Go.Proofs.Ytcogghmmlndmgaa.Q
