import Derived.Test.YtcogghmmlndmgaaEb
import Derived.Test.YtcogghmmlndmgaaTg
set_option linter.unusedVariables false
set_option linter.unusedSimpArgs false
namespace Go.Proofs.Ytcogghmmlndmgaa.Q
open Go Go.RowKit Go.Proofs

theorem Keep.viaX {σ σ1 σ2 : St} {r : Nat} (h : Keep σ σ1) (h2 : KeepX r σ1 σ2) (hr : σ.objs.length ≤ r) : Keep σ σ2 :=
  ⟨fun q o ho => h2.1 q o (by have := (List.getElem?_eq_some_iff.1 ho).1; omega) (h.1 q o ho), Nat.le_trans h.2.1 h2.2.1, fun k hk => h2.2.2 k (h.2.2 k hk)⟩

theorem Rdr.lt {σ : St} {r : Nat} {bs : List UInt8} {bad : Bool} (h : Rdr σ r bs bad) : r < σ.objs.length := by
  obtain ⟨v, h1, _⟩ := h
  exact (List.getElem?_eq_some_iff.1 h1).1

theorem numS_len (bs : List UInt8) (bad : Bool) : (numS bs bad).2.1.length ≤ bs.length := by
  unfold numS; split <;> simp
theorem bytS_len (bs : List UInt8) (bad : Bool) (n : Int) : (bytS bs bad n).2.1.length ≤ bs.length := by
  unfold bytS; split <;> simp
theorem bytS_len1 (bs : List UInt8) (bad : Bool) (n : Int) : (bytS bs bad n).1.length ≤ bs.length := by
  unfold bytS
  split
  · rw [List.length_take]; omega
  · simp

/-- A number is read. -/
theorem number_step {σ : St} {r : Nat} {bs : List UInt8} {bad : Bool} (h : Rdr σ r bs bad) {M : Nat} (hl : bs.length ≤ M) (hM : M ≤ 140737488300000) :
    ∃ a σ', a = numS bs bad ∧ Does Try.prog noPrim 44 [.optr r 0] σ (.ret (.int .i64 (a.1 : Nat))) σ' ∧ KeepX r σ σ' ∧ Rdr σ' r a.2.1 a.2.2 ∧ a.2.1.length ≤ M := by
  obtain ⟨σ', h1, h2, h3⟩ := number_does h (by unfold maxLen; omega)
  exact ⟨_, σ', rfl, h1, h2, h3, Nat.le_trans (numS_len _ _) hl⟩
theorem refnumber_step {σ : St} {r : Nat} {bs : List UInt8} {bad : Bool} (h : Rdr σ r bs bad) {M : Nat} (hl : bs.length ≤ M) (hM : M ≤ 140737488300000) :
    ∃ a σ', a = numS bs bad ∧ Does Try.prog noPrim 51 [.optr r 0] σ (.ret (.int .i64 (a.1 : Nat))) σ' ∧ KeepX r σ σ' ∧ Rdr σ' r a.2.1 a.2.2 ∧ a.2.1.length ≤ M := by
  obtain ⟨σ', h1, h2, h3⟩ := refnumber_does h (by unfold maxLen; omega)
  exact ⟨_, σ', rfl, h1, h2, h3, Nat.le_trans (numS_len _ _) hl⟩
/-- Bytes are read. -/
theorem bytes_step {σ : St} {r : Nat} {bs : List UInt8} {bad : Bool} (h : Rdr σ r bs bad) {M : Nat} (hl : bs.length ≤ M) (hM : M ≤ 140737488300000) (n : Int) :
    ∃ a w σ', a = bytS bs bad n ∧ Does Try.prog noPrim 45 [.optr r 0, .int .i64 n] σ (.ret w) σ' ∧ KeepX r σ σ' ∧ Rdr σ' r a.2.1 a.2.2 ∧ BtsV w a.1 ∧ a.1.length ≤ M ∧ a.2.1.length ≤ M := by
  obtain ⟨w, σ', h1, h2, h3, h4⟩ := bytes_does h (by omega) n
  exact ⟨_, w, σ', rfl, h1, h2, h3, h4, Nat.le_trans (bytS_len1 _ _ _) hl, Nat.le_trans (bytS_len _ _ _) hl⟩
theorem refbytes_step {σ : St} {r : Nat} {bs : List UInt8} {bad : Bool} (h : Rdr σ r bs bad) {M : Nat} (hl : bs.length ≤ M) (hM : M ≤ 140737488300000) (n : Int) :
    ∃ a w σ', a = bytS bs bad n ∧ Does Try.prog noPrim 52 [.optr r 0, .int .i64 n] σ (.ret w) σ' ∧ KeepX r σ σ' ∧ Rdr σ' r a.2.1 a.2.2 ∧ BtsV w a.1 ∧ a.1.length ≤ M ∧ a.2.1.length ≤ M := by
  obtain ⟨w, σ', h1, h2, h3, h4⟩ := refbytes_does h (by omega) n
  exact ⟨_, w, σ', rfl, h1, h2, h3, h4, Nat.le_trans (bytS_len1 _ _ _) hl, Nat.le_trans (bytS_len _ _ _) hl⟩

/-- What is read as an entry, and what is left. -/
def rEnt (b : List UInt8) : Ent × List UInt8 × Bool :=
  let a1 := numS b false
  let a2 := numS a1.2.1 a1.2.2
  let a3 := numS a2.2.1 a2.2.2
  let a4 := numS a3.2.1 a3.2.2
  let a5 := numS a4.2.1 a4.2.2
  let a6 := bytS a5.2.1 a5.2.2 a5.1
  (⟨a1.1, a2.1, a3.1, a4.1, a6.1⟩, a6.2)
def readEntS (b : List UInt8) : Option Ent := if (!(rEnt b).2.2 && decide (((rEnt b).2.1.length : Int) = 0)) = true ∧ entOk (rEnt b).1 = true then some (rEnt b).1 else none
def ent0 : Ent := ⟨0, 0, 0, 0, []⟩

theorem Z64 : zeroT Try.prog 64 = some (.agg (entCells ent0)) := by kernel_rfl
theorem BE4 (a b c d : Int) : vbuild Try.prog 64 [(0, .int .i64 a), (1, .int .i64 b), (2, .int .i64 c), (3, .int .i64 d)] = some (.agg (entCells ⟨a, b, c, d, []⟩)) := by kernel_rfl
theorem BE1 (a : Int) : vbuild Try.prog 64 [(0, .int .i64 a)] = some (.agg (entCells ⟨a, 0, 0, 0, []⟩)) := by kernel_rfl
theorem BE0 : vbuild Try.prog 64 [] = some (.agg (entCells ent0)) := by kernel_rfl
theorem U27 : isU8 Try.prog 5 = true := by kernel_rfl

/-- An object that is an entry. -/
def IsE (σ : St) (q : Nat) (e : Ent) : Prop := σ.objs[q]? = some (.cells (entCells e))
theorem IsE.new {σ : St} (o : Ent) {e : Ent} : vstore Try.prog ⟨σ.objs ++ [.cells (entCells o)], σ.toks⟩ 64 (.optr σ.objs.length 0) (.agg (entCells e)) = some ⟨(σ.objs ++ [Ob.cells (entCells o)]).set σ.objs.length (Ob.cells (entCells e)), σ.toks⟩ :=
  vstore_agg (push_new _ _) S64 rfl rfl
theorem IsE.put {σ : St} {q : Nat} {o e : Ent} (h : IsE σ q o) : vstore Try.prog σ 64 (.optr q 0) (.agg (entCells e)) = some ⟨σ.objs.set q (.cells (entCells e)), σ.toks⟩ :=
  vstore_agg h S64 rfl rfl
theorem IsE.put4 {σ : St} {q : Nat} {e : Ent} (h : IsE σ q e) (s : List UInt8) : vstore Try.prog σ 9 (.optr q 4) (.str s) = some ⟨σ.objs.set q (.cells (entCells { e with data := s })), σ.toks⟩ := by
  rw [vstore_obj h S9 rfl (by simp [entCells])]; rfl
theorem IsE.put1 {σ : St} {q : Nat} {e : Ent} (h : IsE σ q e) (n : Int) : vstore Try.prog σ 3 (.optr q 1) (.int .i64 n) = some ⟨σ.objs.set q (.cells (entCells { e with ver := n })), σ.toks⟩ := by
  rw [vstore_obj h S3 rfl (by simp [entCells])]; rfl
theorem IsE.put2 {σ : St} {q : Nat} {e : Ent} (h : IsE σ q e) (n : Int) : vstore Try.prog σ 3 (.optr q 2) (.int .i64 n) = some ⟨σ.objs.set q (.cells (entCells { e with cli := n })), σ.toks⟩ := by
  rw [vstore_obj h S3 rfl (by simp [entCells])]; rfl
theorem IsE.put3 {σ : St} {q : Nat} {e : Ent} (h : IsE σ q e) (n : Int) : vstore Try.prog σ 3 (.optr q 3) (.int .i64 n) = some ⟨σ.objs.set q (.cells (entCells { e with seq := n })), σ.toks⟩ := by
  rw [vstore_obj h S3 rfl (by simp [entCells])]; rfl
theorem IsE.load {σ : St} {q : Nat} {e : Ent} (h : IsE σ q e) : vload Try.prog σ.objs 64 (.optr q 0) = some (.agg (entCells e)) := vload_agg h G64 S64

def entR (b : List UInt8) : VRes := .ret (.tuple [.agg (entCells ((readEntS b).getD ent0)), .int .i64 (if (readEntS b).isSome then 0 else 11)])

theorem readentry_does {v : V} {bs : List UInt8} (hv : BtsV v bs) (hlen : bs.length ≤ 140737488000000) (σ : St) :
    ∃ σ', Does Try.prog noPrim 55 [v] σ (entR bs) σ' ∧ Keep σ σ' := by
  have key : ∃ q σ', Does Try.prog noPrim 55 [v] σ q σ' ∧ q = entR bs ∧ Keep σ σ' := by
    apply k55_is.does (by simp)
    have hn0 : IsE ⟨σ.objs ++ [.cells (entCells ent0)], σ.toks⟩ σ.objs.length ent0 := push_new _ _
    have hk0 := (Keep.refl σ).push (.cells (entCells ent0))
    obtain ⟨rr, σ1, hd1, hk1, hrr, hr1⟩ := new_does hv (by omega) ⟨σ.objs ++ [.cells (entCells ent0)], σ.toks⟩
    have hrr' : rr = σ.objs.length + 1 := by rw [hrr]; simp
    have hle : σ.objs.length ≤ rr := by omega
    have hne : σ.objs.length ≠ rr := by omega
    obtain ⟨a1, σ2, ha1, hd2, hk2, hr2, b2⟩ := number_step hr1 (Nat.le_refl _) (by omega)
    obtain ⟨a2, σ3, ha2, hd3, hk3, hr3, b3⟩ := number_step hr2 b2 (by omega)
    obtain ⟨a3, σ4, ha3, hd4, hk4, hr4, b4⟩ := number_step hr3 b3 (by omega)
    obtain ⟨a4, σ5, ha4, hd5, hk5, hr5, b5⟩ := number_step hr4 b4 (by omega)
    have k5 : Keep σ σ5 := ((((hk0.trans hk1).viaX hk2 hle).viaX hk3 hle).viaX hk4 hle).viaX hk5 hle
    have n5 : IsE σ5 σ.objs.length ent0 := hk5.1 _ _ hne (hk4.1 _ _ hne (hk3.1 _ _ hne (hk2.1 _ _ hne (hk1.1 _ _ hn0))))
    have bld := BE4 (a1.1 : Nat) (a2.1 : Nat) (a3.1 : Nat) (a4.1 : Nat)
    obtain ⟨e1, he1⟩ : ∃ e1 : Ent, e1 = ⟨(a1.1 : Nat), (a2.1 : Nat), (a3.1 : Nat), (a4.1 : Nat), []⟩ := ⟨_, rfl⟩
    rw [← he1] at bld
    simp only [k55_r0_e, k55_r1_e, k55_r2_e, k55_r3_e, k55_r4_e, k55_r5_e, k55_r6_e, k55_e, WK0, WK1, WK2, WK3, WK4, WK5, true_implies, vop, evAll, evOpt, evParts, vbuiltin, vun, vextract, Option.map_some, Option.map_none, Nat.reduceLT, Nat.reduceEqDiff, ↓reduceIte, reduceCtorEq, Nat.reduceAdd, Int.reduceLT, Int.reduceNeg, decide_true, decide_false, Bool.not_true, Bool.not_false, ne_eq, not_true_eq_false, not_false_eq_true, List.append_nil, Bool.false_eq_true, List.getElem?_cons_zero, List.getElem?_cons_succ, and_self, and_true, true_and, List.getD_cons_zero, Z64, vbox, vcells]
    refine KD.ret hd1 ?_
    simp only [k55_r0_e, k55_r1_e, k55_r2_e, k55_r3_e, k55_r4_e, k55_r5_e, k55_r6_e, k55_e, WK0, WK1, WK2, WK3, WK4, WK5, true_implies, vop, evAll, evOpt, evParts, vbuiltin, vun, vextract, Option.map_some, Option.map_none, Nat.reduceLT, Nat.reduceEqDiff, ↓reduceIte, reduceCtorEq, Nat.reduceAdd, Int.reduceLT, Int.reduceNeg, decide_true, decide_false, Bool.not_true, Bool.not_false, ne_eq, not_true_eq_false, not_false_eq_true, List.append_nil, Bool.false_eq_true, List.getElem?_cons_zero, List.getElem?_cons_succ, and_self, and_true, true_and, List.getD_cons_zero, Z64, vbox, vcells]
    refine KD.ret hd2 ?_
    simp only [k55_r0_e, k55_r1_e, k55_r2_e, k55_r3_e, k55_r4_e, k55_r5_e, k55_r6_e, k55_e, WK0, WK1, WK2, WK3, WK4, WK5, true_implies, vop, evAll, evOpt, evParts, vbuiltin, vun, vextract, Option.map_some, Option.map_none, Nat.reduceLT, Nat.reduceEqDiff, ↓reduceIte, reduceCtorEq, Nat.reduceAdd, Int.reduceLT, Int.reduceNeg, decide_true, decide_false, Bool.not_true, Bool.not_false, ne_eq, not_true_eq_false, not_false_eq_true, List.append_nil, Bool.false_eq_true, List.getElem?_cons_zero, List.getElem?_cons_succ, and_self, and_true, true_and, List.getD_cons_zero, Z64, vbox, vcells]
    refine KD.ret hd3 ?_
    simp only [k55_r0_e, k55_r1_e, k55_r2_e, k55_r3_e, k55_r4_e, k55_r5_e, k55_r6_e, k55_e, WK0, WK1, WK2, WK3, WK4, WK5, true_implies, vop, evAll, evOpt, evParts, vbuiltin, vun, vextract, Option.map_some, Option.map_none, Nat.reduceLT, Nat.reduceEqDiff, ↓reduceIte, reduceCtorEq, Nat.reduceAdd, Int.reduceLT, Int.reduceNeg, decide_true, decide_false, Bool.not_true, Bool.not_false, ne_eq, not_true_eq_false, not_false_eq_true, List.append_nil, Bool.false_eq_true, List.getElem?_cons_zero, List.getElem?_cons_succ, and_self, and_true, true_and, List.getD_cons_zero, Z64, vbox, vcells]
    refine KD.ret hd4 ?_
    simp only [k55_r0_e, k55_r1_e, k55_r2_e, k55_r3_e, k55_r4_e, k55_r5_e, k55_r6_e, k55_e, WK0, WK1, WK2, WK3, WK4, WK5, true_implies, vop, evAll, evOpt, evParts, vbuiltin, vun, vextract, Option.map_some, Option.map_none, Nat.reduceLT, Nat.reduceEqDiff, ↓reduceIte, reduceCtorEq, Nat.reduceAdd, Int.reduceLT, Int.reduceNeg, decide_true, decide_false, Bool.not_true, Bool.not_false, ne_eq, not_true_eq_false, not_false_eq_true, List.append_nil, Bool.false_eq_true, List.getElem?_cons_zero, List.getElem?_cons_succ, and_self, and_true, true_and, List.getD_cons_zero, Z64, vbox, vcells]
    refine KD.ret hd5 ?_
    simp only [k55_r0_e, k55_r1_e, k55_r2_e, k55_r3_e, k55_r4_e, k55_r5_e, k55_r6_e, k55_e, WK0, WK1, WK2, WK3, WK4, WK5, true_implies, vop, evAll, evOpt, evParts, vbuiltin, vun, vextract, Option.map_some, Option.map_none, Nat.reduceLT, Nat.reduceEqDiff, ↓reduceIte, reduceCtorEq, Nat.reduceAdd, Int.reduceLT, Int.reduceNeg, decide_true, decide_false, Bool.not_true, Bool.not_false, ne_eq, not_true_eq_false, not_false_eq_true, List.append_nil, Bool.false_eq_true, List.getElem?_cons_zero, List.getElem?_cons_succ, and_self, and_true, true_and, Z64, vbox, vcells, bld, IsE.new]
    have hq := hr5.lt
    obtain ⟨q, hqe⟩ : ∃ q, q = σ5.objs.length := ⟨_, rfl⟩
    rw [← hqe] at hq ⊢
    obtain ⟨σ6, hσ6⟩ : ∃ σ6 : St, σ6 = ⟨(σ5.objs ++ [Ob.cells (entCells ent0)]).set q (Ob.cells (entCells e1)), σ5.toks⟩ := ⟨_, rfl⟩
    have hq6 : IsE σ6 q e1 := by rw [hσ6, hqe]; exact obj_set (push_new _ _)
    have k56 : KeepX q σ5 σ6 := by rw [hσ6]; exact ((KeepX.refl q σ5).push _).trans (KeepX.set q _ _)
    have k56' : Keep σ5 σ6 := keepX_of k56 (by omega)
    have hql : σ.objs.length < q := by rw [hqe]; exact (List.getElem?_eq_some_iff.1 n5).1
    have n6 : IsE σ6 σ.objs.length ent0 := k56.1 _ _ (by omega) n5
    have hr6 : Rdr σ6 rr _ _ := hr5.keep k56 (by omega)
    rw [← hσ6]
    obtain ⟨a5, σ7, ha5, hd7, hk7, hr7, b7⟩ := number_step hr6 b5 (by omega)
    obtain ⟨a6, w, σ8, ha6, hd8, hk8, hr8, hw8, b8, b9⟩ := bytes_step hr7 b7 (by omega) (a5.1 : Nat)
    have k8 : Keep σ σ8 := ((k5.trans k56').viaX hk7 hle).viaX hk8 hle
    have hq8 : IsE σ8 q e1 := hk8.1 _ _ (by omega) (hk7.1 _ _ (by omega) hq6)
    have n8 : IsE σ8 σ.objs.length ent0 := hk8.1 _ _ hne (hk7.1 _ _ hne n6)
    refine KD.ret hd7 ?_
    simp only [k55_r0_e, k55_r1_e, k55_r2_e, k55_r3_e, k55_r4_e, k55_r5_e, k55_r6_e, k55_e, WK0, WK1, WK2, WK3, WK4, WK5, true_implies, vop, evAll, evOpt, evParts, vbuiltin, vun, vextract, Option.map_some, Option.map_none, Nat.reduceLT, Nat.reduceEqDiff, ↓reduceIte, reduceCtorEq, Nat.reduceAdd, Int.reduceLT, Int.reduceNeg, decide_true, decide_false, Bool.not_true, Bool.not_false, ne_eq, not_true_eq_false, not_false_eq_true, List.append_nil, Bool.false_eq_true, List.getElem?_cons_zero, List.getElem?_cons_succ, and_self, and_true, true_and]
    refine KD.ret hd8 ?_
    simp only [k55_r0_e, k55_r1_e, k55_r2_e, k55_r3_e, k55_r4_e, k55_r5_e, k55_r6_e, k55_e, WK0, WK1, WK2, WK3, WK4, WK5, true_implies, vop, evAll, evOpt, evParts, vbuiltin, vun, vextract, Option.map_some, Option.map_none, Nat.reduceLT, Nat.reduceEqDiff, ↓reduceIte, reduceCtorEq, Nat.reduceAdd, Int.reduceLT, Int.reduceNeg, decide_true, decide_false, Bool.not_true, Bool.not_false, ne_eq, not_true_eq_false, not_false_eq_true, List.append_nil, Bool.false_eq_true, List.getElem?_cons_zero, List.getElem?_cons_succ, and_self, and_true, true_and, hw8.str T22 U27 T9, FE4, hq8.put4]
    obtain ⟨e, he⟩ : ∃ e : Ent, e = { e1 with data := a6.1 } := ⟨_, rfl⟩
    have hrE' : rEnt bs = (e, a6.2) := by
      rw [he, he1, ha6, ha5, ha4, ha3, ha2, ha1]; rfl
    rw [← he]
    obtain ⟨σ9, hσ9⟩ : ∃ σ9 : St, σ9 = ⟨σ8.objs.set q (Ob.cells (entCells e)), σ8.toks⟩ := ⟨_, rfl⟩
    have hq9 : IsE σ9 q e := by rw [hσ9]; exact obj_set hq8
    have k89 : KeepX q σ8 σ9 := by rw [hσ9]; exact KeepX.set q _ _
    have k9 : Keep σ σ9 := k8.viaX k89 (by omega)
    have n9 : IsE σ9 σ.objs.length ent0 := k89.1 _ _ (by omega) n8
    have hr9 : Rdr σ9 rr _ _ := hr8.keep k89 (by omega)
    rw [← hσ9]
    have hde := end_does hr9
    obtain ⟨σa, hda, hka⟩ := valid_does e σ9
    have na : IsE σa σ.objs.length ent0 := hka.1 _ _ n9
    have hqa : IsE σa q e := hka.1 _ _ hq9
    have fin : ∀ (σ : St) (r : Nat) (o e : Ent), IsE σ r o → vload Try.prog (σ.objs.set r (Ob.cells (entCells e))) 64 (.optr r 0) = some (.agg (entCells e)) := fun σ r o e h => IsE.load (σ := ⟨σ.objs.set r (.cells (entCells e)), σ.toks⟩) (obj_set h)
    refine KD.ret hde ?_
    have hR : readEntS bs = if (!a6.2.2 && decide ((a6.2.1.length : Int) = 0)) = true ∧ entOk e = true then some e else none := by unfold readEntS; rw [hrE']
    cases hg : (!a6.2.2 && decide ((a6.2.1.length : Int) = 0)) with
    | false =>
      rw [hg] at hR
      simp at hR
      simp only [k55_r0_e, k55_r1_e, k55_r2_e, k55_r3_e, k55_r4_e, k55_r5_e, k55_r6_e, k55_e, WK0, WK1, WK2, WK3, WK4, WK5, true_implies, vop, evAll, evOpt, evParts, vbuiltin, vun, vextract, Option.map_some, Option.map_none, Nat.reduceLT, Nat.reduceEqDiff, ↓reduceIte, reduceCtorEq, Nat.reduceAdd, Int.reduceLT, Int.reduceNeg, decide_true, decide_false, Bool.not_true, Bool.not_false, ne_eq, not_true_eq_false, not_false_eq_true, List.append_nil, Bool.false_eq_true, List.getElem?_cons_zero, List.getElem?_cons_succ, and_self, and_true, true_and, hg, BE0, n9.put, fin _ _ _ _ n9]
      refine ⟨?_, k9.setNew (Nat.le_refl _) _⟩
      simp [entR, hR]
    | true =>
      simp only [k55_r0_e, k55_r1_e, k55_r2_e, k55_r3_e, k55_r4_e, k55_r5_e, k55_r6_e, k55_e, WK0, WK1, WK2, WK3, WK4, WK5, true_implies, vop, evAll, evOpt, evParts, vbuiltin, vun, vextract, Option.map_some, Option.map_none, Nat.reduceLT, Nat.reduceEqDiff, ↓reduceIte, reduceCtorEq, Nat.reduceAdd, Int.reduceLT, Int.reduceNeg, decide_true, decide_false, Bool.not_true, Bool.not_false, ne_eq, not_true_eq_false, not_false_eq_true, List.append_nil, Bool.false_eq_true, List.getElem?_cons_zero, List.getElem?_cons_succ, and_self, and_true, true_and, hg, hq9.load]
      refine KD.ret hda ?_
      cases hv : entOk e with
      | false =>
        rw [hg, hv] at hR
        simp at hR
        simp only [k55_r0_e, k55_r1_e, k55_r2_e, k55_r3_e, k55_r4_e, k55_r5_e, k55_r6_e, k55_e, WK0, WK1, WK2, WK3, WK4, WK5, true_implies, vop, evAll, evOpt, evParts, vbuiltin, vun, vextract, Option.map_some, Option.map_none, Nat.reduceLT, Nat.reduceEqDiff, ↓reduceIte, reduceCtorEq, Nat.reduceAdd, Int.reduceLT, Int.reduceNeg, decide_true, decide_false, Bool.not_true, Bool.not_false, ne_eq, not_true_eq_false, not_false_eq_true, List.append_nil, Bool.false_eq_true, List.getElem?_cons_zero, List.getElem?_cons_succ, and_self, and_true, true_and, hg, BE0, na.put, fin _ _ _ _ na]
        refine ⟨?_, (k9.trans hka).setNew (Nat.le_refl _) _⟩
        simp [entR, hR]
      | true =>
        rw [hg, hv] at hR
        simp at hR
        simp only [k55_r0_e, k55_r1_e, k55_r2_e, k55_r3_e, k55_r4_e, k55_r5_e, k55_r6_e, k55_e, WK0, WK1, WK2, WK3, WK4, WK5, true_implies, vop, evAll, evOpt, evParts, vbuiltin, vun, vextract, Option.map_some, Option.map_none, Nat.reduceLT, Nat.reduceEqDiff, ↓reduceIte, reduceCtorEq, Nat.reduceAdd, Int.reduceLT, Int.reduceNeg, decide_true, decide_false, Bool.not_true, Bool.not_false, ne_eq, not_true_eq_false, not_false_eq_true, List.append_nil, Bool.false_eq_true, List.getElem?_cons_zero, List.getElem?_cons_succ, and_self, and_true, true_and, hg, hqa.load, na.put, fin _ _ _ _ na]
        refine ⟨?_, (k9.trans hka).setNew (Nat.le_refl _) _⟩
        simp [entR, hR]
  obtain ⟨q, σ', h1, rfl, h3⟩ := key
  exact ⟨σ', h1, h3⟩
end Go.Proofs.Ytcogghmmlndmgaa.Q
