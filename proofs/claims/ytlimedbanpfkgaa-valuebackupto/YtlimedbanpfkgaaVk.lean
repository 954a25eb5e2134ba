import Derived.Test.YtlimedbanpfkgaaVj
set_option linter.unusedVariables false
set_option linter.unusedSimpArgs false
namespace Go.Proofs.Ytlimedbanpfkgaa.Q
open Go Go.RowKit Go.Proofs

/-! ### Whether a value is one of a type -/
def fitInt : Val → Bool
  | .mk k n t l => decide (k = 1) && (decide (t = []) && decide ((l.length : Int) = 0))
def fitBool : Val → Bool
  | .mk k n t l => decide (k = 2) && ((decide (n = 0) || decide (n = 1)) && (decide (t = []) && decide ((l.length : Int) = 0)))
def fitText : Val → Bool
  | .mk k n t l => decide (n = 0) && (decide (k = 3) && (decide ((t.length : Int) ≤ 256) && decide ((l.length : Int) = 0)))
def fitList (f : Val → Bool) : Val → Bool
  | .mk k n t l => decide (n = 0) && (decide (t = []) && (decide (k = 4) && (decide ((l.length : Int) ≤ 64) && l.all f)))
def okAt (fk fv : Val → Bool) (l : List Val) (j : Nat) : Bool := match l[j]? with
  | none => true
  | some y => if j % 2 = 0 then fk y && (decide (j = 0) || match l[j - 2]? with
      | some x => decide (cmpV x y < 0)
      | none => true) else fv y
def okAll (fk fv : Val → Bool) (l : List Val) : Bool := (List.range l.length).all (okAt fk fv l)
def fitMap (fk fv : Val → Bool) : Val → Bool
  | .mk k n t l => decide (n = 0) && (decide (t = []) && (decide (k = 5) && (decide ((l.length : Int) % 2 = 0) && (decide ((l.length : Int) ≤ 128) && okAll fk fv l))))
def fitsT : Ty → Val → Bool
  | .int => fitInt
  | .bool => fitBool
  | .text => fitText
  | .list e => fitList (fitsT e)
  | .mapI e => fitMap fitInt (fitsT e)
  | .mapT e => fitMap fitText (fitsT e)
theorem okAll_true {fk fv : Val → Bool} {l : List Val} (h : ∀ j, j < l.length → okAt fk fv l j = true) : okAll fk fv l = true := by
  rw [okAll, List.all_eq_true]
  intro j hj
  exact h j (List.mem_range.1 hj)
theorem okAll_false {fk fv : Val → Bool} {l : List Val} {j : Nat} (hj : j < l.length) (h : okAt fk fv l j = false) : okAll fk fv l = false := by
  rw [← Bool.not_eq_true, okAll, List.all_eq_true]
  intro h2
  have := h2 j (List.mem_range.2 hj)
  rw [h] at this
  cases this
theorem okAt_even0 {fk fv : Val → Bool} {l : List Val} (h : 0 < l.length) : okAt fk fv l 0 = fk l[0] := by
  rw [okAt, List.getElem?_eq_getElem h]; simp
theorem okAt_even {fk fv : Val → Bool} {l : List Val} {j : Nat} (h : j < l.length) (he : j % 2 = 0) (h0 : 2 ≤ j) : okAt fk fv l j = (fk l[j] && decide (cmpV l[j - 2] l[j] < 0)) := by
  have : ¬ j = 0 := by omega
  rw [okAt, List.getElem?_eq_getElem h]
  simp only [he, if_true]
  rw [List.getElem?_eq_getElem (show j - 2 < l.length by omega)]
  simp [this]
theorem okAt_odd {fk fv : Val → Bool} {l : List Val} {j : Nat} (h : j < l.length) (he : j % 2 = 1) : okAt fk fv l j = fv l[j] := by
  rw [okAt, List.getElem?_eq_getElem h]
  simp only [he]
  rfl

/-- The function tells it of a type. -/
def FitOk (F : FuncId) (s : List UInt8) (f : Val → Bool) : Prop := ∀ (v : Val) (c : List V) (σ : St), weight v ≤ 4294967296 → ValC v c → ∃ σ', Does Try.prog prims F [.agg c, .str s] σ (.ret (.bool (f v))) σ' ∧ Keep σ σ'

section
variable {k n : Int} {t : List UInt8} {l : List Val} {w : V}
set_option maxRecDepth 100000

theorem fits_int : FitOk 54 intB fitInt := by
  intro v c σ hwt ha
  have key : ∃ q σ', Does Try.prog prims 54 [.agg c, .str intB] σ q σ' ∧ q = .ret (.bool (fitInt v)) ∧ Keep σ σ' := by
    obtain ⟨k, n, t, l, w, rfl, rfl, hw, ik, im⟩ := ha.inv
    apply k54_is.does (by simp)
    obtain ⟨σ2, hσ2⟩ : ∃ σ2 : St, σ2 = ⟨σ.objs ++ [Ob.cells [.int .i64 k, .int .i64 n, .str t, w]], σ.toks⟩ := ⟨_, rfl⟩
    have hk2 : Keep σ σ2 := by rw [hσ2]; exact (Keep.refl σ).push _
    have q2 : IsV σ2 σ.objs.length [.int .i64 k, .int .i64 n, .str t, w] := by rw [hσ2]; exact push_new _ _
    have b1 : decide (intB = [105, 110, 116]) = true := rfl
    unfold fitInt
    simp only [k54_a, WK, vop, evAll, evOpt, evParts, vbuiltin, vun, vextract, Nat.reduceLT, Nat.reduceEqDiff, ↓reduceIte, reduceCtorEq, Nat.reduceAdd, Int.reduceLT, Int.reduceNeg, List.getD_cons_zero, List.getD_cons_succ, vbox, vcells, ← hσ2, ofVal_str, strBin, b1, FV0, FV1, FV2, FV3, q2.kind, q2.num, q2.text, q2.list, hw.len]
    rcases (((Classical.em (k = 1)).elim (fun h0 => Or.inr ((Classical.em (t = [])).elim (fun h1 => Or.inr ((Classical.em ((l.length : Int) = 0)).elim (fun h2 => Or.inr (⟨h0, h1, h2⟩)) (fun h2 => Or.inl ⟨h0, h1, h2⟩))) (fun h1 => Or.inl ⟨h0, h1⟩))) (fun h0 => Or.inl h0)) : (¬ (k = 1) ∨ (k = 1) ∧ ¬ (t = []) ∨ (k = 1) ∧ (t = []) ∧ ¬ ((l.length : Int) = 0) ∨ (k = 1) ∧ (t = []) ∧ ((l.length : Int) = 0))) with h | h | h | h <;>
    · simp only [k54_a, WK, vop, evAll, evOpt, evParts, vbuiltin, vun, vextract, Nat.reduceLT, Nat.reduceEqDiff, ↓reduceIte, reduceCtorEq, Nat.reduceAdd, Int.reduceLT, Int.reduceNeg, List.getD_cons_zero, List.getD_cons_succ, ofVal_str, strBin, FV0, FV1, FV2, FV3, q2.kind, q2.num, q2.text, q2.list, hw.len, h, eq_self, Bool.true_and, Bool.false_and, Bool.and_true]
      exact hk2
  obtain ⟨q, σ', h1, rfl, h3⟩ := key
  exact ⟨σ', h1, h3⟩

theorem fits_bool : FitOk 54 boolB fitBool := by
  intro v c σ hwt ha
  have key : ∃ q σ', Does Try.prog prims 54 [.agg c, .str boolB] σ q σ' ∧ q = .ret (.bool (fitBool v)) ∧ Keep σ σ' := by
    obtain ⟨k, n, t, l, w, rfl, rfl, hw, ik, im⟩ := ha.inv
    apply k54_is.does (by simp)
    obtain ⟨σ2, hσ2⟩ : ∃ σ2 : St, σ2 = ⟨σ.objs ++ [Ob.cells [.int .i64 k, .int .i64 n, .str t, w]], σ.toks⟩ := ⟨_, rfl⟩
    have hk2 : Keep σ σ2 := by rw [hσ2]; exact (Keep.refl σ).push _
    have q2 : IsV σ2 σ.objs.length [.int .i64 k, .int .i64 n, .str t, w] := by rw [hσ2]; exact push_new _ _
    have b1 : decide (boolB = [105, 110, 116]) = false := rfl
    have b2 : decide (boolB = [98, 111, 111, 108]) = true := rfl
    have e10 : ((1 : Int) = 0) = False := eq_false (by decide)
    unfold fitBool
    simp only [k54_a, WK, vop, evAll, evOpt, evParts, vbuiltin, vun, vextract, Nat.reduceLT, Nat.reduceEqDiff, ↓reduceIte, reduceCtorEq, Nat.reduceAdd, Int.reduceLT, Int.reduceNeg, List.getD_cons_zero, List.getD_cons_succ, ofVal_str, strBin, FV0, FV1, FV2, FV3, q2.kind, q2.num, q2.text, q2.list, hw.len, vbox, vcells, ← hσ2, b1, b2]
    have hn : n = 0 ∨ (¬ n = 0 ∧ n = 1) ∨ (¬ n = 0 ∧ ¬ n = 1) := by omega
    rcases hn with hn | hn | hn <;>
    · rcases (((Classical.em (k = 2)).elim (fun h0 => Or.inr ((Classical.em (t = [])).elim (fun h1 => Or.inr ((Classical.em ((l.length : Int) = 0)).elim (fun h2 => Or.inr (⟨h0, h1, h2⟩)) (fun h2 => Or.inl ⟨h0, h1, h2⟩))) (fun h1 => Or.inl ⟨h0, h1⟩))) (fun h0 => Or.inl h0)) : (¬ (k = 2) ∨ (k = 2) ∧ ¬ (t = []) ∨ (k = 2) ∧ (t = []) ∧ ¬ ((l.length : Int) = 0) ∨ (k = 2) ∧ (t = []) ∧ ((l.length : Int) = 0))) with h | h | h | h <;>
      · simp only [k54_a, WK, vop, evAll, evOpt, evParts, vbuiltin, vun, vextract, Nat.reduceLT, Nat.reduceEqDiff, ↓reduceIte, reduceCtorEq, Nat.reduceAdd, Int.reduceLT, Int.reduceNeg, List.getD_cons_zero, List.getD_cons_succ, ofVal_str, strBin, FV0, FV1, FV2, FV3, q2.kind, q2.num, q2.text, q2.list, hw.len, h, hn, e10, eq_self, Bool.true_and, Bool.false_and, Bool.and_true, Bool.or_true, Bool.or_false, Bool.true_or, Bool.false_or]
        exact hk2
  obtain ⟨q, σ', h1, rfl, h3⟩ := key
  exact ⟨σ', h1, h3⟩

theorem fits_text : FitOk 54 textB fitText := by
  intro v c σ hwt ha
  have key : ∃ q σ', Does Try.prog prims 54 [.agg c, .str textB] σ q σ' ∧ q = .ret (.bool (fitText v)) ∧ Keep σ σ' := by
    obtain ⟨k, n, t, l, w, rfl, rfl, hw, ik, im⟩ := ha.inv
    apply k54_is.does (by simp)
    obtain ⟨σ2, hσ2⟩ : ∃ σ2 : St, σ2 = ⟨σ.objs ++ [Ob.cells [.int .i64 k, .int .i64 n, .str t, w]], σ.toks⟩ := ⟨_, rfl⟩
    have hk2 : Keep σ σ2 := by rw [hσ2]; exact (Keep.refl σ).push _
    have q2 : IsV σ2 σ.objs.length [.int .i64 k, .int .i64 n, .str t, w] := by rw [hσ2]; exact push_new _ _
    have b1 : decide (textB = [105, 110, 116]) = false := rfl
    have b2 : decide (textB = [98, 111, 111, 108]) = false := rfl
    have b3 : decide (textB = [116, 101, 120, 116]) = true := rfl
    unfold fitText
    simp only [k54_a, WK, vop, evAll, evOpt, evParts, vbuiltin, vun, vextract, Nat.reduceLT, Nat.reduceEqDiff, ↓reduceIte, reduceCtorEq, Nat.reduceAdd, Int.reduceLT, Int.reduceNeg, List.getD_cons_zero, List.getD_cons_succ, ofVal_str, strBin, FV0, FV1, FV2, FV3, q2.kind, q2.num, q2.text, q2.list, hw.len, vbox, vcells, ← hσ2, b1, b2, b3]
    rcases (((Classical.em (n = 0)).elim (fun h0 => Or.inr ((Classical.em (k = 3)).elim (fun h1 => Or.inr ((Classical.em ((t.length : Int) ≤ 256)).elim (fun h2 => Or.inr ((Classical.em ((l.length : Int) = 0)).elim (fun h3 => Or.inr (⟨h0, h1, h2, h3⟩)) (fun h3 => Or.inl ⟨h0, h1, h2, h3⟩))) (fun h2 => Or.inl ⟨h0, h1, h2⟩))) (fun h1 => Or.inl ⟨h0, h1⟩))) (fun h0 => Or.inl h0)) : (¬ (n = 0) ∨ (n = 0) ∧ ¬ (k = 3) ∨ (n = 0) ∧ (k = 3) ∧ ¬ ((t.length : Int) ≤ 256) ∨ (n = 0) ∧ (k = 3) ∧ ((t.length : Int) ≤ 256) ∧ ¬ ((l.length : Int) = 0) ∨ (n = 0) ∧ (k = 3) ∧ ((t.length : Int) ≤ 256) ∧ ((l.length : Int) = 0))) with h | h | h | h | h <;>
    · simp only [k54_a, WK, vop, evAll, evOpt, evParts, vbuiltin, vun, vextract, Nat.reduceLT, Nat.reduceEqDiff, ↓reduceIte, reduceCtorEq, Nat.reduceAdd, Int.reduceLT, Int.reduceNeg, List.getD_cons_zero, List.getD_cons_succ, ofVal_str, strBin, FV0, FV1, FV2, FV3, q2.kind, q2.num, q2.text, q2.list, hw.len, vlen_str T9, h, b1, b2, b3, eq_self, Bool.true_and, Bool.false_and, Bool.and_true]
      exact hk2
  obtain ⟨q, σ', h1, rfl, h3⟩ := key
  exact ⟨σ', h1, h3⟩

/-! ### All parts of a list -/
def IsS (σ : St) (p : Nat) (s : List UInt8) : Prop := σ.objs[p]? = some (.cells [.str s])
theorem IsS.load {σ : St} {p : Nat} {s : List UInt8} (h : IsS σ p s) : vload Try.prog σ.objs 9 (.optr p 0) = some (.str s) := by rw [vload_obj h G9]; rfl
theorem clos_does {s : List UInt8} {f : Val → Bool} (H : FitOk 54 s f) {v : Val} {c : List V} {σ : St} {p : Nat} (hp : IsS σ p s) (hwt : weight v ≤ 4294967296) (ha : ValC v c) : ∃ σ', Does Try.prog prims 77 [.agg c, .optr p 0] σ (.ret (.bool (!f v))) σ' ∧ Keep σ σ' := by
  obtain ⟨s1, hs1⟩ : ∃ s1 : St, s1 = ⟨σ.objs ++ [Ob.cells c], σ.toks⟩ := ⟨_, rfl⟩
  have k1 : Keep σ s1 := by rw [hs1]; exact (Keep.refl σ).push _
  have q1 : IsV s1 σ.objs.length c := by rw [hs1]; exact push_new _ _
  have p1 : IsS s1 p s := k1.1 _ _ hp
  obtain ⟨s2, d2, k2⟩ := H v c s1 hwt ha
  refine ⟨s2, ?_, k1.trans k2⟩
  apply k77_is.ret (by simp)
  simp only [k77_a, WK, vop, evAll, evOpt, evParts, vbuiltin, vun, vextract, Nat.reduceLT, Nat.reduceEqDiff, ↓reduceIte, reduceCtorEq, Nat.reduceAdd, Int.reduceLT, Int.reduceNeg, List.getD_cons_zero, List.getD_cons_succ, vbox, vcells, ← hs1, q1.load ha.len, p1.load]
  refine KD.ret d2 ?_
  simp only [k77_a, WK, vop, evAll, evOpt, evParts, vbuiltin, vun, vextract, Nat.reduceLT, Nat.reduceEqDiff, ↓reduceIte, reduceCtorEq, Nat.reduceAdd, Int.reduceLT, Int.reduceNeg]

def I92 (σ0 : St) (f : Val → Bool) (l : List Val) : Nat → (Nat → V) → St → Prop := fun i e σ => e 8 = .int .i64 i ∧ i ≤ l.length ∧ (l.take i).all f = true ∧ Keep σ0 σ
theorem all_take_succ {f : Val → Bool} {l : List Val} {i : Nat} (h : i < l.length) : (l.take (i + 1)).all f = ((l.take i).all f && f l[i]) := by
  rw [List.take_succ_eq_append_getElem h, List.all_append]
  simp
theorem all_false {f : Val → Bool} {l : List Val} {i : Nat} (h : i < l.length) (hf : f l[i] = false) : l.all f = false := by
  rw [← Bool.not_eq_true, List.all_eq_true]
  intro h2
  have := h2 _ (List.getElem_mem h)
  rw [hf] at this
  cases this
theorem indexfunc_does {s : List UInt8} {f : Val → Bool} (H : FitOk 54 s f) {σ : St} {p : Nat} (hp : IsS σ p s) (hwt : weights l ≤ 4294967296) (hw : ValsW l w) : ∃ (i : Int) (σ' : St), Does Try.prog prims 92 [w, .func 77 [.optr p 0]] σ (.ret (.int .i64 i)) σ' ∧ Keep σ σ' ∧ decide (0 ≤ i) = !(l.all f) := by
  have key : ∃ q σ', Does Try.prog prims 92 [w, .func 77 [.optr p 0]] σ q σ' ∧ ∃ i : Int, q = .ret (.int .i64 i) ∧ Keep σ σ' ∧ decide (0 ≤ i) = !(l.all f) := by
    apply k92_is.does (by simp)
    simp only [k92_a, WK, vop, evAll, evOpt, evParts, vbuiltin, vun, vextract, Nat.reduceLT, Nat.reduceEqDiff, ↓reduceIte, reduceCtorEq, Nat.reduceAdd, Int.reduceLT, Int.reduceNeg, List.getD_cons_zero, List.getD_cons_succ, hw.len]
    have hll := weights_len l
    refine Ev.loopF (I92 σ f l) (fun i => l.length - i) 0 ⟨by simp [upd_some], by simp, by simp, Keep.refl σ⟩ ?_
    rintro i e σ1 ⟨h8, hi, hall, hk⟩ hf
    have h7 : e 7 = .int .i64 l.length := (hf 7 (by decide)).trans (by simp [upd_some])
    have h0 : e 0 = w := (hf 0 (by decide)).trans (by simp [upd_some])
    have h1 : e 1 = .func 77 [.optr p 0] := (hf 1 (by decide)).trans (by simp [upd_some])
    clear hf
    by_cases hlt : i < l.length
    · have hlt' : (i : Int) < l.length := by omega
      have hwi : IntKind.i64.wrap ((i : Int) + 1) = ((i + 1 : Nat) : Int) := by rw [show ((i : Int) + 1) = ((i + 1 : Nat) : Int) from by omega]; exact wrap_nat (by omega)
      obtain ⟨cs, c, ha0, hld, hc⟩ := hw.get hlt
      have hmem := weights_mem (List.getElem_mem hlt)
      obtain ⟨s3, d3, k3⟩ := clos_does H (v := l[i]) (hk.1 _ _ hp) (by omega) hc
      simp only [k92_a, WK, vop, evAll, evOpt, evParts, vbuiltin, vun, vextract, Nat.reduceLT, Nat.reduceEqDiff, ↓reduceIte, reduceCtorEq, Nat.reduceAdd, Int.reduceLT, Int.reduceNeg, h0, h1, h7, h8, hlt', ha0, hld]
      refine KD.ret d3 ?_
      cases hfl : f l[i] with
      | true =>
        simp only [k92_a, WK, vop, evAll, evOpt, evParts, vbuiltin, vun, vextract, Nat.reduceLT, Nat.reduceEqDiff, ↓reduceIte, reduceCtorEq, Nat.reduceAdd, Int.reduceLT, Int.reduceNeg, h8, hwi]
        exact ⟨i + 1, ⟨by simp [upd_some], hlt, by rw [all_take_succ hlt, hall, hfl]; rfl, hk.trans k3⟩, by omega⟩
      | false =>
        simp only [k92_a, WK, vop, evAll, evOpt, evParts, vbuiltin, vun, vextract, Nat.reduceLT, Nat.reduceEqDiff, ↓reduceIte, reduceCtorEq, Nat.reduceAdd, Int.reduceLT, Int.reduceNeg, h8]
        exact ⟨_, rfl, hk.trans k3, by rw [all_false hlt hfl]; simp⟩
    · have hlt' : ¬ (i : Int) < l.length := by omega
      simp only [k92_a, WK, vop, evAll, evOpt, evParts, vbuiltin, vun, vextract, Nat.reduceLT, Nat.reduceEqDiff, ↓reduceIte, reduceCtorEq, Nat.reduceAdd, Int.reduceLT, Int.reduceNeg, h7, h8, hlt']
      rw [List.take_of_length_le (by omega)] at hall
      exact ⟨_, rfl, hk, by rw [hall]; rfl⟩
  obtain ⟨q, σ', h1, i, rfl, h3, h4⟩ := key
  exact ⟨i, σ', h1, h3, h4⟩
theorem containsfunc_does {s : List UInt8} {f : Val → Bool} (H : FitOk 54 s f) {σ : St} {p : Nat} (hp : IsS σ p s) (hwt : weights l ≤ 4294967296) (hw : ValsW l w) : ∃ (σ' : St), Does Try.prog prims 76 [w, .func 77 [.optr p 0]] σ (.ret (.bool (!(l.all f)))) σ' ∧ Keep σ σ' := by
  obtain ⟨i, s2, d2, k2, hi⟩ := indexfunc_does H hp hwt hw
  refine ⟨s2, ?_, k2⟩
  apply k76_is.ret (by simp)
  simp only [k76_a, WK, vop, evAll, evOpt, evParts, vbuiltin, vun, vextract, Nat.reduceLT, Nat.reduceEqDiff, ↓reduceIte, reduceCtorEq, Nat.reduceAdd, Int.reduceLT, Int.reduceNeg, List.getD_cons_zero, List.getD_cons_succ]
  refine KD.ret d2 ?_
  simp only [k76_a, WK, vop, evAll, evOpt, evParts, vbuiltin, vun, vextract, Nat.reduceLT, Nat.reduceEqDiff, ↓reduceIte, reduceCtorEq, Nat.reduceAdd, Int.reduceLT, Int.reduceNeg, hi]

theorem tyS_list {e : Ty} (h : tyD (.list e) ≤ 4) : listS (tyB (.list e)) = tyB e ∧ isListS (tyB (.list e)) = true := by
  have := tyS_iff.2 ⟨rfl, h⟩
  exact ⟨by rw [listS, this], by rw [isListS, this]⟩
theorem tyS_mapI {e : Ty} (h : tyD (.mapI e) ≤ 4) : listS (tyB (.mapI e)) = [] ∧ isListS (tyB (.mapI e)) = false ∧ keyS (tyB (.mapI e)) = intB ∧ valS (tyB (.mapI e)) = tyB e ∧ isMapS (tyB (.mapI e)) = true := by
  have := tyS_iff.2 ⟨rfl, h⟩
  exact ⟨by rw [listS, this], by rw [isListS, this], by rw [keyS, this], by rw [valS, this], by rw [isMapS, this]⟩
theorem tyS_mapT {e : Ty} (h : tyD (.mapT e) ≤ 4) : listS (tyB (.mapT e)) = [] ∧ isListS (tyB (.mapT e)) = false ∧ keyS (tyB (.mapT e)) = textB ∧ valS (tyB (.mapT e)) = tyB e ∧ isMapS (tyB (.mapT e)) = true := by
  have := tyS_iff.2 ⟨rfl, h⟩
  exact ⟨by rw [listS, this], by rw [isListS, this], by rw [keyS, this], by rw [valS, this], by rw [isMapS, this]⟩
theorem ZS9 : zeroT Try.prog 9 = some (.str []) := by kernel_rfl

theorem fits_list {e : Ty} (hT : tyD (.list e) ≤ 4) (H : FitOk 54 (tyB e) (fitsT e)) : FitOk 54 (tyB (.list e)) (fitList (fitsT e)) := by
  intro v c σ hwt ha
  have key : ∃ q σ', Does Try.prog prims 54 [.agg c, .str (tyB (.list e))] σ q σ' ∧ q = .ret (.bool (fitList (fitsT e) v)) ∧ Keep σ σ' := by
    obtain ⟨k, n, t, l, w, rfl, rfl, hw, ik, im⟩ := ha.inv
    apply k54_is.does (by simp)
    obtain ⟨σ2, hσ2⟩ : ∃ σ2 : St, σ2 = ⟨σ.objs ++ [Ob.cells [.int .i64 k, .int .i64 n, .str t, w]], σ.toks⟩ := ⟨_, rfl⟩
    have hk2 : Keep σ σ2 := by rw [hσ2]; exact (Keep.refl σ).push _
    have q2 : IsV σ2 σ.objs.length [.int .i64 k, .int .i64 n, .str t, w] := by rw [hσ2]; exact push_new _ _
    have b1 : decide (tyB (.list e) = [105, 110, 116]) = false := by simp [tyB]
    have b2 : decide (tyB (.list e) = [98, 111, 111, 108]) = false := by simp [tyB]
    have b3 : decide (tyB (.list e) = [116, 101, 120, 116]) = false := by simp [tyB]
    have hlen := tyB_len (.list e)
    rw [weight] at hwt
    unfold fitList
    simp only [k54_a, WK, vop, evAll, evOpt, evParts, vbuiltin, vun, vextract, Nat.reduceLT, Nat.reduceEqDiff, ↓reduceIte, reduceCtorEq, Nat.reduceAdd, Int.reduceLT, Int.reduceNeg, List.getD_cons_zero, List.getD_cons_succ, ofVal_str, strBin, FV0, FV1, FV2, FV3, q2.kind, q2.num, q2.text, q2.list, hw.len, vbox, vcells, ← hσ2, b1, b2, b3]
    obtain ⟨g1, g2⟩ := tyS_list hT
    have hd := vlist_does (tyB (.list e)) (by omega) σ2
    rw [g1, g2] at hd
    rcases (((Classical.em (n = 0)).elim (fun h0 => Or.inr ((Classical.em (t = [])).elim (fun h1 => Or.inr (⟨h0, h1⟩)) (fun h1 => Or.inl ⟨h0, h1⟩))) (fun h0 => Or.inl h0)) : (¬ (n = 0) ∨ (n = 0) ∧ ¬ (t = []) ∨ (n = 0) ∧ (t = []))) with h | h | h
    · simp only [k54_a, WK, vop, evAll, evOpt, evParts, vbuiltin, vun, vextract, Nat.reduceLT, Nat.reduceEqDiff, ↓reduceIte, reduceCtorEq, Nat.reduceAdd, Int.reduceLT, Int.reduceNeg, List.getD_cons_zero, List.getD_cons_succ, ofVal_str, strBin, FV0, FV1, FV2, FV3, q2.kind, q2.num, q2.text, q2.list, hw.len, h, b1, b2, b3, eq_self, Bool.true_and, Bool.false_and, Bool.and_true]
      exact hk2
    · simp only [k54_a, WK, vop, evAll, evOpt, evParts, vbuiltin, vun, vextract, Nat.reduceLT, Nat.reduceEqDiff, ↓reduceIte, reduceCtorEq, Nat.reduceAdd, Int.reduceLT, Int.reduceNeg, List.getD_cons_zero, List.getD_cons_succ, ofVal_str, strBin, FV0, FV1, FV2, FV3, q2.kind, q2.num, q2.text, q2.list, hw.len, h, b1, b2, b3, eq_self, Bool.true_and, Bool.false_and, Bool.and_true]
      exact hk2
    · simp only [k54_a, WK, vop, evAll, evOpt, evParts, vbuiltin, vun, vextract, Nat.reduceLT, Nat.reduceEqDiff, ↓reduceIte, reduceCtorEq, Nat.reduceAdd, Int.reduceLT, Int.reduceNeg, List.getD_cons_zero, List.getD_cons_succ, ofVal_str, strBin, FV0, FV1, FV2, FV3, q2.kind, q2.num, q2.text, q2.list, hw.len, h, b1, b2, b3, eq_self, Bool.true_and, Bool.false_and, Bool.and_true]
      refine KD.ret hd ?_
      obtain ⟨s3, hs3⟩ : ∃ s3 : St, s3 = ⟨(σ2.objs ++ [Ob.cells [.str []]]).set σ2.objs.length (Ob.cells [.str (tyB e)]), σ2.toks⟩ := ⟨_, rfl⟩
      have k3 : Keep σ2 s3 := by rw [hs3]; exact ((Keep.refl σ2).push _).setNew (Nat.le_refl _) _
      have p3 : IsS s3 σ2.objs.length (tyB e) := by rw [hs3]; exact obj_set (push_new _ _)
      have hst : vstore Try.prog ⟨σ2.objs ++ [Ob.cells [.str []]], σ2.toks⟩ 9 (.optr σ2.objs.length 0) (.str (tyB e)) = some s3 := by
        rw [hs3]
        have h0 : (⟨σ2.objs ++ [Ob.cells [V.str []]], σ2.toks⟩ : St).objs[σ2.objs.length]? = some (.cells [.str []]) := push_new _ _
        exact vstore_obj h0 S9 rfl (by simp)
      have q3 := k3.atV q2
      simp only [k54_a, WK, vop, evAll, evOpt, evParts, vbuiltin, vun, vextract, Nat.reduceLT, Nat.reduceEqDiff, ↓reduceIte, reduceCtorEq, Nat.reduceAdd, Int.reduceLT, Int.reduceNeg, List.getD_cons_zero, List.getD_cons_succ, ofVal_str, strBin, FV0, FV1, FV2, FV3, q2.kind, q2.num, q2.text, q2.list, hw.len, ZS9, vbox, vcells, hst]
      have W3 := hwt
      obtain ⟨s4, d4, k4⟩ := containsfunc_does H p3 (l := l) (w := w) (by omega) hw
      simp only [q3.kind, FV0, WK, vop, evAll, evOpt, evParts, vbuiltin, vun, vextract, Nat.reduceLT, Nat.reduceEqDiff, ↓reduceIte, reduceCtorEq, Nat.reduceAdd, Int.reduceLT, Int.reduceNeg]
      rcases (((Classical.em (k = 4)).elim (fun h0 => Or.inr ((Classical.em ((l.length : Int) ≤ 64)).elim (fun h1 => Or.inr (⟨h0, h1⟩)) (fun h1 => Or.inl ⟨h0, h1⟩))) (fun h0 => Or.inl h0)) : (¬ (k = 4) ∨ (k = 4) ∧ ¬ ((l.length : Int) ≤ 64) ∨ (k = 4) ∧ ((l.length : Int) ≤ 64))) with hh | hh | hh
      · simp only [k54_a, WK, vop, evAll, evOpt, evParts, vbuiltin, vun, vextract, Nat.reduceLT, Nat.reduceEqDiff, ↓reduceIte, reduceCtorEq, Nat.reduceAdd, Int.reduceLT, Int.reduceNeg, FV0, FV3, q3.list, hw.len, hh, eq_self, Bool.true_and, Bool.false_and, Bool.and_true]
        exact hk2.trans k3
      · simp only [k54_a, WK, vop, evAll, evOpt, evParts, vbuiltin, vun, vextract, Nat.reduceLT, Nat.reduceEqDiff, ↓reduceIte, reduceCtorEq, Nat.reduceAdd, Int.reduceLT, Int.reduceNeg, FV0, FV3, q3.list, hw.len, hh, eq_self, Bool.true_and, Bool.false_and, Bool.and_true]
        exact hk2.trans k3
      · simp only [k54_a, WK, vop, evAll, evOpt, evParts, vbuiltin, vun, vextract, Nat.reduceLT, Nat.reduceEqDiff, ↓reduceIte, reduceCtorEq, Nat.reduceAdd, Int.reduceLT, Int.reduceNeg, FV0, FV3, q3.list, hw.len, hh, eq_self, Bool.true_and, Bool.false_and, Bool.and_true]
        refine KD.ret d4 ?_
        simp only [k54_a, WK, vop, evAll, evOpt, evParts, vbuiltin, vun, vextract, Nat.reduceLT, Nat.reduceEqDiff, ↓reduceIte, reduceCtorEq, Nat.reduceAdd, Int.reduceLT, Int.reduceNeg, Bool.not_not]
        exact (hk2.trans k3).trans k4
  obtain ⟨q, σ', h1, rfl, h3⟩ := key
  exact ⟨σ', h1, h3⟩

theorem idx_wrap {i : Nat} (h : i + 1 ≤ 4294967296) : IntKind.i64.wrap ((i : Int) + 1) = ((i + 1 : Nat) : Int) := by rw [wrap_i64 (by omega) (by omega)]; omega
theorem idx_wrap2 {i : Nat} (h : 2 ≤ i) (h2 : i ≤ 4294967296) : IntKind.i64.wrap ((i : Int) - 2) = ((i - 2 : Nat) : Int) := by rw [wrap_i64 (by omega) (by omega)]; omega
theorem pair_step {ks vs : List UInt8} {fk fv : Val → Bool} (Hk : FitOk 54 ks fk) (Hv : FitOk 54 vs fv) {e : Nat → V} {σ : St} {q i : Nat} (hw : ValsW l w) (hwt : weights l ≤ 4294967295) (hi : i + 1 < l.length) (hev : i % 2 = 0)
    (h2 : e 2 = .optr q 0) (h7 : e 7 = .str ks) (h8 : e 8 = .str vs) (h10 : e 10 = .int .i64 i) (hq : IsV σ q [.int .i64 k, .int .i64 n, .str t, w]) :
    Ev Try.prog prims 175 (.region k54_r18) e σ (fun x e' σ' => x = .normal ∧ Keep σ σ' ∧ e' 174 = .bool (!(okAt fk fv l i && okAt fk fv l (i + 1)))) := by
  have hll := weights_len l
  have hi0 : i < l.length := by omega
  obtain ⟨csA, cA, haA, hldA, hcA⟩ := hw.get hi0
  obtain ⟨csB, cB, haB, hldB, hcB⟩ := hw.get hi
  have hmA := weights_mem (List.getElem_mem hi0)
  have hmB := weights_mem (List.getElem_mem hi)
  obtain ⟨s1, d1, k1⟩ := Hk l[i] cA σ (by omega) hcA
  obtain ⟨s2, d2, k2⟩ := Hv l[i + 1] cB s1 (by omega) hcB
  have q1 := k1.atV hq
  have q2 := k2.atV q1
  have w1 := idx_wrap (i := i) (by omega)
  rw [okAt_odd hi (by omega)]
  by_cases i0 : i = 0
  · subst i0
    rw [okAt_even0 hi0]
    have z0 : ((0 : Nat) : Int) = 0 := rfl
    simp only [k54_r18_e, WK, vop, evAll, evOpt, evParts, vbuiltin, vun, vextract, Nat.reduceLT, Nat.reduceEqDiff, ↓reduceIte, reduceCtorEq, Nat.reduceAdd, Int.reduceLT, Int.reduceNeg, h2, h7, h8, h10, FV3, hq.list, haA, hldA]
    refine KD.ret d1 ?_
    cases hA : fk l[0] with
    | false =>
      simp only [k54_r18_e, WK, vop, evAll, evOpt, evParts, vbuiltin, vun, vextract, Nat.reduceLT, Nat.reduceEqDiff, ↓reduceIte, reduceCtorEq, Nat.reduceAdd, Int.reduceLT, Int.reduceNeg, h2, h7, h8, h10, FV3, Bool.false_and]
      exact k1
    | true =>
      simp only [k54_r18_e, WK, vop, evAll, evOpt, evParts, vbuiltin, vun, vextract, Nat.reduceLT, Nat.reduceEqDiff, ↓reduceIte, reduceCtorEq, Nat.reduceAdd, Int.reduceLT, Int.reduceNeg, h2, h7, h8, h10, FV3, q1.list, w1, haB, hldB]
      refine KD.ret d2 ?_
      cases hB : fv l[0 + 1] with
      | false =>
        simp only [k54_r18_e, WK, vop, evAll, evOpt, evParts, vbuiltin, vun, vextract, Nat.reduceLT, Nat.reduceEqDiff, ↓reduceIte, reduceCtorEq, Nat.reduceAdd, Int.reduceLT, Int.reduceNeg, h2, h7, h8, h10, FV3, Bool.true_and]
        exact k1.trans k2
      | true =>
        simp only [k54_r18_e, WK, vop, evAll, evOpt, evParts, vbuiltin, vun, vextract, Nat.reduceLT, Nat.reduceEqDiff, ↓reduceIte, reduceCtorEq, Nat.reduceAdd, Int.reduceLT, Int.reduceNeg, h2, h7, h8, h10, FV3, Bool.true_and, z0, Int.lt_irrefl]
        exact k1.trans k2
  · have hi2 : 2 ≤ i := by omega
    rw [okAt_even hi0 hev hi2]
    have w2 := idx_wrap2 hi2 (by omega)
    have hi3 : i - 2 < l.length := by omega
    obtain ⟨csC, cC, haC, hldC, hcC⟩ := hw.get hi3
    have hmC := weights_mem (List.getElem_mem hi3)
    obtain ⟨s4, d4, k4⟩ := compare_does (a := l[i - 2]) (b := l[i]) s2 (by omega) hcC hcA
    have hpos : (0 : Int) < (i : Int) := by omega
    simp only [k54_r18_e, WK, vop, evAll, evOpt, evParts, vbuiltin, vun, vextract, Nat.reduceLT, Nat.reduceEqDiff, ↓reduceIte, reduceCtorEq, Nat.reduceAdd, Int.reduceLT, Int.reduceNeg, h2, h7, h8, h10, FV3, hq.list, haA, hldA]
    refine KD.ret d1 ?_
    cases hA : fk l[i] with
    | false =>
      simp only [k54_r18_e, WK, vop, evAll, evOpt, evParts, vbuiltin, vun, vextract, Nat.reduceLT, Nat.reduceEqDiff, ↓reduceIte, reduceCtorEq, Nat.reduceAdd, Int.reduceLT, Int.reduceNeg, h2, h7, h8, h10, FV3, Bool.false_and]
      exact k1
    | true =>
      simp only [k54_r18_e, WK, vop, evAll, evOpt, evParts, vbuiltin, vun, vextract, Nat.reduceLT, Nat.reduceEqDiff, ↓reduceIte, reduceCtorEq, Nat.reduceAdd, Int.reduceLT, Int.reduceNeg, h2, h7, h8, h10, FV3, q1.list, w1, haB, hldB]
      refine KD.ret d2 ?_
      cases hB : fv l[i + 1] with
      | false =>
        simp only [k54_r18_e, WK, vop, evAll, evOpt, evParts, vbuiltin, vun, vextract, Nat.reduceLT, Nat.reduceEqDiff, ↓reduceIte, reduceCtorEq, Nat.reduceAdd, Int.reduceLT, Int.reduceNeg, h2, h7, h8, h10, FV3, Bool.and_false]
        exact k1.trans k2
      | true =>
        simp only [k54_r18_e, WK, vop, evAll, evOpt, evParts, vbuiltin, vun, vextract, Nat.reduceLT, Nat.reduceEqDiff, ↓reduceIte, reduceCtorEq, Nat.reduceAdd, Int.reduceLT, Int.reduceNeg, h2, h7, h8, h10, FV3, hpos, q2.list, w2, haC, hldC, haA, hldA]
        refine KD.ret d4 ?_
        by_cases hc : cmpV l[i - 2] l[i] < 0
        · have hc' : ¬ (0 : Int) ≤ cmpV l[i - 2] l[i] := by omega
          simp only [k54_r18_e, WK, vop, evAll, evOpt, evParts, vbuiltin, vun, vextract, Nat.reduceLT, Nat.reduceEqDiff, ↓reduceIte, reduceCtorEq, Nat.reduceAdd, Int.reduceLT, Int.reduceNeg, h2, h7, h8, h10, FV3, hc, hc', Bool.true_and, Bool.and_true]
          exact (k1.trans k2).trans k4
        · have hc' : (0 : Int) ≤ cmpV l[i - 2] l[i] := by omega
          simp only [k54_r18_e, WK, vop, evAll, evOpt, evParts, vbuiltin, vun, vextract, Nat.reduceLT, Nat.reduceEqDiff, ↓reduceIte, reduceCtorEq, Nat.reduceAdd, Int.reduceLT, Int.reduceNeg, h2, h7, h8, h10, FV3, hc, hc', Bool.true_and, Bool.and_true]
          exact (k1.trans k2).trans k4

def I54 (σ0 : St) (fk fv : Val → Bool) (l : List Val) : Nat → (Nat → V) → St → Prop := fun i e σ => e 10 = .int .i64 i ∧ i ≤ l.length ∧ i % 2 = 0 ∧ (∀ j, j < i → okAt fk fv l j = true) ∧ Keep σ0 σ
theorem fits_map {T : Ty} {ks vs : List UInt8} {fk fv : Val → Bool} (hT : tyD T ≤ 4) (hls : listS (tyB T) = [] ∧ isListS (tyB T) = false ∧ keyS (tyB T) = ks ∧ valS (tyB T) = vs ∧ isMapS (tyB T) = true)
    (b1 : decide (tyB T = [105, 110, 116]) = false) (b2 : decide (tyB T = [98, 111, 111, 108]) = false) (b3 : decide (tyB T = [116, 101, 120, 116]) = false)
    (Hk : FitOk 54 ks fk) (Hv : FitOk 54 vs fv) : FitOk 54 (tyB T) (fitMap fk fv) := by
  intro v c σ hwt ha
  have key : ∃ q σ', Does Try.prog prims 54 [.agg c, .str (tyB T)] σ q σ' ∧ q = .ret (.bool (fitMap fk fv v)) ∧ Keep σ σ' := by
    obtain ⟨k, n, t, l, w, rfl, rfl, hw, ik, im⟩ := ha.inv
    apply k54_is.does (by simp)
    obtain ⟨σ2, hσ2⟩ : ∃ σ2 : St, σ2 = ⟨σ.objs ++ [Ob.cells [.int .i64 k, .int .i64 n, .str t, w]], σ.toks⟩ := ⟨_, rfl⟩
    have hk2 : Keep σ σ2 := by rw [hσ2]; exact (Keep.refl σ).push _
    have q2 : IsV σ2 σ.objs.length [.int .i64 k, .int .i64 n, .str t, w] := by rw [hσ2]; exact push_new _ _
    have hlen := tyB_len T
    rw [weight] at hwt
    have hll := weights_len l
    unfold fitMap
    simp only [k54_a, WK, vop, evAll, evOpt, evParts, vbuiltin, vun, vextract, Nat.reduceLT, Nat.reduceEqDiff, ↓reduceIte, reduceCtorEq, Nat.reduceAdd, Int.reduceLT, Int.reduceNeg, List.getD_cons_zero, List.getD_cons_succ, ofVal_str, strBin, FV0, FV1, FV2, FV3, q2.kind, q2.num, q2.text, q2.list, hw.len, vbox, vcells, ← hσ2, b1, b2, b3]
    obtain ⟨g1, g2, g3, g4, g5⟩ := hls
    have hd := vlist_does (tyB T) (by omega) σ2
    rw [g1, g2] at hd
    obtain ⟨s3, hs3⟩ : ∃ s3 : St, s3 = ⟨(σ2.objs ++ [Ob.cells [.str []]]).set σ2.objs.length (Ob.cells [.str []]), σ2.toks⟩ := ⟨_, rfl⟩
    have k3 : Keep σ2 s3 := by rw [hs3]; exact ((Keep.refl σ2).push _).setNew (Nat.le_refl _) _
    have hst : vstore Try.prog ⟨σ2.objs ++ [Ob.cells [.str []]], σ2.toks⟩ 9 (.optr σ2.objs.length 0) (.str []) = some s3 := by
      rw [hs3]
      have h0 : (⟨σ2.objs ++ [Ob.cells [V.str []]], σ2.toks⟩ : St).objs[σ2.objs.length]? = some (.cells [.str []]) := push_new _ _
      exact vstore_obj h0 S9 rfl (by simp)
    have hm := vmap_does (tyB T) (by omega) s3
    rw [g3, g4, g5] at hm
    have q3 := k3.atV q2
    have ht : Int.tmod (l.length : Int) 2 = (l.length : Int) % 2 := Int.tmod_eq_emod_of_nonneg (by omega)
    have e20 : ((2 : Int) = 0) = False := eq_false (by decide)
    rcases (((Classical.em (n = 0)).elim (fun h0 => Or.inr ((Classical.em (t = [])).elim (fun h1 => Or.inr (⟨h0, h1⟩)) (fun h1 => Or.inl ⟨h0, h1⟩))) (fun h0 => Or.inl h0)) : (¬ (n = 0) ∨ (n = 0) ∧ ¬ (t = []) ∨ (n = 0) ∧ (t = []))) with h | h | h
    · simp only [k54_a, WK, vop, evAll, evOpt, evParts, vbuiltin, vun, vextract, Nat.reduceLT, Nat.reduceEqDiff, ↓reduceIte, reduceCtorEq, Nat.reduceAdd, Int.reduceLT, Int.reduceNeg, List.getD_cons_zero, List.getD_cons_succ, ofVal_str, strBin, FV0, FV1, FV2, FV3, q2.kind, q2.num, q2.text, q2.list, hw.len, h, b1, b2, b3, eq_self, Bool.true_and, Bool.false_and, Bool.and_true]
      exact hk2
    · simp only [k54_a, WK, vop, evAll, evOpt, evParts, vbuiltin, vun, vextract, Nat.reduceLT, Nat.reduceEqDiff, ↓reduceIte, reduceCtorEq, Nat.reduceAdd, Int.reduceLT, Int.reduceNeg, List.getD_cons_zero, List.getD_cons_succ, ofVal_str, strBin, FV0, FV1, FV2, FV3, q2.kind, q2.num, q2.text, q2.list, hw.len, h, b1, b2, b3, eq_self, Bool.true_and, Bool.false_and, Bool.and_true]
      exact hk2
    · simp only [k54_a, WK, vop, evAll, evOpt, evParts, vbuiltin, vun, vextract, Nat.reduceLT, Nat.reduceEqDiff, ↓reduceIte, reduceCtorEq, Nat.reduceAdd, Int.reduceLT, Int.reduceNeg, List.getD_cons_zero, List.getD_cons_succ, ofVal_str, strBin, FV0, FV1, FV2, FV3, q2.kind, q2.num, q2.text, q2.list, hw.len, h, b1, b2, b3, eq_self, Bool.true_and, Bool.false_and, Bool.and_true]
      refine KD.ret hd ?_
      simp only [k54_a, WK, vop, evAll, evOpt, evParts, vbuiltin, vun, vextract, Nat.reduceLT, Nat.reduceEqDiff, ↓reduceIte, reduceCtorEq, Nat.reduceAdd, Int.reduceLT, Int.reduceNeg, List.getD_cons_zero, List.getD_cons_succ, ofVal_str, strBin, ZS9, vbox, vcells, hst]
      refine KD.ret hm ?_
      simp only [k54_a, WK, vop, evAll, evOpt, evParts, vbuiltin, vun, vextract, Nat.reduceLT, Nat.reduceEqDiff, ↓reduceIte, reduceCtorEq, Nat.reduceAdd, Int.reduceLT, Int.reduceNeg, List.getD_cons_zero, List.getD_cons_succ, FV0, FV3, q3.kind, q3.list]
      rcases (((Classical.em (k = 5)).elim (fun h0 => Or.inr ((Classical.em ((l.length : Int) % 2 = 0)).elim (fun h1 => Or.inr ((Classical.em ((l.length : Int) ≤ 128)).elim (fun h2 => Or.inr (⟨h0, h1, h2⟩)) (fun h2 => Or.inl ⟨h0, h1, h2⟩))) (fun h1 => Or.inl ⟨h0, h1⟩))) (fun h0 => Or.inl h0)) : (¬ (k = 5) ∨ (k = 5) ∧ ¬ ((l.length : Int) % 2 = 0) ∨ (k = 5) ∧ ((l.length : Int) % 2 = 0) ∧ ¬ ((l.length : Int) ≤ 128) ∨ (k = 5) ∧ ((l.length : Int) % 2 = 0) ∧ ((l.length : Int) ≤ 128))) with hh | hh | hh | hh
      · simp only [k54_a, WK, vop, evAll, evOpt, evParts, vbuiltin, vun, vextract, Nat.reduceLT, Nat.reduceEqDiff, ↓reduceIte, reduceCtorEq, Nat.reduceAdd, Int.reduceLT, Int.reduceNeg, List.getD_cons_zero, List.getD_cons_succ, FV0, FV3, q3.list, hw.len, hh, eq_self, Bool.true_and, Bool.false_and, Bool.and_true]
        exact hk2.trans k3
      · simp only [k54_a, WK, vop, evAll, evOpt, evParts, vbuiltin, vun, vextract, Nat.reduceLT, Nat.reduceEqDiff, ↓reduceIte, reduceCtorEq, Nat.reduceAdd, Int.reduceLT, Int.reduceNeg, List.getD_cons_zero, List.getD_cons_succ, FV0, FV3, q3.list, hw.len, ht, e20, hh, eq_self, Bool.true_and, Bool.false_and, Bool.and_true]
        exact hk2.trans k3
      · have hgt : (128 : Int) < l.length := by omega
        simp only [k54_a, WK, vop, evAll, evOpt, evParts, vbuiltin, vun, vextract, Nat.reduceLT, Nat.reduceEqDiff, ↓reduceIte, reduceCtorEq, Nat.reduceAdd, Int.reduceLT, Int.reduceNeg, List.getD_cons_zero, List.getD_cons_succ, FV0, FV3, q3.list, hw.len, ht, e20, hh, hgt, eq_self, Bool.true_and, Bool.false_and, Bool.and_true]
        exact hk2.trans k3
      · have hgt : ¬ (128 : Int) < l.length := by omega
        have hev : l.length % 2 = 0 := by omega
        simp only [k54_a, WK, vop, evAll, evOpt, evParts, vbuiltin, vun, vextract, Nat.reduceLT, Nat.reduceEqDiff, ↓reduceIte, reduceCtorEq, Nat.reduceAdd, Int.reduceLT, Int.reduceNeg, List.getD_cons_zero, List.getD_cons_succ, FV0, FV3, q3.list, hw.len, ht, e20, hh, hgt, eq_self, Bool.true_and, Bool.false_and, Bool.and_true]
        refine Ev.loopF (I54 s3 fk fv l) (fun i => l.length - i) 0 ⟨by simp [upd_some], by simp, by simp, fun j hj => by omega, Keep.refl _⟩ ?_
        rintro i e σ1 ⟨h10, hi, hie, hall, hk⟩ hf
        have h2 : e 2 = .optr σ.objs.length 0 := (hf 2 (by decide)).trans (by simp [upd_some])
        have h7 : e 7 = .str ks := (hf 7 (by decide)).trans (by simp [upd_some])
        have h8 : e 8 = .str vs := (hf 8 (by decide)).trans (by simp [upd_some])
        clear hf
        have q4 := hk.atV q3
        by_cases hlt : i < l.length
        · have hlt' : (i : Int) < l.length := by omega
          have hwi : IntKind.i64.wrap ((i : Int) + 2) = ((i + 2 : Nat) : Int) := by rw [show ((i : Int) + 2) = ((i + 2 : Nat) : Int) from by omega]; exact wrap_nat (by omega)
          have hi1 : i + 1 < l.length := by omega
          simp only [k54_l0_e, k54_r16_e, WK, vop, evAll, evOpt, evParts, vbuiltin, vun, vextract, Nat.reduceLT, Nat.reduceEqDiff, ↓reduceIte, reduceCtorEq, Nat.reduceAdd, Int.reduceLT, Int.reduceNeg, h2, h10, FV3, q4.list, hw.len, hlt']
          rw [← Ev_region]
          refine Ev.cut (pair_step (t := t) (k := k) (n := n) Hk Hv hw (by omega) hi1 hie (q := σ.objs.length) (by simp [upd_some, h2]) (by simp [upd_some, h7]) (by simp [upd_some, h8]) (by simp [upd_some, h10]) (by exact q4)) ?_
          rintro x e' s5 ⟨rfl, k5, h174⟩ hwr
          have h10' : e' 10 = .int .i64 i := (hwr 10 (by decide)).trans (by simp [upd_some, h10])
          clear hwr
          cases hA : okAt fk fv l i with
          | false =>
            rw [hA] at h174
            simp only [k54_r19_e, WK, vop, evAll, evOpt, evParts, vbuiltin, vun, vextract, Nat.reduceLT, Nat.reduceEqDiff, ↓reduceIte, reduceCtorEq, Nat.reduceAdd, Int.reduceLT, Int.reduceNeg, h174, Bool.false_and]
            exact ⟨by rw [okAll_false hlt hA], (hk2.trans k3).trans (hk.trans k5)⟩
          | true =>
            cases hB : okAt fk fv l (i + 1) with
            | false =>
              rw [hA, hB] at h174
              simp only [k54_r19_e, WK, vop, evAll, evOpt, evParts, vbuiltin, vun, vextract, Nat.reduceLT, Nat.reduceEqDiff, ↓reduceIte, reduceCtorEq, Nat.reduceAdd, Int.reduceLT, Int.reduceNeg, h174, Bool.and_false]
              exact ⟨by rw [okAll_false hi1 hB], (hk2.trans k3).trans (hk.trans k5)⟩
            | true =>
              rw [hA, hB] at h174
              simp only [k54_r17_e, WK, vop, evAll, evOpt, evParts, vbuiltin, vun, vextract, Nat.reduceLT, Nat.reduceEqDiff, ↓reduceIte, reduceCtorEq, Nat.reduceAdd, Int.reduceLT, Int.reduceNeg, h174, Bool.and_true, h10', hwi]
              refine ⟨i + 2, ⟨by simp [upd_some], by omega, by omega, ?_, hk.trans k5⟩, by omega⟩
              intro j hj
              rcases Nat.lt_or_ge j i with h9 | h9
              · exact hall j h9
              · have : j = i ∨ j = i + 1 := by omega
                rcases this with rfl | rfl
                · exact hA
                · exact hB
        · have hlt' : ¬ (i : Int) < l.length := by omega
          simp only [k54_l0_e, k54_r16_e, k54_r20_e, WK, vop, evAll, evOpt, evParts, vbuiltin, vun, vextract, Nat.reduceLT, Nat.reduceEqDiff, ↓reduceIte, reduceCtorEq, Nat.reduceAdd, Int.reduceLT, Int.reduceNeg, h2, h10, FV3, q4.list, hw.len, hlt']
          exact ⟨by rw [okAll_true fun j hj => hall j (by omega)], (hk2.trans k3).trans hk⟩
  obtain ⟨q, σ', h1, rfl, h3⟩ := key
  exact ⟨σ', h1, h3⟩

theorem fits_does : ∀ (T : Ty), tyD T ≤ 4 → FitOk 54 (tyB T) (fitsT T)
  | .int, _ => fits_int
  | .bool, _ => fits_bool
  | .text, _ => fits_text
  | .list e, h => fits_list h (fits_does e (by simp only [tyD] at h; omega))
  | .mapI e, h => fits_map h (tyS_mapI h) (by simp [tyB, mI]) (by simp [tyB, mI]) (by simp [tyB, mI]) fits_int (fits_does e (by simp only [tyD] at h; omega))
  | .mapT e, h => fits_map h (tyS_mapT h) (by simp [tyB, mT]) (by simp [tyB, mT]) (by simp [tyB, mT]) fits_text (fits_does e (by simp only [tyD] at h; omega))

/-- What Fits answers. -/
def fitsS (s : List UInt8) (v : Val) : Bool := match tyS s with
  | some T => decide ((weight v : Int) ≤ 16384) && fitsT T v
  | none => false
theorem vfits_does {s : List UInt8} {v : Val} {c : List V} (hl : s.length ≤ 4294967296) (σ : St) (hwt : weight v ≤ 4294967296) (ha : ValC v c) : ∃ σ', Does Try.prog prims 24 [.agg c, .str s] σ (.ret (.bool (fitsS s v))) σ' ∧ Keep σ σ' := by
  have key : ∃ q σ', Does Try.prog prims 24 [.agg c, .str s] σ q σ' ∧ q = .ret (.bool (fitsS s v)) ∧ Keep σ σ' := by
    apply k24_is.does (by simp)
    obtain ⟨s1, hs1⟩ : ∃ s1 : St, s1 = ⟨σ.objs ++ [Ob.cells c], σ.toks⟩ := ⟨_, rfl⟩
    have k1 : Keep σ s1 := by rw [hs1]; exact (Keep.refl σ).push _
    have q1 : IsV s1 σ.objs.length c := by rw [hs1]; exact push_new _ _
    simp only [k24_a, WK, vop, evAll, evOpt, evParts, vbuiltin, vun, vextract, Nat.reduceLT, Nat.reduceEqDiff, ↓reduceIte, reduceCtorEq, Nat.reduceAdd, Int.reduceLT, Int.reduceNeg, List.getD_cons_zero, List.getD_cons_succ, vbox, vcells, ← hs1]
    refine KD.ret (type_does s hl s1) ?_
    unfold fitsS
    cases h : tyS s with
    | none =>
      simp only [k24_a, WK, vop, evAll, evOpt, evParts, vbuiltin, vun, vextract, Nat.reduceLT, Nat.reduceEqDiff, ↓reduceIte, reduceCtorEq, Nat.reduceAdd, Int.reduceLT, Int.reduceNeg, Option.isSome_none]
      exact k1
    | some T =>
      obtain ⟨rfl, h4⟩ := tyS_iff.1 h
      obtain ⟨s2, d2, k2⟩ := weight_does s1 hwt ha
      have q2 := k2.atV q1
      obtain ⟨s3, d3, k3⟩ := fits_does T h4 v c s2 hwt ha
      simp only [k24_a, WK, vop, evAll, evOpt, evParts, vbuiltin, vun, vextract, Nat.reduceLT, Nat.reduceEqDiff, ↓reduceIte, reduceCtorEq, Nat.reduceAdd, Int.reduceLT, Int.reduceNeg, List.getD_cons_zero, List.getD_cons_succ, Option.isSome_some, q1.load ha.len]
      refine KD.ret d2 ?_
      by_cases hb : (weight v : Int) ≤ 16384
      · simp only [k24_a, WK, vop, evAll, evOpt, evParts, vbuiltin, vun, vextract, Nat.reduceLT, Nat.reduceEqDiff, ↓reduceIte, reduceCtorEq, Nat.reduceAdd, Int.reduceLT, Int.reduceNeg, List.getD_cons_zero, List.getD_cons_succ, hb, q2.load ha.len, Bool.true_and]
        refine KD.ret d3 ?_
        simp only [k24_a, WK, vop, evAll, evOpt, evParts, vbuiltin, vun, vextract, Nat.reduceLT, Nat.reduceEqDiff, ↓reduceIte, reduceCtorEq, Nat.reduceAdd, Int.reduceLT, Int.reduceNeg]
        exact (k1.trans k2).trans k3
      · simp only [k24_a, WK, vop, evAll, evOpt, evParts, vbuiltin, vun, vextract, Nat.reduceLT, Nat.reduceEqDiff, ↓reduceIte, reduceCtorEq, Nat.reduceAdd, Int.reduceLT, Int.reduceNeg, hb, Bool.false_and]
        exact k1.trans k2
  obtain ⟨q, σ', h1, rfl, h3⟩ := key
  exact ⟨σ', h1, h3⟩
end
end Go.Proofs.Ytlimedbanpfkgaa.Q
