import Derived.Test.YtcogghmmlndmgaaEg
import Derived.Test.YtcogghmmlndmgaaQs
set_option linter.unusedVariables false
set_option linter.unusedSimpArgs false
namespace Go.Proofs.Ytcogghmmlndmgaa.Q
open Go Go.RowKit Go.Proofs

theorem FO64 : fieldsOf Try.prog 64 = [(3, 0), (3, 1), (3, 2), (3, 3), (9, 4)] := by kernel_rfl
theorem FO66 : fieldsOf Try.prog 66 = [(3, 0), (64, 1)] := by kernel_rfl
theorem EG66 : Try.prog.eqGuardType Try.prog.depth 66 = false := by kernel_rfl

theorem ent_eq {d : Nat} (x y : Ent) : aggEq Try.prog (d + 2) 64 (.agg (entCells x)) (.agg (entCells y)) = some (decide (x = y)) := by
  have h3 := fun (a b : Int) => aggEq_int (P := Try.prog) (d := d) (a := a) (b := b) T3
  have h9 := fun (a b : List UInt8) => aggEq_str (P := Try.prog) (d := d) (a := a) (b := b) T9
  rw [aggEq_fields FO64]
  obtain ⟨a, b, c, e, f⟩ := x
  obtain ⟨a', b', c', e', f'⟩ := y
  simp only [allEq, vpart_one G3, vpart_one G9, entC0, entC1, entC2, entC3, entC4, h3, h9, Ent.mk.injEq]
  by_cases q1 : a = a' <;> simp [q1]
  by_cases q2 : b = b' <;> simp [q2]
  by_cases q3 : c = c' <;> simp [q3]
  by_cases q4 : e = e' <;> simp [q4]
  by_cases q5 : f = f' <;> simp [q5]

theorem itm_eq (x y : Itm) : aggEq Try.prog 10000 66 (.agg (itmCells x)) (.agg (itmCells y)) = some (decide (x = y)) := by
  have h3 := fun (a b : Int) => aggEq_int (P := Try.prog) (d := 9998) (a := a) (b := b) T3
  have h64 := fun (a b : Ent) => ent_eq (d := 9997) a b
  have p := fun (x : Itm) => vpart_agg (P := Try.prog) (t := 64) (cs := itmCells x) (i := 1) (n := 5) G64 S64 (by simp [itmCells, entCells])
  have p' : ∀ x : Itm, ((itmCells x).drop 1).take 5 = entCells x.ent := fun x => rfl
  have p0 : ∀ x : Itm, (itmCells x)[0]? = some (.int .i64 x.term) := fun x => rfl
  rw [aggEq_fields FO66]
  simp only [allEq, vpart_one G3, p, p', p0, h3, h64]
  obtain ⟨a, e⟩ := x
  obtain ⟨a', e'⟩ := y
  simp only [Itm.mk.injEq]
  by_cases q1 : a = a' <;> simp [q1]
  by_cases q2 : e = e' <;> simp [q2]

def I26 (σ0 : St) (l m : List Itm) : Nat → (Nat → V) → St → Prop := fun i e σ => e 13 = .int .i64 i ∧ i ≤ l.length ∧ l.take i = m.take i ∧ σ = σ0

theorem sameitems_does {v w : V} {l m : List Itm} (hv : ItemsV v l) (hw : ItemsV w m) (hl : l.length ≤ maxLen) (σ : St) : Does Try.prog noPrim 26 [v, w] σ (.ret (.bool (decide (l = m)))) σ := by
  apply k26_is.ret (by simp)
  unfold maxLen at hl
  by_cases hlen : (l.length : Int) = (m.length : Int)
  · simp only [k26_r0_e, k26_r1_e, k26_r2_e, k26_r3_e, k26_r4_e, k26_r5_e, k26_r6_e, k26_r7_e, k26_r8_e, k26_l0_e, k26_r9_e, k26_e, WK0, WK1, WK2, WK3, WK4, WK5, true_implies, vop, evAll, evOpt, evParts, vbuiltin, vun, vextract, Option.map_some, Option.map_none, Nat.reduceLT, Nat.reduceEqDiff, ↓reduceIte, reduceCtorEq, Nat.reduceAdd, Int.reduceLT, Int.reduceNeg, decide_true, decide_false, Bool.not_true, Bool.not_false, ne_eq, not_true_eq_false, not_false_eq_true, List.append_nil, Bool.false_eq_true, List.getElem?_cons_zero, List.getElem?_cons_succ, and_self, and_true, true_and, List.getD_cons_zero, List.getD_cons_succ, hv.len, hw.len, hlen]
    refine Ev.loopF (I26 σ l m) (fun i => l.length - i) 0 ⟨by simp [upd_some], by simp, by simp, rfl⟩ ?_
    rintro i e σ2 ⟨h13, hi, ht, rfl⟩ hf
    have h12 : e 12 = .int .i64 m.length := (hf 12 (by decide)).trans (by simp [upd_some])
    have h0 : e 0 = v := (hf 0 (by decide)).trans (by simp [upd_some])
    have h1 : e 1 = w := (hf 1 (by decide)).trans (by simp [upd_some])
    clear hf
    by_cases hlt : i < l.length
    · have hlt' : (i : Int) < (m.length : Int) := by omega
      have hltm : i < m.length := by omega
      have hwi : IntKind.i64.wrap ((i : Int) + 1) = ((i + 1 : Nat) : Int) := by rw [show ((i : Int) + 1) = ((i + 1 : Nat) : Int) from by omega]; exact wrap_nat (by omega)
      have hne := fun (xo yo : Operand) => vbin_aggneq (P := Try.prog) (t := 66) (xo := xo) (yo := yo) EG66 (itm_eq l[i] m[i])
      by_cases hx : l[i] = m[i]
      · have hdx : decide (l[i] = m[i]) = true := decide_eq_true hx
        rw [hdx] at hne
        simp only [k26_r0_e, k26_r1_e, k26_r2_e, k26_r3_e, k26_r4_e, k26_r5_e, k26_r6_e, k26_r7_e, k26_r8_e, k26_l0_e, k26_r9_e, k26_e, WK0, WK1, WK2, WK3, WK4, WK5, true_implies, vop, evAll, evOpt, evParts, vbuiltin, vun, vextract, Option.map_some, Option.map_none, Nat.reduceLT, Nat.reduceEqDiff, ↓reduceIte, reduceCtorEq, Nat.reduceAdd, Int.reduceLT, Int.reduceNeg, decide_true, decide_false, Bool.not_true, Bool.not_false, ne_eq, not_true_eq_false, not_false_eq_true, List.append_nil, Bool.false_eq_true, List.getElem?_cons_zero, List.getElem?_cons_succ, and_self, and_true, true_and, h0, h1, h12, h13, hlt', hv.addr hlt, hw.addr hltm, ItemsV.load hlt, ItemsV.load hltm, hne, hwi]
        refine ⟨i + 1, ⟨by simp [upd_some], hlt, ?_, rfl⟩, by omega⟩
        rw [List.take_succ_eq_append_getElem hlt, List.take_succ_eq_append_getElem hltm, ht, hx]
      · have hdx : decide (l[i] = m[i]) = false := decide_eq_false hx
        rw [hdx] at hne
        simp only [k26_r0_e, k26_r1_e, k26_r2_e, k26_r3_e, k26_r4_e, k26_r5_e, k26_r6_e, k26_r7_e, k26_r8_e, k26_l0_e, k26_r9_e, k26_e, WK0, WK1, WK2, WK3, WK4, WK5, true_implies, vop, evAll, evOpt, evParts, vbuiltin, vun, vextract, Option.map_some, Option.map_none, Nat.reduceLT, Nat.reduceEqDiff, ↓reduceIte, reduceCtorEq, Nat.reduceAdd, Int.reduceLT, Int.reduceNeg, decide_true, decide_false, Bool.not_true, Bool.not_false, ne_eq, not_true_eq_false, not_false_eq_true, List.append_nil, Bool.false_eq_true, List.getElem?_cons_zero, List.getElem?_cons_succ, and_self, and_true, true_and, h0, h1, h12, h13, hlt', hv.addr hlt, hw.addr hltm, ItemsV.load hlt, ItemsV.load hltm, hne]
        have : decide (l = m) = false := decide_eq_false (fun h => hx (by subst h; rfl))
        rw [this]
    · have hlt' : ¬ (i : Int) < (m.length : Int) := by omega
      simp only [k26_r0_e, k26_r1_e, k26_r2_e, k26_r3_e, k26_r4_e, k26_r5_e, k26_r6_e, k26_r7_e, k26_r8_e, k26_l0_e, k26_r9_e, k26_e, WK0, WK1, WK2, WK3, WK4, WK5, true_implies, vop, evAll, evOpt, evParts, vbuiltin, vun, vextract, Option.map_some, Option.map_none, Nat.reduceLT, Nat.reduceEqDiff, ↓reduceIte, reduceCtorEq, Nat.reduceAdd, Int.reduceLT, Int.reduceNeg, decide_true, decide_false, Bool.not_true, Bool.not_false, ne_eq, not_true_eq_false, not_false_eq_true, List.append_nil, Bool.false_eq_true, List.getElem?_cons_zero, List.getElem?_cons_succ, and_self, and_true, true_and, h0, h1, h12, h13, hlt']
      have e1 : l.take i = l := List.take_of_length_le (by omega)
      have e2 : m.take i = m := List.take_of_length_le (by omega)
      rw [e1, e2] at ht
      subst ht
      simp
  · simp only [k26_r0_e, k26_r1_e, k26_r2_e, k26_r3_e, k26_r4_e, k26_r5_e, k26_r6_e, k26_r7_e, k26_r8_e, k26_l0_e, k26_r9_e, k26_e, WK0, WK1, WK2, WK3, WK4, WK5, true_implies, vop, evAll, evOpt, evParts, vbuiltin, vun, vextract, Option.map_some, Option.map_none, Nat.reduceLT, Nat.reduceEqDiff, ↓reduceIte, reduceCtorEq, Nat.reduceAdd, Int.reduceLT, Int.reduceNeg, decide_true, decide_false, Bool.not_true, Bool.not_false, ne_eq, not_true_eq_false, not_false_eq_true, List.append_nil, Bool.false_eq_true, List.getElem?_cons_zero, List.getElem?_cons_succ, and_self, and_true, true_and, List.getD_cons_zero, List.getD_cons_succ, hv.len, hw.len, hlen]
    have : decide (l = m) = false := decide_eq_false (fun h => hlen (by rw [h]))
    rw [this]
end Go.Proofs.Ytcogghmmlndmgaa.Q
