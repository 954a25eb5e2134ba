import Derived.Test.YtlimedbanpfkgaaTa
import Derived.Test.YtlimedbanpfkgaaQu
set_option linter.unusedVariables false
set_option linter.unusedSimpArgs false
namespace Go.Proofs.Ytlimedbanpfkgaa.Q
open Go Go.RowKit Go.Proofs

/-- A value: kind, number, text, parts. -/
inductive Val where
  | mk (kind num : Int) (text : List UInt8) (list : List Val)

mutual
/-- These cells are the value. -/
inductive ValC : Val → List V → Prop
  | mk {k n : Int} {t : List UInt8} {l : List Val} {w : V} : InI64 k → InI64 n → ValsW l w → ValC (.mk k n t l) [.int .i64 k, .int .i64 n, .str t, w]
/-- This slice is the list of values. -/
inductive ValsW : List Val → V → Prop
  | nil : ValsW [] .nils
  | row {l : List Val} {cs : List V} {p : Perm} : ValsC l cs → ValsW l (.slice p 4 cs l.length)
inductive ValsC : List Val → List V → Prop
  | nil : ValsC [] []
  | cons {v : Val} {c : List V} {l : List Val} {cs : List V} : ValC v c → ValsC l cs → ValsC (v :: l) (c ++ cs)
end

theorem ValC.inv {v : Val} {c : List V} (h : ValC v c) : ∃ k n t l w, v = .mk k n t l ∧ c = [.int .i64 k, .int .i64 n, .str t, w] ∧ ValsW l w ∧ InI64 k ∧ InI64 n := by
  cases h with
  | mk h1 h2 h3 => exact ⟨_, _, _, _, _, rfl, rfl, h3, h1, h2⟩
theorem ValC.len {v : Val} {c : List V} (h : ValC v c) : c.length = 4 := by
  obtain ⟨k, n, t, l, w, rfl, rfl, _⟩ := h.inv
  rfl
theorem ValsW.one {l : List Val} {w : V} (h : ValsW l w) : one w = true := by
  cases h <;> rfl
theorem ValC.one {v : Val} {c : List V} (h : ValC v c) : c.all one = true := by
  obtain ⟨k, n, t, l, w, rfl, rfl, hw, _⟩ := h.inv
  simp only [List.all_cons, List.all_nil, hw.one]
  rfl
theorem ValsC.len : ∀ {l : List Val} {cs : List V}, ValsC l cs → cs.length = l.length * 4
  | [], _, h => by cases h; rfl
  | v :: l, _, h => by
    cases h with
    | cons h1 h2 => rw [List.length_append, h1.len, h2.len, List.length_cons]; omega
theorem ValsC.get : ∀ {l : List Val} {cs : List V}, ValsC l cs → ∀ {i : Nat} (hi : i < l.length), ValC l[i] ((cs.drop (i * 4)).take 4)
  | [], _, h, i, hi => by simp at hi
  | v :: l, _, h, i, hi => by
    cases h with
    | @cons _ c _ cs h1 h2 =>
      cases i with
      | zero =>
        have : ((c ++ cs).drop (0 * 4)).take 4 = c := by
          rw [Nat.zero_mul, List.drop_zero, ← h1.len, List.take_left]
        rw [this]
        exact h1
      | succ i =>
        have : (c ++ cs).drop ((i + 1) * 4) = cs.drop (i * 4) := by
          rw [show (i + 1) * 4 = c.length + i * 4 by rw [h1.len]; omega, List.drop_length_add_append]
        rw [this]
        exact h2.get (by simpa using hi)

theorem VT22 : Try.prog.underlying 22 = some (.slice 24) := by kernel_rfl
theorem VS24 : sizeT Try.prog 24 = some 4 := by kernel_rfl
theorem VG24 : isAggT Try.prog 24 = some true := by kernel_rfl
theorem VG22 : isAggT Try.prog 22 = some false := by kernel_rfl
theorem VS22 : sizeT Try.prog 22 = some 1 := by kernel_rfl
theorem T9 : Try.prog.underlying 9 = some .string := by kernel_rfl
theorem G9 : isAggT Try.prog 9 = some false := by kernel_rfl
theorem S9 : sizeT Try.prog 9 = some 1 := by kernel_rfl
theorem FV0 (r n : Nat) : vfieldAddr Try.prog 24 (.optr r n) 0 = some (.optr r n) := by kernel_rfl
theorem FV1 (r n : Nat) : vfieldAddr Try.prog 24 (.optr r n) 1 = some (.optr r (n + 1)) := by kernel_rfl
theorem FV2 (r n : Nat) : vfieldAddr Try.prog 24 (.optr r n) 2 = some (.optr r (n + 2)) := by kernel_rfl
theorem FV3 (r n : Nat) : vfieldAddr Try.prog 24 (.optr r n) 3 = some (.optr r (n + 3)) := by kernel_rfl
def val0C : List V := [.int .i64 0, .int .i64 0, .str [], .nils]
theorem VZ24 : zeroT Try.prog 24 = some (.agg val0C) := by kernel_rfl
theorem vlen_str {t : TypeId} {s : List UInt8} (ht : Try.prog.underlying t = some .string) : vlen Try.prog t (.str s) = some (.int .i64 s.length) := by
  simp [vlen, ht]

theorem ValsW.len {l : List Val} {w : V} (h : ValsW l w) : vlen Try.prog 22 w = some (.int .i64 l.length) := by
  cases h <;> simp [vlen, VT22]
/-- A part of it. -/
theorem ValsW.get {l : List Val} {w : V} (h : ValsW l w) {i : Nat} (hi : i < l.length) : ∃ cs c, vindexAddr Try.prog 22 w (.int .i64 i) = some (.eptr cs (i * 4)) ∧ (∀ objs, vload Try.prog objs 24 (.eptr cs (i * 4)) = some (.agg c)) ∧ ValC l[i] c := by
  cases h with
  | nil => simp at hi
  | @row _ cs p h =>
    have hl := h.len
    have hne : cs ≠ [] := by
      rintro rfl
      simp only [List.length_nil] at hl
      omega
    refine ⟨cs, _, ?_, fun objs => ?_, h.get hi⟩
    · simp [vindexAddr, VT22, VS24, hi, hne]
    · have : i * 4 + 4 ≤ cs.length := by omega
      simp [vload, vcellsAt, vpart, VG24, VS24, this]

/-- An object that is a value. -/
def IsV (σ : St) (q : Nat) (c : List V) : Prop := σ.objs[q]? = some (.cells c)
section
variable {σ : St} {q : Nat} {k n : Int} {t : List UInt8} {w : V}
theorem IsV.kind (h : IsV σ q [.int .i64 k, .int .i64 n, .str t, w]) : vload Try.prog σ.objs 3 (.optr q 0) = some (.int .i64 k) := by rw [vload_obj h G3]; rfl
theorem IsV.num (h : IsV σ q [.int .i64 k, .int .i64 n, .str t, w]) : vload Try.prog σ.objs 3 (.optr q 1) = some (.int .i64 n) := by rw [vload_obj h G3]; rfl
theorem IsV.text (h : IsV σ q [.int .i64 k, .int .i64 n, .str t, w]) : vload Try.prog σ.objs 9 (.optr q 2) = some (.str t) := by rw [vload_obj h G9]; rfl
theorem IsV.list (h : IsV σ q [.int .i64 k, .int .i64 n, .str t, w]) : vload Try.prog σ.objs 22 (.optr q 3) = some w := by rw [vload_obj h VG22]; rfl
end
theorem IsV.load {σ : St} {q : Nat} {c : List V} (h : IsV σ q c) (hc : c.length = 4) : vload Try.prog σ.objs 24 (.optr q 0) = some (.agg c) := vload_agg h VG24 (by rw [hc]; exact VS24)
theorem IsV.new {σ : St} {o c : List V} (hc : c.length = 4) (ho : o.length = 4) (h1 : c.all one = true) : vstore Try.prog ⟨σ.objs ++ [Ob.cells o], σ.toks⟩ 24 (.optr σ.objs.length 0) (.agg c) = some ⟨(σ.objs ++ [Ob.cells o]).set σ.objs.length (Ob.cells c), σ.toks⟩ :=
  vstore_agg (push_new _ _) (by rw [hc]; exact VS24) (by rw [hc, ho]) h1
theorem IsV.made {σ : St} {o c : List V} : IsV ⟨(σ.objs ++ [Ob.cells o]).set σ.objs.length (Ob.cells c), σ.toks⟩ σ.objs.length c := obj_set (push_new _ _)
theorem Keep.madeV {σ0 σ : St} (h : Keep σ0 σ) (o c : List V) : Keep σ0 ⟨(σ.objs ++ [Ob.cells o]).set σ.objs.length (Ob.cells c), σ.toks⟩ :=
  h.trans (((Keep.refl σ).push (.cells o)).setNew (Nat.le_refl _) _)
theorem Keep.atV {σ σ' : St} (h : Keep σ σ') {q : Nat} {c : List V} (hq : IsV σ q c) : IsV σ' q c := h.1 _ _ hq

mutual
def weight : Val → Nat
  | .mk _ _ t l => 1 + t.length + weights l
def weights : List Val → Nat
  | [] => 0
  | v :: l => weight v + weights l
end
theorem weights_mem : ∀ {l : List Val} {v : Val}, v ∈ l → weight v ≤ weights l
  | [], v, h => by cases h
  | a :: l, v, h => by
    rw [weights]
    rcases List.mem_cons.1 h with rfl | h
    · omega
    · have := weights_mem h; omega
theorem weights_append (a b : List Val) : weights (a ++ b) = weights a + weights b := by
  induction a with
  | nil => simp [weights]
  | cons v a ih => rw [List.cons_append, weights, weights, ih]; omega
theorem weights_take_succ {l : List Val} {i : Nat} (h : i < l.length) : weights (l.take (i + 1)) = weights (l.take i) + weight l[i] := by
  rw [List.take_succ_eq_append_getElem h, weights_append]
  simp [weights]
theorem weights_take_le (l : List Val) (i : Nat) : weights (l.take i) ≤ weights l := by
  have := weights_append (l.take i) (l.drop i)
  rw [List.take_append_drop] at this
  omega
theorem weight_pos (v : Val) : 0 < weight v := by
  cases v; rw [weight]; omega
theorem weights_len : ∀ l : List Val, l.length ≤ weights l
  | [] => by simp
  | v :: l => by
    have := weights_len l
    have := weight_pos v
    rw [weights, List.length_cons]; omega

theorem ValC.bulk : ∀ (n : Nat) {v : Val} {c : List V}, weight v ≤ n → ValC v c → weight v ≤ vbulks c
  | 0, v, c, hn, h => by have := weight_pos v; omega
  | n + 1, v, c, hn, h => by
    obtain ⟨k, m, t, l, w, rfl, rfl, hw, _⟩ := h.inv
    rw [weight] at hn ⊢
    have rows : ∀ {l : List Val} {cs : List V}, weights l ≤ n → ValsC l cs → weights l ≤ vbulks cs := by
      intro l
      induction l with
      | nil => intro cs _ h; simp [weights]
      | cons v l ih =>
        intro cs hl h
        cases h with
        | cons h1 h2 =>
          rw [weights] at hl ⊢
          have h3 := ValC.bulk n (by omega) h1
          have h4 := ih (by omega) h2
          rw [vbulks_append]
          omega
    cases hw with
    | nil => simp [weights, vbulks, vbulk]; omega
    | row hc =>
      have := rows (by omega) hc
      simp only [vbulks, vbulk]
      omega

theorem FOV : fieldsOf Try.prog 24 = [(3, 0), (3, 1), (9, 2), (22, 3)] := by kernel_rfl
theorem CO3 : Try.prog.cellsOf 3 = 1 := by kernel_rfl
theorem CO9 : Try.prog.cellsOf 9 = 1 := by kernel_rfl
theorem CO22 : Try.prog.cellsOf 22 = 1 := by kernel_rfl
theorem CO24 : Try.prog.cellsOf 24 = 4 := by kernel_rfl
theorem one_of {cs : List V} {i : Nat} {v : V} (h : (cs.drop i).take 1 = [v]) : cs[i]? = some v := by
  have : ((cs.drop i).take 1)[0]? = some v := by rw [h]; rfl
  simpa using this

theorem list_ext4 {cs : List V} {a b c d : V} (hl : cs.length = 4) (h0 : cs[0]? = some a) (h1 : cs[1]? = some b) (h2 : cs[2]? = some c) (h3 : cs[3]? = some d) : cs = [a, b, c, d] := by
  match cs, hl with
  | [x0, x1, x2, x3], _ => simp at h0 h1 h2 h3; simp [h0, h1, h2, h3]
set_option maxRecDepth 100000 in
theorem val_VT' (K : Nat) : ∀ k, k ≤ K → ∀ {cs : List V}, VT Try.prog k 24 cs → ∃ v, ValC v cs := by
  induction K with
  | zero =>
    intro k hk cs h
    have : k = 0 := by omega
    subst this
    exact h.elim
  | succ K ihK =>
    intro k hk cs h
    cases k with
    | zero => exact h.elim
    | succ k =>
      have hS : cs.length = Try.prog.cellsOf 24 ∧ ∀ q ∈ [(3, 0), (3, 1), (9, 2), (22, 3)], VT Try.prog k q.1 ((cs.drop q.2).take (Try.prog.cellsOf q.1)) := by
        have hu := FOV
        unfold fieldsOf at hu
        split at hu
        · rename_i fs hf
          split at hu
          · cases hu
          · simp only [VT, hf] at h
            refine ⟨h.1, fun q hq => ?_⟩
            rw [← hu, List.mem_map] at hq
            obtain ⟨f, hfm, rfl⟩ := hq
            exact h.2 f hfm
        · cases hu
      obtain ⟨hl, hf⟩ := hS
      rw [CO24] at hl
      simp only [List.mem_cons, List.not_mem_nil, or_false, forall_eq_or_imp, forall_eq, CO3, CO9, CO22] at hf
      obtain ⟨f0, f1, f2, f3⟩ := hf
      obtain ⟨a, h0, w0⟩ := VT_int T3 f0
      obtain ⟨b, h1, w1⟩ := VT_int T3 f1
      obtain ⟨s, h2, w2⟩ := VT_str T9 f2
      have hlist : ∃ l w, (cs.drop 3).take 1 = [w] ∧ ValsW l w := by
        cases k with
        | zero => exact f3.elim
        | succ k =>
          simp only [VT, VT22, CO24] at f3
          rcases f3 with h | ⟨vs, len, h, h4, h5, h6⟩
          · exact ⟨[], .nils, h, .nil⟩
          · have rows : ∀ (len : Nat) (vs : List V), vs.length = len * 4 → (∀ i, i < len → VT Try.prog k 24 ((vs.drop (i * 4)).take 4)) → ∃ l, l.length = len ∧ ValsC l vs := by
              intro len
              induction len with
              | zero => 
                intro vs hv _
                have h0 : vs = [] := List.length_eq_zero_iff.1 (by simpa using hv)
                subst h0
                exact ⟨[], rfl, .nil⟩
              | succ len ih =>
                intro vs hv hi
                have hv0 := hi 0 (by omega)
                rw [Nat.zero_mul, List.drop_zero] at hv0
                obtain ⟨v, hvC⟩ := ihK k (by omega) hv0
                obtain ⟨l, hl, hlC⟩ := ih (vs.drop 4) (by rw [List.length_drop, hv]; omega) fun i hlt => by
                  have := hi (i + 1) (by omega)
                  rwa [show (i + 1) * 4 = 4 + i * 4 by omega, ← List.drop_drop] at this
                refine ⟨v :: l, by simp [hl], ?_⟩
                have := ValsC.cons hvC hlC
                rwa [List.take_append_drop] at this
            obtain ⟨l, hl, hlC⟩ := rows len vs h4 h6
            subst hl
            exact ⟨l, _, h, .row hlC⟩
      obtain ⟨l, w, h3, hw⟩ := hlist
      refine ⟨.mk a b s l, ?_⟩
      have : cs = [.int .i64 a, .int .i64 b, .str s, w] := list_ext4 hl (one_of h0) (one_of h1) (one_of h2) (one_of h3)
      rw [this]
      exact .mk (InI64_of w0) (InI64_of w1) hw

theorem val_VT (k : Nat) {cs : List V} (h : VT Try.prog k 24 cs) : ∃ v, ValC v cs := val_VT' k k (Nat.le_refl _) h

set_option maxRecDepth 100000 in
theorem val_arg {x : V} (h : ArgT Try.prog 24 x) : ∃ v c, x = .agg c ∧ ValC v c ∧ weight v ≤ vbulk x := by
  obtain ⟨k, cs, rfl, h0⟩ := ArgT_struct FOV h
  obtain ⟨v, hv⟩ := val_VT k h0
  refine ⟨v, cs, rfl, hv, ?_⟩
  have := hv.bulk _ (Nat.le_refl _)
  simp only [vbulk]
  omega
end Go.Proofs.Ytlimedbanpfkgaa.Q
