/- A part of the proof: Qs, Qt, Qu, Ta, Ro, Va, Ca, Cb, Cc, Cd, Tk, Tp, Vb, Vc, Vd, Vf, Vg, Vh. -/
import Derived.Test.YtplhelapcpcncaaMb5
import Derived.Test.YtplhelapcpcncaaMb4
/- Structures are compared field by field. -/
set_option linter.unusedVariables false
set_option linter.unusedSimpArgs false
namespace Go.Proofs.Ytplhelapcpcncaa.Q
open Go Go.RowKit
section
variable {P : Program}
/-- A structure's fields: type and place. -/
def fieldsOf (P : Program) (t : TypeId) : List (TypeId × Nat) := match P.underlying t with
  | some (.struct fs) => if P.stoodInHeld t || fs.toList.any (fun f => decide (f.name = "_")) then [] else fs.toList.map fun f => (f.type, f.offset)
  | _ => []
def allEq (P : Program) (d : Nat) : List (TypeId × Nat) → List V → List V → Option Bool
  | [], _, _ => some true
  | f :: fs, xs, ys => match vpart P f.1 xs f.2, vpart P f.1 ys f.2 with
    | some a, some b => match aggEq P d f.1 a b with
      | some true => allEq P d fs xs ys
      | some false => some false
      | none => none
    | _, _ => none
theorem fieldsEq_all {d : Nat} : ∀ {fs : List Field} {xs ys : List V}, fs.any (fun f => decide (f.name = "_")) = false → aggEq.fieldsEq P d fs xs ys = allEq P d (fs.map fun f => (f.type, f.offset)) xs ys
  | [], xs, ys, _ => by simp [fieldsEq_nil, allEq]
  | f :: fs, xs, ys, h => by
    simp only [List.any_cons, Bool.or_eq_false_iff, decide_eq_false_iff_not] at h
    rw [fieldsEq_cons, if_pos h.1, List.map_cons, allEq]
    cases vpart P f.type xs f.offset <;> cases vpart P f.type ys f.offset <;> try rfl
    rename_i a b
    simp only
    cases aggEq P d f.type a b with
    | none => rfl
    | some r => cases r with
      | true => exact fieldsEq_all h.2
      | false => rfl
theorem aggEq_fields {t : TypeId} {d : Nat} {p : TypeId × Nat} {ps : List (TypeId × Nat)} {xs ys : List V} (h : fieldsOf P t = p :: ps) : aggEq P (d + 1) t (.agg xs) (.agg ys) = allEq P d (p :: ps) xs ys := by
  unfold fieldsOf at h
  split at h
  · rename_i fs hu
    split at h
    · cases h
    · rename_i hn
      cases h1 : P.stoodInHeld t with
      | true => rw [h1] at hn; simp at hn
      | false =>
        cases h2 : fs.toList.any (fun f => decide (f.name = "_")) with
        | true => rw [h1, h2] at hn; simp at hn
        | false =>
          rw [← h, ← fieldsEq_all h2]
          simp [aggEq, hu, h1, aggEq.fieldsEq]
  · cases h
theorem aggEq_int {t : TypeId} {k : IntKind} {d : Nat} {a b : Int} (h : P.underlying t = some (.int k)) : aggEq P (d + 1) t (.int k a) (.int k b) = some (decide (a = b)) := by
  simp [aggEq, h]
theorem vpart_one {t : TypeId} {cs : List V} {i : Nat} (h : isAggT P t = some false) : vpart P t cs i = cs[i]? := by simp [vpart, h]
theorem vbin_aggneq {t : TypeId} {xo yo : Operand} {a b : List V} {r : Bool} (hg : P.eqGuardType P.depth t = false) (h : aggEq P 10000 t (.agg a) (.agg b) = some r) : vbin P .neq t xo yo (.agg a) (.agg b) = some (.bool (!r)) := by
  simp [vbin, bothSame, guardFree, hg, h]
end
end Go.Proofs.Ytplhelapcpcncaa.Q

/- Arguments that are structures, and rows of them. -/
set_option linter.unusedVariables false
set_option linter.unusedSimpArgs false
namespace Go.Proofs.Ytplhelapcpcncaa.Q
open Go Go.RowKit
section
variable {P : Program}
theorem VT_int {k : Nat} {t : TypeId} {i : IntKind} {cs : List V} (hu : P.underlying t = some (.int i)) (h : VT P k t cs) : ∃ n, cs = [.int i n] ∧ (Lit.int i n).wf = true := by
  cases k with
  | zero => exact h.elim
  | succ k => simpa [VT, hu] using h
theorem VT_str {k : Nat} {t : TypeId} {cs : List V} (hu : P.underlying t = some .string) (h : VT P k t cs) : ∃ l, cs = [.str l] ∧ l.length ≤ maxLen := by
  cases k with
  | zero => exact h.elim
  | succ k => simpa [VT, hu] using h
theorem VT_slice {k : Nat} {t e : TypeId} {cs : List V} (hu : P.underlying t = some (.slice e)) (h : VT P k t cs) : ∃ k', cs = [.nils] ∨ ∃ vs len, cs = [.slice .ro (P.cellsOf e) vs len] ∧ vs.length = len * P.cellsOf e ∧ len ≤ maxLen ∧ ∀ i, i < len → VT P k' e ((vs.drop (i * P.cellsOf e)).take (P.cellsOf e)) := by
  cases k with
  | zero => exact h.elim
  | succ k => exact ⟨k, by simpa [VT, hu] using h⟩
theorem VT_struct {k : Nat} {t : TypeId} {p : TypeId × Nat} {ps : List (TypeId × Nat)} {cs : List V} (hu : fieldsOf P t = p :: ps) (h : VT P k t cs) : ∃ k', cs.length = P.cellsOf t ∧ ∀ q ∈ p :: ps, VT P k' q.1 ((cs.drop q.2).take (P.cellsOf q.1)) := by
  cases k with
  | zero => exact h.elim
  | succ k =>
    unfold fieldsOf at hu
    split at hu
    · rename_i fs hf
      split at hu
      · cases hu
      · simp only [VT, hf] at h
        refine ⟨k, h.1, fun q hq => ?_⟩
        rw [← hu, List.mem_map] at hq
        obtain ⟨f, hfm, rfl⟩ := hq
        exact h.2 f hfm
    · cases hu
theorem ArgT_struct {t : TypeId} {p : TypeId × Nat} {ps : List (TypeId × Nat)} {x : V} (hu : fieldsOf P t = p :: ps) (h : ArgT P t x) : ∃ k vs, x = .agg vs ∧ VT P k t vs := by
  unfold fieldsOf at hu
  split at hu
  · rename_i fs hf
    unfold ArgT at h
    rw [hf] at h
    exact h
  · cases hu
end
theorem rows_of {α : Type} {f : α → List V} {R : α → Prop} {c : Nat} : ∀ (len : Nat) (vs : List V), vs.length = len * c → (∀ i, i < len → ∃ x, (vs.drop (i * c)).take c = f x ∧ R x) → ∃ l : List α, vs = l.flatMap f ∧ l.length = len ∧ ∀ x ∈ l, R x
  | 0, vs, hl, _ => ⟨[], by simpa using hl, rfl, by simp⟩
  | len + 1, vs, hl, h => by
    obtain ⟨x, hx, hr⟩ := h 0 (by omega)
    have hl' : (vs.drop c).length = len * c := by rw [List.length_drop, hl, Nat.add_mul]; omega
    obtain ⟨l, h1, h2, h3⟩ := rows_of len (vs.drop c) hl' fun i hi => by
      obtain ⟨y, hy, hry⟩ := h (i + 1) (by omega)
      have he : c + i * c = (i + 1) * c := by rw [Nat.add_mul]; omega
      exact ⟨y, by rw [List.drop_drop, he]; exact hy, hry⟩
    refine ⟨x :: l, ?_, by simp [h2], ?_⟩
    · rw [List.flatMap_cons, ← h1, ← hx]
      simp
    · intro y hy
      rcases List.mem_cons.1 hy with rfl | hy
      · exact hr
      · exact h3 y hy
theorem bulk_len {α : Type} {f : α → List V} {k : Nat} (hf : ∀ a, (f a).length = k) (hk : 0 < k) (l : List α) : l.length ≤ vbulks (l.flatMap f) := by
  have h1 := vbulks_len (l.flatMap f)
  rw [flat_len hf] at h1
  have : l.length * 1 ≤ l.length * k := Nat.mul_le_mul_left _ hk
  omega
end Go.Proofs.Ytplhelapcpcncaa.Q

/- The rules of a walk, as one. -/
set_option linter.unusedVariables false
namespace Go.Proofs.Ytplhelapcpcncaa.Q
open Go Go.RowKit
theorem WK0 : type_of% @Ev_seq' ∧ type_of% @Ev_region ∧ type_of% @Ev_wregion ∧ type_of% @EoW_nil ∧ type_of% @EoW_cons ∧ type_of% @wC_normal ∧ type_of% @wC_pan ∧ type_of% @pushB_true ∧ type_of% @pushB_false ∧ type_of% @look_nil ∧ type_of% @look_cons ∧ type_of% @WOk_nil ∧ type_of% @WOk_cons ∧ type_of% @WV_some ∧ type_of% @WJ_nil ∧ type_of% @WJ_cons ∧ type_of% @KQ_some ∧ type_of% @wantC_none ∧ type_of% @wantC_tt ∧ type_of% @Ev_block' := ⟨@Ev_seq', @Ev_region, @Ev_wregion, @EoW_nil, @EoW_cons, @wC_normal, @wC_pan, @pushB_true, @pushB_false, @look_nil, @look_cons, @WOk_nil, @WOk_cons, @WV_some, @WJ_nil, @WJ_cons, @KQ_some, @wantC_none, @wantC_tt, @Ev_block'⟩
theorem WK1 : type_of% @Ev_skip' ∧ type_of% @Ev_exit' ∧ type_of% @Ev_ret' ∧ type_of% @Ev_if ∧ type_of% @Eo_nil ∧ type_of% @Eo_builtin ∧ type_of% @Eo_call ∧ type_of% @Eo_callv ∧ type_of% @Eo_panic ∧ type_of% @Eo_guard ∧ type_of% @Eo_move ∧ type_of% @Eo_assign ∧ type_of% @Eo_pick ∧ type_of% @Eo_alloc ∧ type_of% @Eo_box ∧ type_of% @Eo_build ∧ type_of% @Eo_buildSlice ∧ type_of% @Eo_load ∧ type_of% @Eo_store ∧ type_of% @Eo_nilCheck := ⟨@Ev_skip', @Ev_exit', @Ev_ret', @Ev_if, @Eo_nil, @Eo_builtin, @Eo_call, @Eo_callv, @Eo_panic, @Eo_guard, @Eo_move, @Eo_assign, @Eo_pick, @Eo_alloc, @Eo_box, @Eo_build, @Eo_buildSlice, @Eo_load, @Eo_store, @Eo_nilCheck⟩
theorem WK2 : type_of% @Eo_binOp ∧ type_of% @Eo_unOp ∧ type_of% @Eo_convert ∧ type_of% @Eo_makeInterface ∧ type_of% @Eo_makeFunc ∧ type_of% @Eo_makeSlice ∧ type_of% @Eo_slice ∧ type_of% @Eo_fieldAddr ∧ type_of% @Eo_field ∧ type_of% @Eo_indexAddr ∧ type_of% @Eo_index ∧ type_of% @Eo_typeAssert ∧ type_of% @Eo_extract ∧ type_of% @Kop_some ∧ type_of% @KB_true ∧ type_of% @KB_false ∧ type_of% @KI_some ∧ type_of% @KG_tt ∧ type_of% @KG_ff ∧ type_of% @KG_tf ∧ type_of% @KG_ft := ⟨@Eo_binOp, @Eo_unOp, @Eo_convert, @Eo_makeInterface, @Eo_makeFunc, @Eo_makeSlice, @Eo_slice, @Eo_fieldAddr, @Eo_field, @Eo_indexAddr, @Eo_index, @Eo_typeAssert, @Eo_extract, @Kop_some, @KB_true, @KB_false, @KI_some, @KG_tt, @KG_ff, @KG_tf, @KG_ft⟩
theorem WK3 : type_of% @KG_tup ∧ type_of% @KC_some ∧ type_of% @KF_some ∧ type_of% @KP_some ∧ type_of% @KR_some ∧ type_of% @seqC_normal ∧ type_of% @seqC_exit ∧ type_of% @seqC_ret ∧ type_of% @seqC_pan ∧ type_of% @loopC_normal ∧ type_of% @loopC_exit ∧ type_of% @loopC_ret ∧ type_of% @loopC_pan ∧ type_of% @blockK_normal ∧ type_of% @blockK_exit ∧ type_of% @blockK_exit_ne ∧ type_of% @blockK_ret ∧ type_of% @blockK_pan ∧ type_of% @fnK_normal ∧ type_of% @fnK_ret := ⟨@KG_tup, @KC_some, @KF_some, @KP_some, @KR_some, @seqC_normal, @seqC_exit, @seqC_ret, @seqC_pan, @loopC_normal, @loopC_exit, @loopC_ret, @loopC_pan, @blockK_normal, @blockK_exit, @blockK_exit_ne, @blockK_ret, @blockK_pan, @fnK_normal, @fnK_ret⟩
theorem WK4 : type_of% @fnK_pan ∧ type_of% @evs_env ∧ type_of% @evs_const ∧ type_of% @evs_func ∧ type_of% @ofVal_int ∧ type_of% @ofVal_bool ∧ type_of% @ofVal_nil ∧ type_of% @ofVal_nilp ∧ type_of% @vnil_optr ∧ type_of% @vbin_add ∧ type_of% @vbin_sub ∧ type_of% @vbin_mul ∧ type_of% @vbin_quo ∧ type_of% @vbin_rem ∧ type_of% @vbin_eql ∧ type_of% @vbin_neq ∧ type_of% @vbin_lss ∧ type_of% @vbin_leq ∧ type_of% @vbin_gtr ∧ type_of% @vbin_geq := ⟨@fnK_pan, @evs_env, @evs_const, @evs_func, @ofVal_int, @ofVal_bool, @ofVal_nil, @ofVal_nilp, @vnil_optr, @vbin_add, @vbin_sub, @vbin_mul, @vbin_quo, @vbin_rem, @vbin_eql, @vbin_neq, @vbin_lss, @vbin_leq, @vbin_gtr, @vbin_geq⟩
theorem WK5 : type_of% @vbin_and ∧ type_of% @vbin_or ∧ type_of% @vbin_xor ∧ type_of% @vbin_andNot ∧ type_of% @vbin_shl ∧ type_of% @vbin_shr ∧ type_of% @vbin_str ∧ type_of% @upd_some ∧ type_of% @upd_none ∧ type_of% @vresults_tmp ∧ type_of% @vresults_nil ∧ type_of% @vresults_cell ∧ type_of% @vtuple_0 ∧ type_of% @vtuple_1 ∧ type_of% @vtuple_2 := ⟨@vbin_and, @vbin_or, @vbin_xor, @vbin_andNot, @vbin_shl, @vbin_shr, @vbin_str, @upd_some, @upd_none, @vresults_tmp, @vresults_nil, @vresults_cell, @vtuple_0, @vtuple_1, @vtuple_2⟩
theorem WK6 : type_of% @true_implies ∧ type_of% @decide_true ∧ type_of% @decide_false ∧ type_of% @Bool.not_true ∧ type_of% @Bool.not_false ∧ type_of% @not_true_eq_false ∧ type_of% @not_false_eq_true ∧ type_of% @Bool.false_eq_true ∧ type_of% @and_self ∧ type_of% @and_true ∧ type_of% @true_and ∧ type_of% @Option.map_some.{0,0} ∧ type_of% @Option.map_none.{0,0} ∧ type_of% @List.append_nil.{0} ∧ type_of% @List.getElem?_cons_zero.{0} ∧ type_of% @List.getElem?_cons_succ.{0} ∧ type_of% @ne_eq.{1} ∧ type_of% @List.getD_cons_zero.{0} ∧ type_of% @List.getD_cons_succ.{0} := ⟨@true_implies, @decide_true, @decide_false, @Bool.not_true, @Bool.not_false, @not_true_eq_false, @not_false_eq_true, @Bool.false_eq_true, @and_self, @and_true, @true_and, @Option.map_some.{0,0}, @Option.map_none.{0,0}, @List.append_nil.{0}, @List.getElem?_cons_zero.{0}, @List.getElem?_cons_succ.{0}, @ne_eq.{1}, @List.getD_cons_zero.{0}, @List.getD_cons_succ.{0}⟩
theorem WK7 : type_of% @Ev_hreg ∧ type_of% @EoH_nil ∧ type_of% @EoH_cold ∧ type_of% @EoH_hot ∧ type_of% @hC_normal ∧ type_of% @hC_pan ∧ type_of% @KH_some ∧ type_of% @Eo_makeMap ∧ type_of% @Eo_insert ∧ type_of% @Eo_mapUpdate ∧ type_of% @Eo_lookup := ⟨@Ev_hreg, @EoH_nil, @EoH_cold, @EoH_hot, @hC_normal, @hC_pan, @KH_some, @Eo_makeMap, @Eo_insert, @Eo_mapUpdate, @Eo_lookup⟩
theorem WK : type_of% WK0 ∧ type_of% WK1 ∧ type_of% WK2 ∧ type_of% WK3 ∧ type_of% WK4 ∧ type_of% WK5 ∧ type_of% WK6 ∧ type_of% WK7 := ⟨WK0, WK1, WK2, WK3, WK4, WK5, WK6, WK7⟩
end Go.Proofs.Ytplhelapcpcncaa.Q

set_option linter.unusedVariables false
set_option linter.unusedSimpArgs false
namespace Go.Proofs.Ytplhelapcpcncaa.Q
open Go Go.RowKit Go.Proofs
theorem T22 : Try.prog.underlying 41 = some (.slice 5) := by kernel_rfl
theorem T5 : Try.prog.underlying 5 = some (.int .u8) := by kernel_rfl
theorem T3 : Try.prog.underlying 3 = some (.int .i64) := by kernel_rfl
theorem S5 : sizeT Try.prog 5 = some 1 := by kernel_rfl
theorem G5 : isAggT Try.prog 5 = some false := by kernel_rfl
theorem C5 : Try.prog.cellsOf 5 = 1 := by kernel_rfl
theorem G3 : isAggT Try.prog 3 = some false := by kernel_rfl
theorem G4 : isAggT Try.prog 4 = some false := by kernel_rfl
theorem S3 : sizeT Try.prog 3 = some 1 := by kernel_rfl
theorem S4 : sizeT Try.prog 4 = some 1 := by kernel_rfl
theorem G22 : isAggT Try.prog 41 = some false := by kernel_rfl
theorem S22 : sizeT Try.prog 41 = some 1 := by kernel_rfl
theorem BT : ByteT Try.prog 41 5 := ⟨T22, T5, S5, by kernel_rfl, by kernel_rfl, G5, C5⟩
def isTrue : Option (VRes × St) → Bool
  | some (.ret (.bool true), _) => true
  | _ => false
theorem isTrue_eq {o : Option (VRes × St)} (h : isTrue o = true) : ∃ σ, o = some (.ret (.bool true), σ) := by
  unfold isTrue at h
  split at h
  · exact ⟨_, rfl⟩
  · cases h
theorem wrap_nat {n : Nat} (h : n < 2 ^ 63) : IntKind.i64.wrap (n : Int) = n := wrap_i64 (by omega) (by omega)
end Go.Proofs.Ytplhelapcpcncaa.Q

/- Rows, written or not. -/
set_option linter.unusedVariables false
set_option linter.unusedSimpArgs false
set_option maxRecDepth 100000
namespace Go.Proofs.Ytplhelapcpcncaa.Q
open Go Go.RowKit Go.Proofs
/-- w is a row of n elements of k cells each; it may be a part of an object. -/
def RowS (σ : St) (k : Nat) (w : V) (cs : List V) (n : Nat) : Prop := RowV k w cs n ∨ (cs.length = n * k ∧ ∃ r off c, w = .hslice r off k n ∧ σ.objs[r]? = some (.cells c) ∧ off + n * k ≤ c.length ∧ (c.drop off).take (n * k) = cs)
section
variable {σ : St} {k n : Nat} {w : V} {cs : List V}
theorem RowS.keep {σ' : St} (h : RowS σ k w cs n) (hk : Keep σ σ') : RowS σ' k w cs n := by
  rcases h with h | ⟨h0, r, off, c, h1, h2, h3⟩
  · exact .inl h
  · exact .inr ⟨h0, r, off, c, h1, hk.1 _ _ h2, h3⟩
theorem RowS.size (h : RowS σ k w cs n) : cs.length = n * k := by
  rcases h with h | ⟨h0, _⟩
  · exact h.1
  · exact h0
theorem RowS.one (h : RowS σ k w cs n) : one w = true := by
  rcases h with h | ⟨h0, r, off, c, rfl, _⟩
  · exact h.one
  · rfl
theorem RowS.len (h : RowS σ k w cs n) {t e : TypeId} (ht : Try.prog.underlying t = some (.slice e)) : vlen Try.prog t w = some (.int .i64 (n : Nat)) := by
  rcases h with h | ⟨h0, r, off, c, rfl, _⟩
  · exact h.len ht
  · simp [vlen, ht]
/-- The place of an element: what may be read there. -/
def At (σ : St) (p : V) (c : List V) : Prop := (∃ cs o, p = .eptr cs o ∧ o + c.length ≤ cs.length ∧ (cs.drop o).take c.length = c) ∨ ∃ r o cs, p = .optr r o ∧ σ.objs[r]? = some (.cells cs) ∧ o + c.length ≤ cs.length ∧ (cs.drop o).take c.length = c
theorem RowS.at (h : RowS σ k w cs n) {t e : TypeId} (ht : Try.prog.underlying t = some (.slice e)) (hs : sizeT Try.prog e = some k) (hk : 0 < k) {i : Nat} (hi : i < n) {kk : IntKind} :
    ∃ p, vindexAddr Try.prog t w (.int kk (i : Int)) = some p ∧ At σ p ((cs.drop (i * k)).take k) := by
  have hsz := h.size
  have hle : i * k + k ≤ n * k := by
    have : (i + 1) * k ≤ n * k := Nat.mul_le_mul_right k hi
    rwa [Nat.add_mul, Nat.one_mul] at this
  have hpl : ((cs.drop (i * k)).take k).length = k := by rw [List.length_take, List.length_drop]; omega
  rcases h with h | ⟨h0, r, off, c, rfl, h2, h3, h4⟩
  · refine ⟨_, RowV.addr h ht hs hk (kk := kk) (i := (i : Int)) (by omega) (by omega), .inl ⟨cs, i * k, by rw [Int.toNat_natCast], by rw [hpl]; omega, by rw [hpl]⟩⟩
  · have hi' : (i : Int) < n := by omega
    refine ⟨.optr r (off + i * k), by simp [vindexAddr, ht, hs, hi'], .inr ⟨r, _, c, rfl, h2, by rw [hpl]; omega, ?_⟩⟩
    rw [hpl, ← h4, List.drop_take, List.drop_drop, List.take_take]
    congr 1
    omega
theorem At.keep {σ' : St} {p : V} {c : List V} (h : At σ p c) (hk : Keep σ σ') : At σ' p c := by
  rcases h with h | ⟨r, o, cs, h1, h2, h3⟩
  · exact .inl h
  · exact .inr ⟨r, o, cs, h1, hk.1 _ _ h2, h3⟩
theorem At.load {p : V} {c : List V} (h : At σ p c) {e : TypeId} (ha : isAggT Try.prog e = some true) (hs : sizeT Try.prog e = some c.length) : vload Try.prog σ.objs e p = some (.agg c) := by
  rcases h with ⟨cs, o, rfl, h1, h2⟩ | ⟨r, o, cs, rfl, hr, h1, h2⟩
  · simp only [vload, vcellsAt, vpart, ha, hs, if_pos h1, h2]
  · simp only [vload, vcellsAt, hr, vpart, ha, hs, if_pos h1, h2]
theorem At.load1 {p : V} {v : V} (h : At σ p [v]) {e : TypeId} (ha : isAggT Try.prog e = some false) : vload Try.prog σ.objs e p = some v := by
  have key : ∀ (cs : List V) (o : Nat), o + 1 ≤ cs.length → (cs.drop o).take 1 = [v] → cs[o]? = some v := by
    intro cs o h1 h2
    have := congrArg (·[0]?) h2
    simpa using this
  rcases h with ⟨cs, o, rfl, h1, h2⟩ | ⟨r, o, cs, rfl, hr, h1, h2⟩
  · simp only [vload, vcellsAt, vpart, ha]; exact key cs o h1 h2
  · simp only [vload, vcellsAt, hr, vpart, ha]; exact key cs o h1 h2
/-- A cell of what lies there. -/
theorem At.part {p : V} {c : List V} (h : At σ p c) {j m : Nat} (hj : j + m ≤ c.length) : ∃ p', (∀ (e : TypeId) (f : Nat), (∀ q o, vfieldAddr Try.prog e (.optr q o) f = some (.optr q (o + j))) → (∀ cs o, vfieldAddr Try.prog e (.eptr cs o) f = some (.eptr cs (o + j))) → vfieldAddr Try.prog e p f = some p') ∧ At σ p' ((c.drop j).take m) := by
  have hpl : ((c.drop j).take m).length = m := by rw [List.length_take, List.length_drop]; omega
  have cut : ∀ (cs : List V) (o : Nat), o + c.length ≤ cs.length → (cs.drop o).take c.length = c → (cs.drop (o + j)).take m = (c.drop j).take m := by
    intro cs o h1 h2
    have h3 : c.drop j = ((cs.drop o).take c.length).drop j := by rw [h2]
    rw [h3, List.drop_take, List.drop_drop, List.take_take]
    congr 1
    omega
  rcases h with ⟨cs, o, rfl, h1, h2⟩ | ⟨r, o, cs, rfl, hr, h1, h2⟩
  · exact ⟨.eptr cs (o + j), fun e f _ h => h cs o, .inl ⟨cs, o + j, rfl, by rw [hpl]; omega, by rw [hpl]; exact cut cs o h1 h2⟩⟩
  · exact ⟨.optr r (o + j), fun e f h _ => h r o, .inr ⟨r, o + j, cs, rfl, hr, by rw [hpl]; omega, by rw [hpl]; exact cut cs o h1 h2⟩⟩
end
end Go.Proofs.Ytplhelapcpcncaa.Q

set_option linter.unusedVariables false
set_option linter.unusedSimpArgs false
namespace Go.Proofs.Ytplhelapcpcncaa.Q
open Go Go.RowKit Go.Proofs
/-- A value: kind, number, text, parts. -/
inductive Val where
  | mk (kind num : Int) (text : List UInt8) (list : List Val)
mutual
/-- These cells are the value. -/
inductive ValC : Val → List V → Prop
  | mk {k n : Int} {t : List UInt8} {l : List Val} {w : V} : InI64 k → InI64 n → ValsW l w → ValC (.mk k n t l) [.int .i64 k, .int .i64 n, .str t, w]
/-- This slice is the list of values. -/
inductive ValsW : List Val → V → Prop
  | nil : ValsW [] .nils
  | row {l : List Val} {cs : List V} {p : Perm} : ValsC l cs → ValsW l (.slice p 4 cs l.length)
inductive ValsC : List Val → List V → Prop
  | nil : ValsC [] []
  | cons {v : Val} {c : List V} {l : List Val} {cs : List V} : ValC v c → ValsC l cs → ValsC (v :: l) (c ++ cs)
end
theorem ValC.inv {v : Val} {c : List V} (h : ValC v c) : ∃ k n t l w, v = .mk k n t l ∧ c = [.int .i64 k, .int .i64 n, .str t, w] ∧ ValsW l w ∧ InI64 k ∧ InI64 n := by
  cases h with
  | mk h1 h2 h3 => exact ⟨_, _, _, _, _, rfl, rfl, h3, h1, h2⟩
theorem ValC.len {v : Val} {c : List V} (h : ValC v c) : c.length = 4 := by
  obtain ⟨k, n, t, l, w, rfl, rfl, _⟩ := h.inv
  rfl
theorem ValsW.one {l : List Val} {w : V} (h : ValsW l w) : one w = true := by
  cases h <;> rfl
theorem ValC.one {v : Val} {c : List V} (h : ValC v c) : c.all one = true := by
  obtain ⟨k, n, t, l, w, rfl, rfl, hw, _⟩ := h.inv
  simp only [List.all_cons, List.all_nil, hw.one]
  rfl
theorem ValsC.len : ∀ {l : List Val} {cs : List V}, ValsC l cs → cs.length = l.length * 4
  | [], _, h => by cases h; rfl
  | v :: l, _, h => by
    cases h with
    | cons h1 h2 => rw [List.length_append, h1.len, h2.len, List.length_cons]; omega
theorem ValsC.get : ∀ {l : List Val} {cs : List V}, ValsC l cs → ∀ {i : Nat} (hi : i < l.length), ValC l[i] ((cs.drop (i * 4)).take 4)
  | [], _, h, i, hi => by simp at hi
  | v :: l, _, h, i, hi => by
    cases h with
    | @cons _ c _ cs h1 h2 =>
      cases i with
      | zero =>
        have : ((c ++ cs).drop (0 * 4)).take 4 = c := by
          rw [Nat.zero_mul, List.drop_zero, ← h1.len, List.take_left]
        rw [this]
        exact h1
      | succ i =>
        have : (c ++ cs).drop ((i + 1) * 4) = cs.drop (i * 4) := by
          rw [show (i + 1) * 4 = c.length + i * 4 by rw [h1.len]; omega, List.drop_length_add_append]
        rw [this]
        exact h2.get (by simpa using hi)
theorem VT22 : Try.prog.underlying 22 = some (.slice 29) := by kernel_rfl
theorem VS24 : sizeT Try.prog 29 = some 4 := by kernel_rfl
theorem VG24 : isAggT Try.prog 29 = some true := by kernel_rfl
theorem VG22 : isAggT Try.prog 22 = some false := by kernel_rfl
theorem T9 : Try.prog.underlying 9 = some .string := by kernel_rfl
theorem G9 : isAggT Try.prog 9 = some false := by kernel_rfl
theorem S9 : sizeT Try.prog 9 = some 1 := by kernel_rfl
theorem FV0 (r n : Nat) : vfieldAddr Try.prog 29 (.optr r n) 0 = some (.optr r n) := by kernel_rfl
theorem FV1 (r n : Nat) : vfieldAddr Try.prog 29 (.optr r n) 1 = some (.optr r (n + 1)) := by kernel_rfl
theorem FV2 (r n : Nat) : vfieldAddr Try.prog 29 (.optr r n) 2 = some (.optr r (n + 2)) := by kernel_rfl
theorem FV3 (r n : Nat) : vfieldAddr Try.prog 29 (.optr r n) 3 = some (.optr r (n + 3)) := by kernel_rfl
def val0C : List V := [.int .i64 0, .int .i64 0, .str [], .nils]
theorem VZ24 : zeroT Try.prog 29 = some (.agg val0C) := by kernel_rfl
theorem vlen_str {t : TypeId} {s : List UInt8} (ht : Try.prog.underlying t = some .string) : vlen Try.prog t (.str s) = some (.int .i64 s.length) := by
  simp [vlen, ht]
theorem ValsW.len {l : List Val} {w : V} (h : ValsW l w) : vlen Try.prog 22 w = some (.int .i64 l.length) := by
  cases h <;> simp [vlen, VT22]
/-- A part of it. -/
theorem ValsW.get {l : List Val} {w : V} (h : ValsW l w) {i : Nat} (hi : i < l.length) : ∃ cs c, vindexAddr Try.prog 22 w (.int .i64 i) = some (.eptr cs (i * 4)) ∧ (∀ objs, vload Try.prog objs 29 (.eptr cs (i * 4)) = some (.agg c)) ∧ ValC l[i] c := by
  cases h with
  | nil => simp at hi
  | @row _ cs p h =>
    have hl := h.len
    have hne : cs ≠ [] := by
      rintro rfl
      simp only [List.length_nil] at hl
      omega
    refine ⟨cs, _, ?_, fun objs => ?_, h.get hi⟩
    · simp [vindexAddr, VT22, VS24, hi, hne]
    · have : i * 4 + 4 ≤ cs.length := by omega
      simp [vload, vcellsAt, vpart, VG24, VS24, this]
/-- An object that is a value. -/
def IsV (σ : St) (q : Nat) (c : List V) : Prop := σ.objs[q]? = some (.cells c)
section
variable {σ : St} {q : Nat} {k n : Int} {t : List UInt8} {w : V}
theorem IsV.kind (h : IsV σ q [.int .i64 k, .int .i64 n, .str t, w]) : vload Try.prog σ.objs 3 (.optr q 0) = some (.int .i64 k) := by rw [vload_obj h G3]; rfl
theorem IsV.num (h : IsV σ q [.int .i64 k, .int .i64 n, .str t, w]) : vload Try.prog σ.objs 3 (.optr q 1) = some (.int .i64 n) := by rw [vload_obj h G3]; rfl
theorem IsV.text (h : IsV σ q [.int .i64 k, .int .i64 n, .str t, w]) : vload Try.prog σ.objs 9 (.optr q 2) = some (.str t) := by rw [vload_obj h G9]; rfl
theorem IsV.list (h : IsV σ q [.int .i64 k, .int .i64 n, .str t, w]) : vload Try.prog σ.objs 22 (.optr q 3) = some w := by rw [vload_obj h VG22]; rfl
end
theorem IsV.load {σ : St} {q : Nat} {c : List V} (h : IsV σ q c) (hc : c.length = 4) : vload Try.prog σ.objs 29 (.optr q 0) = some (.agg c) := vload_agg h VG24 (by rw [hc]; exact VS24)
theorem IsV.new {σ : St} {o c : List V} (hc : c.length = 4) (ho : o.length = 4) (h1 : c.all one = true) : vstore Try.prog ⟨σ.objs ++ [Ob.cells o], σ.toks⟩ 29 (.optr σ.objs.length 0) (.agg c) = some ⟨(σ.objs ++ [Ob.cells o]).set σ.objs.length (Ob.cells c), σ.toks⟩ :=
  vstore_agg (push_new _ _) (by rw [hc]; exact VS24) (by rw [hc, ho]) h1
theorem IsV.made {σ : St} {o c : List V} : IsV ⟨(σ.objs ++ [Ob.cells o]).set σ.objs.length (Ob.cells c), σ.toks⟩ σ.objs.length c := obj_set (push_new _ _)
theorem Keep.madeV {σ0 σ : St} (h : Keep σ0 σ) (o c : List V) : Keep σ0 ⟨(σ.objs ++ [Ob.cells o]).set σ.objs.length (Ob.cells c), σ.toks⟩ :=
  h.trans (((Keep.refl σ).push (.cells o)).setNew (Nat.le_refl _) _)
theorem Keep.atV {σ σ' : St} (h : Keep σ σ') {q : Nat} {c : List V} (hq : IsV σ q c) : IsV σ' q c := h.1 _ _ hq
mutual
def weight : Val → Nat
  | .mk _ _ t l => 1 + t.length + weights l
def weights : List Val → Nat
  | [] => 0
  | v :: l => weight v + weights l
end
theorem weights_mem : ∀ {l : List Val} {v : Val}, v ∈ l → weight v ≤ weights l
  | [], v, h => by cases h
  | a :: l, v, h => by
    rw [weights]
    rcases List.mem_cons.1 h with rfl | h
    · omega
    · have := weights_mem h; omega
theorem weights_append (a b : List Val) : weights (a ++ b) = weights a + weights b := by
  induction a with
  | nil => simp [weights]
  | cons v a ih => rw [List.cons_append, weights, weights, ih]; omega
theorem weights_take_succ {l : List Val} {i : Nat} (h : i < l.length) : weights (l.take (i + 1)) = weights (l.take i) + weight l[i] := by
  rw [List.take_succ_eq_append_getElem h, weights_append]
  simp [weights]
theorem weights_take_le (l : List Val) (i : Nat) : weights (l.take i) ≤ weights l := by
  have := weights_append (l.take i) (l.drop i)
  rw [List.take_append_drop] at this
  omega
theorem weight_pos (v : Val) : 0 < weight v := by
  cases v; rw [weight]; omega
theorem weights_len : ∀ l : List Val, l.length ≤ weights l
  | [] => by simp
  | v :: l => by
    have := weights_len l
    have := weight_pos v
    rw [weights, List.length_cons]; omega
theorem ValC.bulk : ∀ (n : Nat) {v : Val} {c : List V}, weight v ≤ n → ValC v c → weight v ≤ vbulks c
  | 0, v, c, hn, h => by have := weight_pos v; omega
  | n + 1, v, c, hn, h => by
    obtain ⟨k, m, t, l, w, rfl, rfl, hw, _⟩ := h.inv
    rw [weight] at hn ⊢
    have rows : ∀ {l : List Val} {cs : List V}, weights l ≤ n → ValsC l cs → weights l ≤ vbulks cs := by
      intro l
      induction l with
      | nil => intro cs _ h; simp [weights]
      | cons v l ih =>
        intro cs hl h
        cases h with
        | cons h1 h2 =>
          rw [weights] at hl ⊢
          have h3 := ValC.bulk n (by omega) h1
          have h4 := ih (by omega) h2
          rw [vbulks_append]
          omega
    cases hw with
    | nil => simp [weights, vbulks, vbulk]; omega
    | row hc =>
      have := rows (by omega) hc
      simp only [vbulks, vbulk]
      omega
theorem FOV : fieldsOf Try.prog 29 = [(3, 0), (3, 1), (9, 2), (22, 3)] := by kernel_rfl
theorem CO3 : Try.prog.cellsOf 3 = 1 := by kernel_rfl
theorem CO9 : Try.prog.cellsOf 9 = 1 := by kernel_rfl
theorem CO22 : Try.prog.cellsOf 22 = 1 := by kernel_rfl
theorem CO24 : Try.prog.cellsOf 29 = 4 := by kernel_rfl
theorem one_of {cs : List V} {i : Nat} {v : V} (h : (cs.drop i).take 1 = [v]) : cs[i]? = some v := by
  have : ((cs.drop i).take 1)[0]? = some v := by rw [h]; rfl
  simpa using this
theorem list_ext4 {cs : List V} {a b c d : V} (hl : cs.length = 4) (h0 : cs[0]? = some a) (h1 : cs[1]? = some b) (h2 : cs[2]? = some c) (h3 : cs[3]? = some d) : cs = [a, b, c, d] := by
  match cs, hl with
  | [x0, x1, x2, x3], _ => simp at h0 h1 h2 h3; simp [h0, h1, h2, h3]
set_option maxRecDepth 100000 in
theorem val_VT' (K : Nat) : ∀ k, k ≤ K → ∀ {cs : List V}, VT Try.prog k 29 cs → ∃ v, ValC v cs := by
  induction K with
  | zero =>
    intro k hk cs h
    have : k = 0 := by omega
    subst this
    exact h.elim
  | succ K ihK =>
    intro k hk cs h
    cases k with
    | zero => exact h.elim
    | succ k =>
      have hS : cs.length = Try.prog.cellsOf 29 ∧ ∀ q ∈ [(3, 0), (3, 1), (9, 2), (22, 3)], VT Try.prog k q.1 ((cs.drop q.2).take (Try.prog.cellsOf q.1)) := by
        have hu := FOV
        unfold fieldsOf at hu
        split at hu
        · rename_i fs hf
          split at hu
          · cases hu
          · simp only [VT, hf] at h
            refine ⟨h.1, fun q hq => ?_⟩
            rw [← hu, List.mem_map] at hq
            obtain ⟨f, hfm, rfl⟩ := hq
            exact h.2 f hfm
        · cases hu
      obtain ⟨hl, hf⟩ := hS
      rw [CO24] at hl
      simp only [List.mem_cons, List.not_mem_nil, or_false, forall_eq_or_imp, forall_eq, CO3, CO9, CO22] at hf
      obtain ⟨f0, f1, f2, f3⟩ := hf
      obtain ⟨a, h0, w0⟩ := VT_int T3 f0
      obtain ⟨b, h1, w1⟩ := VT_int T3 f1
      obtain ⟨s, h2, w2⟩ := VT_str T9 f2
      have hlist : ∃ l w, (cs.drop 3).take 1 = [w] ∧ ValsW l w := by
        cases k with
        | zero => exact f3.elim
        | succ k =>
          simp only [VT, VT22, CO24] at f3
          rcases f3 with h | ⟨vs, len, h, h4, h5, h6⟩
          · exact ⟨[], .nils, h, .nil⟩
          · have rows : ∀ (len : Nat) (vs : List V), vs.length = len * 4 → (∀ i, i < len → VT Try.prog k 29 ((vs.drop (i * 4)).take 4)) → ∃ l, l.length = len ∧ ValsC l vs := by
              intro len
              induction len with
              | zero => 
                intro vs hv _
                have h0 : vs = [] := List.length_eq_zero_iff.1 (by simpa using hv)
                subst h0
                exact ⟨[], rfl, .nil⟩
              | succ len ih =>
                intro vs hv hi
                have hv0 := hi 0 (by omega)
                rw [Nat.zero_mul, List.drop_zero] at hv0
                obtain ⟨v, hvC⟩ := ihK k (by omega) hv0
                obtain ⟨l, hl, hlC⟩ := ih (vs.drop 4) (by rw [List.length_drop, hv]; omega) fun i hlt => by
                  have := hi (i + 1) (by omega)
                  rwa [show (i + 1) * 4 = 4 + i * 4 by omega, ← List.drop_drop] at this
                refine ⟨v :: l, by simp [hl], ?_⟩
                have := ValsC.cons hvC hlC
                rwa [List.take_append_drop] at this
            obtain ⟨l, hl, hlC⟩ := rows len vs h4 h6
            subst hl
            exact ⟨l, _, h, .row hlC⟩
      obtain ⟨l, w, h3, hw⟩ := hlist
      refine ⟨.mk a b s l, ?_⟩
      have : cs = [.int .i64 a, .int .i64 b, .str s, w] := list_ext4 hl (one_of h0) (one_of h1) (one_of h2) (one_of h3)
      rw [this]
      exact .mk (InI64_of w0) (InI64_of w1) hw
theorem val_VT (k : Nat) {cs : List V} (h : VT Try.prog k 29 cs) : ∃ v, ValC v cs := val_VT' k k (Nat.le_refl _) h
end Go.Proofs.Ytplhelapcpcncaa.Q

/- Modules of code as values; what an instruction pops and pushes. -/
set_option linter.unusedVariables false
set_option linter.unusedSimpArgs false
set_option maxRecDepth 100000
namespace Go.Proofs.Ytplhelapcpcncaa.Q
open Go Go.RowKit Go.Proofs
structure Ins where
  op : Int
  a : Int
  deriving DecidableEq
structure Fun where
  params : Int
  locals : Int
  zero : Int
  stack : Int
  code : List Ins
structure Mdl where
  consts : List Val
  funcs : List Fun
def insC (i : Ins) : List V := [.int .i64 i.op, .int .i64 i.a]
theorem insC_len (i : Ins) : (insC i).length = 2 := rfl
def CodeS (σ : St) (w : V) (l : List Ins) : Prop := RowS σ 2 w (l.flatMap insC) l.length
def FunS (σ : St) (f : Fun) (c : List V) : Prop := ∃ w, c = [.int .i64 f.params, .int .i64 f.locals, .int .i64 f.zero, .int .i64 f.stack, w] ∧ CodeS σ w f.code
def FunsS (σ : St) (w : V) (l : List Fun) : Prop := ∃ cs, RowS σ 5 w cs l.length ∧ ∀ (i : Nat) (h : i < l.length), FunS σ l[i] ((cs.drop (i * 5)).take 5)
def MdlS (σ : St) (m : Mdl) (c : List V) : Prop := ∃ w1 w2, c = [w1, w2] ∧ ValsW m.consts w1 ∧ FunsS σ w2 m.funcs
theorem FunS.keep {σ σ' : St} {f : Fun} {c : List V} (h : FunS σ f c) (hk : Keep σ σ') : FunS σ' f c := let ⟨w, h1, h2⟩ := h; ⟨w, h1, RowS.keep h2 hk⟩
theorem FunsS.keep {σ σ' : St} {w : V} {l : List Fun} (h : FunsS σ w l) (hk : Keep σ σ') : FunsS σ' w l := let ⟨cs, h1, h2⟩ := h; ⟨cs, h1.keep hk, fun i hi => (h2 i hi).keep hk⟩
theorem MdlS.keep {σ σ' : St} {m : Mdl} {c : List V} (h : MdlS σ m c) (hk : Keep σ σ') : MdlS σ' m c := let ⟨w1, w2, h1, h2, h3⟩ := h; ⟨w1, w2, h1, h2, h3.keep hk⟩
theorem FunS.len {σ : St} {f : Fun} {c : List V} (h : FunS σ f c) : c.length = 5 := by obtain ⟨w, rfl, _⟩ := h; rfl
theorem FunS.one {σ : St} {f : Fun} {c : List V} (h : FunS σ f c) : c.all one = true := by
  obtain ⟨w, rfl, h2⟩ := h
  simp only [List.all_cons, List.all_nil, RowS.one h2]
  rfl
theorem MdlS.len {σ : St} {m : Mdl} {c : List V} (h : MdlS σ m c) : c.length = 2 := by obtain ⟨w1, w2, rfl, _⟩ := h; rfl
theorem MS : sizeT Try.prog 25 = some 2 := by kernel_rfl
theorem MG : isAggT Try.prog 25 = some true := by kernel_rfl
theorem FS : sizeT Try.prog 37 = some 5 := by kernel_rfl
theorem FG : isAggT Try.prog 37 = some true := by kernel_rfl
theorem NS : sizeT Try.prog 39 = some 2 := by kernel_rfl
theorem NG : isAggT Try.prog 39 = some true := by kernel_rfl
theorem FT : Try.prog.underlying 23 = some (.slice 37) := by kernel_rfl
theorem NT : Try.prog.underlying 35 = some (.slice 39) := by kernel_rfl
theorem FsG : isAggT Try.prog 23 = some false := by kernel_rfl
theorem NsG : isAggT Try.prog 35 = some false := by kernel_rfl
theorem VsG : isAggT Try.prog 22 = some false := by kernel_rfl
theorem MF0 (r o : Nat) : vfieldAddr Try.prog 25 (.optr r o) 0 = some (.optr r o) := by kernel_rfl
theorem MF1 (r o : Nat) : vfieldAddr Try.prog 25 (.optr r o) 1 = some (.optr r (o + 1)) := by kernel_rfl
theorem NF0 (r o : Nat) : vfieldAddr Try.prog 39 (.optr r o) 0 = some (.optr r o) := by kernel_rfl
theorem NF1 (r o : Nat) : vfieldAddr Try.prog 39 (.optr r o) 1 = some (.optr r (o + 1)) := by kernel_rfl
theorem FFp (r o : Nat) : vfieldAddr Try.prog 37 (.optr r o) 0 = some (.optr r o) := by kernel_rfl
theorem FFe (cs : List V) (o : Nat) : vfieldAddr Try.prog 37 (.eptr cs o) 0 = some (.eptr cs o) := by kernel_rfl
/-- What an instruction pops and pushes. -/
def popS (m : Mdl) (i : Ins) : Int := if i.op ∈ ([3, 5, 6, 8, 10, 13, 14, 15, 16] : List Int) then 1 else if i.op ∈ ([12, 17, 18, 19, 21] : List Int) then 2 else if i.op = 20 then 3 else if i.op = 9 then ((m.funcs[i.a.toNat]?).map (·.params)).getD 0 else 0
def pushS (i : Ins) : Int := if i.op ∈ ([1, 2, 4, 9, 12, 13, 14, 15, 16, 17, 18, 19, 20, 21] : List Int) then 1 else 0
/-- A call's function is there. -/
def callOk (m : Mdl) (i : Ins) : Prop := i.op = 9 → 0 ≤ i.a ∧ i.a < m.funcs.length
theorem params_at {σ : St} {w : V} {l : List Fun} (h : FunsS σ w l) {a : Int} (h0 : 0 ≤ a) (h1 : a < l.length) : ∃ p, vindexAddr Try.prog 23 w (.int .i64 a) = some p ∧ vfieldAddr Try.prog 37 p 0 = some p ∧ ∀ σ', Keep σ σ' → vload Try.prog σ'.objs 3 p = some (.int .i64 (((l[a.toNat]?).map (·.params)).getD 0)) := by
  obtain ⟨cs, hr, hf⟩ := h
  obtain ⟨n, rfl⟩ : ∃ n : Nat, a = (n : Int) := ⟨a.toNat, by omega⟩
  have hn : n < l.length := by omega
  obtain ⟨p, hp, hat⟩ := hr.at FT FS (by omega) hn (kk := .i64)
  obtain ⟨w', hc, _⟩ := hf n hn
  obtain ⟨p', hp', hat'⟩ := hat.part (j := 0) (m := 1) (by rw [hc]; simp)
  have hpp := hp' 37 0 (fun q o => by rw [FFp]; rfl) (fun cs o => by rw [FFe]; rfl)
  have hself : vfieldAddr Try.prog 37 p 0 = some p := by
    rcases hat with ⟨cs2, o, rfl, _⟩ | ⟨r, o, cs2, rfl, _⟩
    · exact FFe _ _
    · exact FFp _ _
  have : p' = p := by rw [hself] at hpp; injection hpp with e; exact e.symm
  subst this
  refine ⟨p', hp, hself, fun σ' hk => ?_⟩
  rw [hc] at hat'
  have := (hat'.keep hk).load1 (v := .int .i64 (l[n]).params) G3
  rw [this, Int.toNat_natCast, List.getElem?_eq_getElem hn]
  rfl
theorem ins_cases {o : Int} (h : 1 ≤ o ∧ o ≤ 21) : o = 1 ∨ o = 2 ∨ o = 3 ∨ o = 4 ∨ o = 5 ∨ o = 6 ∨ o = 7 ∨ o = 8 ∨ o = 9 ∨ o = 10 ∨ o = 11 ∨ o = 12 ∨ o = 13 ∨ o = 14 ∨ o = 15 ∨ o = 16 ∨ o = 17 ∨ o = 18 ∨ o = 19 ∨ o = 20 ∨ o = 21 := by omega
set_option maxRecDepth 100000 in
theorem effect_does {σ : St} {m : Mdl} {c : List V} (hm : MdlS σ m c) (i : Ins) (hi : callOk m i) : ∃ σ', Does Try.prog prims 45 [.agg c, .agg (insC i)] σ (.ret (.tuple [.int .i64 (popS m i), .int .i64 (pushS i)])) σ' ∧ Keep σ σ' := by
  have key : ∃ q σ', Does Try.prog prims 45 [.agg c, .agg (insC i)] σ q σ' ∧ q = .ret (.tuple [.int .i64 (popS m i), .int .i64 (pushS i)]) ∧ Keep σ σ' := by
    apply k45_is.does (by simp)
    obtain ⟨w1, w2, hc, hv, hf⟩ := hm
    obtain ⟨s1, hs1⟩ : ∃ s1 : St, s1 = ⟨(σ.objs ++ [Ob.cells c]) ++ [Ob.cells (insC i)], σ.toks⟩ := ⟨_, rfl⟩
    have k1 : Keep σ s1 := by rw [hs1]; exact ((Keep.refl σ).push _).push _
    have o1 : s1.objs[σ.objs.length]? = some (.cells [w1, w2]) := by rw [hs1, ← hc]; simp
    have o2 : s1.objs[σ.objs.length + 1]? = some (.cells (insC i)) := by rw [hs1]; simp
    have ld0 : vload Try.prog s1.objs 3 (.optr (σ.objs.length + 1) 0) = some (.int .i64 i.op) := by rw [vload_obj o2 G3]; rfl
    have ld1 : vload Try.prog s1.objs 3 (.optr (σ.objs.length + 1) 1) = some (.int .i64 i.a) := by rw [vload_obj o2 G3]; rfl
    have ldf : vload Try.prog s1.objs 23 (.optr σ.objs.length 1) = some w2 := by rw [vload_obj o1 FsG]; rfl
    have hlen : (σ.objs ++ [Ob.cells c]).length = σ.objs.length + 1 := by simp
    obtain ⟨o, a⟩ := i
    by_cases ho : 1 ≤ o ∧ o ≤ 21
    · by_cases h9 : o = 9
      · subst h9
        obtain ⟨p, hp, hpf, hpl⟩ := params_at hf (hi rfl).1 (hi rfl).2
        have hl := hpl s1 k1
        simp only [k45_a, WK, vop, evAll, evOpt, evParts, vbuiltin, vun, vextract, Nat.reduceLT, Nat.reduceEqDiff, ↓reduceIte, reduceCtorEq, Nat.reduceAdd, Int.reduceLT, Int.reduceNeg, valloc_std, noSB, vhot, vbox, vcells, hlen, ← hs1, NF0, NF1, MF1, ld0, ld1, ldf, Int.reduceEq, hp, hpf, hl]
        refine ⟨?_, k1⟩
        simp [popS, pushS]
      · rcases ins_cases ho with rfl | rfl | rfl | rfl | rfl | rfl | rfl | rfl | rfl | rfl | rfl | rfl | rfl | rfl | rfl | rfl | rfl | rfl | rfl | rfl | rfl <;>
        first
        | exact absurd rfl h9
        | (simp only [k45_a, WK, vop, evAll, evOpt, evParts, vbuiltin, vun, vextract, Nat.reduceLT, Nat.reduceEqDiff, ↓reduceIte, reduceCtorEq, Nat.reduceAdd, Int.reduceLT, Int.reduceNeg, valloc_std, noSB, vhot, vbox, vcells, hlen, ← hs1, NF0, NF1, MF1, ld0, Int.reduceEq]
           refine ⟨?_, k1⟩
           simp [popS, pushS])
    · have ne : ∀ k : Int, 1 ≤ k → k ≤ 21 → (o = k) = False := fun k h1 h2 => eq_false fun e => ho (by omega)
      simp only [k45_a, WK, vop, evAll, evOpt, evParts, vbuiltin, vun, vextract, Nat.reduceLT, Nat.reduceEqDiff, ↓reduceIte, reduceCtorEq, Nat.reduceAdd, Int.reduceLT, Int.reduceNeg, valloc_std, noSB, vhot, vbox, vcells, hlen, ← hs1, NF0, NF1, MF1, ld0, ne 1 (by decide) (by decide), ne 2 (by decide) (by decide), ne 3 (by decide) (by decide), ne 4 (by decide) (by decide), ne 5 (by decide) (by decide), ne 6 (by decide) (by decide), ne 7 (by decide) (by decide), ne 8 (by decide) (by decide), ne 9 (by decide) (by decide), ne 10 (by decide) (by decide), ne 12 (by decide) (by decide), ne 13 (by decide) (by decide), ne 14 (by decide) (by decide), ne 15 (by decide) (by decide), ne 16 (by decide) (by decide), ne 17 (by decide) (by decide), ne 18 (by decide) (by decide), ne 19 (by decide) (by decide), ne 20 (by decide) (by decide), ne 21 (by decide) (by decide)]
      refine ⟨?_, k1⟩
      have e : ∀ l : List Int, (∀ x ∈ l, 1 ≤ x ∧ x ≤ 21) → ¬ o ∈ l := fun l h hm => ho (h o hm)
      simp only [popS, pushS]
      rw [if_neg (e _ (by decide)), if_neg (e _ (by decide)), if_neg (fun h => ho (by omega)), if_neg (fun h => ho (by omega)), if_neg (e _ (by decide))]
  obtain ⟨q, σ', h1, rfl, h2⟩ := key
  exact ⟨σ', h1, h2⟩
end Go.Proofs.Ytplhelapcpcncaa.Q

/- Maps from numbers to numbers; what the document says an instruction pops and pushes; which numbers are right. -/
set_option linter.unusedVariables false
set_option linter.unusedSimpArgs false
set_option maxRecDepth 100000
namespace Go.Proofs.Ytplhelapcpcncaa.Q
open Go Go.RowKit Go.Proofs
theorem pops_does {σ : St} {m : Mdl} {c : List V} (hm : MdlS σ m c) (i : Ins) (hi : callOk m i) : ∃ σ', Does Try.prog prims 46 [.agg c, .agg (insC i)] σ (.ret (.int .i64 (popS m i))) σ' ∧ Keep σ σ' := by
  have key : ∃ q σ', Does Try.prog prims 46 [.agg c, .agg (insC i)] σ q σ' ∧ q = .ret (.int .i64 (popS m i)) ∧ Keep σ σ' := by
    apply k46_is.does (by simp)
    obtain ⟨w1, w2, hc, hv, hf⟩ := hm
    obtain ⟨s1, hs1⟩ : ∃ s1 : St, s1 = ⟨(σ.objs ++ [Ob.cells c]) ++ [Ob.cells (insC i)], σ.toks⟩ := ⟨_, rfl⟩
    have k1 : Keep σ s1 := by rw [hs1]; exact ((Keep.refl σ).push _).push _
    have o1 : s1.objs[σ.objs.length]? = some (.cells [w1, w2]) := by rw [hs1, ← hc]; simp
    have o2 : s1.objs[σ.objs.length + 1]? = some (.cells (insC i)) := by rw [hs1]; simp
    have ld0 : vload Try.prog s1.objs 3 (.optr (σ.objs.length + 1) 0) = some (.int .i64 i.op) := by rw [vload_obj o2 G3]; rfl
    have ld1 : vload Try.prog s1.objs 3 (.optr (σ.objs.length + 1) 1) = some (.int .i64 i.a) := by rw [vload_obj o2 G3]; rfl
    have ldf : vload Try.prog s1.objs 23 (.optr σ.objs.length 1) = some w2 := by rw [vload_obj o1 FsG]; rfl
    have hlen : (σ.objs ++ [Ob.cells c]).length = σ.objs.length + 1 := by simp
    obtain ⟨o, a⟩ := i
    by_cases ho : 1 ≤ o ∧ o ≤ 21
    · by_cases h9 : o = 9
      · subst h9
        obtain ⟨p, hp, hpf, hpl⟩ := params_at hf (hi rfl).1 (hi rfl).2
        have hl := hpl s1 k1
        simp only [k46_a, WK, vop, evAll, evOpt, evParts, vbuiltin, vun, vextract, Nat.reduceLT, Nat.reduceEqDiff, ↓reduceIte, reduceCtorEq, Nat.reduceAdd, Int.reduceLT, Int.reduceNeg, valloc_std, noSB, vhot, vbox, vcells, hlen, ← hs1, NF0, NF1, MF1, ld0, ld1, ldf, Int.reduceEq, hp, hpf, hl]
        refine ⟨?_, k1⟩
        simp [popS]
      · rcases ins_cases ho with rfl | rfl | rfl | rfl | rfl | rfl | rfl | rfl | rfl | rfl | rfl | rfl | rfl | rfl | rfl | rfl | rfl | rfl | rfl | rfl | rfl <;>
        first
        | exact absurd rfl h9
        | (simp only [k46_a, WK, vop, evAll, evOpt, evParts, vbuiltin, vun, vextract, Nat.reduceLT, Nat.reduceEqDiff, ↓reduceIte, reduceCtorEq, Nat.reduceAdd, Int.reduceLT, Int.reduceNeg, valloc_std, noSB, vhot, vbox, vcells, hlen, ← hs1, NF0, NF1, MF1, ld0, Int.reduceEq]
           refine ⟨?_, k1⟩
           simp [popS])
    · have ne : ∀ k : Int, 1 ≤ k → k ≤ 21 → (o = k) = False := fun k h1 h2 => eq_false fun e => ho (by omega)
      simp only [k46_a, WK, vop, evAll, evOpt, evParts, vbuiltin, vun, vextract, Nat.reduceLT, Nat.reduceEqDiff, ↓reduceIte, reduceCtorEq, Nat.reduceAdd, Int.reduceLT, Int.reduceNeg, valloc_std, noSB, vhot, vbox, vcells, hlen, ← hs1, NF0, NF1, MF1, ld0, ne 3 (by decide) (by decide), ne 5 (by decide) (by decide), ne 6 (by decide) (by decide), ne 8 (by decide) (by decide), ne 9 (by decide) (by decide), ne 10 (by decide) (by decide), ne 12 (by decide) (by decide), ne 13 (by decide) (by decide), ne 14 (by decide) (by decide), ne 15 (by decide) (by decide), ne 16 (by decide) (by decide), ne 17 (by decide) (by decide), ne 18 (by decide) (by decide), ne 19 (by decide) (by decide), ne 20 (by decide) (by decide), ne 21 (by decide) (by decide)]
      refine ⟨?_, k1⟩
      have e : ∀ l : List Int, (∀ x ∈ l, 1 ≤ x ∧ x ≤ 21) → ¬ o ∈ l := fun l h hm => ho (h o hm)
      simp only [popS]
      rw [if_neg (e _ (by decide)), if_neg (e _ (by decide)), if_neg (fun h => ho (by omega)), if_neg (fun h => ho (by omega))]
  obtain ⟨q, σ', h1, rfl, h2⟩ := key
  exact ⟨σ', h1, h2⟩
theorem pushes_does (σ : St) (i : Ins) : ∃ σ', Does Try.prog prims 47 [.agg (insC i)] σ (.ret (.int .i64 (pushS i))) σ' ∧ Keep σ σ' := by
  have key : ∃ q σ', Does Try.prog prims 47 [.agg (insC i)] σ q σ' ∧ q = .ret (.int .i64 (pushS i)) ∧ Keep σ σ' := by
    apply k47_is.does (by simp)
    obtain ⟨s1, hs1⟩ : ∃ s1 : St, s1 = ⟨σ.objs ++ [Ob.cells (insC i)], σ.toks⟩ := ⟨_, rfl⟩
    have k1 : Keep σ s1 := by rw [hs1]; exact (Keep.refl σ).push _
    have o2 : s1.objs[σ.objs.length]? = some (.cells (insC i)) := by rw [hs1]; simp
    have ld0 : vload Try.prog s1.objs 3 (.optr σ.objs.length 0) = some (.int .i64 i.op) := by rw [vload_obj o2 G3]; rfl
    obtain ⟨o, a⟩ := i
    by_cases ho : 1 ≤ o ∧ o ≤ 21
    · rcases ins_cases ho with rfl | rfl | rfl | rfl | rfl | rfl | rfl | rfl | rfl | rfl | rfl | rfl | rfl | rfl | rfl | rfl | rfl | rfl | rfl | rfl | rfl <;>
      (simp only [k47_a, WK, vop, evAll, evOpt, evParts, vbuiltin, vun, vextract, Nat.reduceLT, Nat.reduceEqDiff, ↓reduceIte, reduceCtorEq, Nat.reduceAdd, Int.reduceLT, Int.reduceNeg, valloc_std, noSB, vhot, vbox, vcells, ← hs1, NF0, ld0, Int.reduceEq]
       refine ⟨?_, k1⟩
       simp [pushS])
    · have ne : ∀ k : Int, 1 ≤ k → k ≤ 21 → (o = k) = False := fun k h1 h2 => eq_false fun e => ho (by omega)
      simp only [k47_a, WK, vop, evAll, evOpt, evParts, vbuiltin, vun, vextract, Nat.reduceLT, Nat.reduceEqDiff, ↓reduceIte, reduceCtorEq, Nat.reduceAdd, Int.reduceLT, Int.reduceNeg, valloc_std, noSB, vhot, vbox, vcells, ← hs1, NF0, ld0, ne 1 (by decide) (by decide), ne 2 (by decide) (by decide), ne 4 (by decide) (by decide), ne 9 (by decide) (by decide), ne 12 (by decide) (by decide), ne 13 (by decide) (by decide), ne 14 (by decide) (by decide), ne 15 (by decide) (by decide), ne 16 (by decide) (by decide), ne 17 (by decide) (by decide), ne 18 (by decide) (by decide), ne 19 (by decide) (by decide), ne 20 (by decide) (by decide), ne 21 (by decide) (by decide)]
      refine ⟨?_, k1⟩
      have e : ∀ l : List Int, (∀ x ∈ l, 1 ≤ x ∧ x ≤ 21) → ¬ o ∈ l := fun l h hm => ho (h o hm)
      simp only [pushS]
      rw [if_neg (e _ (by decide))]
  obtain ⟨q, σ', h1, rfl, h2⟩ := key
  exact ⟨σ', h1, h2⟩
/-! ### A map from numbers to numbers -/
theorem MU : Try.prog.underlying 68 = some (.map 3 3) := by kernel_rfl
theorem MK : keyDesc Try.prog 3 = some (.int .i64) := by kernel_rfl
theorem MZ : zeroT Try.prog 3 = some (.int .i64 0) := by kernel_rfl
def mpE (l : List (Int × Int)) : List (V × V) := l.map fun p => (.int .i64 p.1, .int .i64 p.2)
def lookI (l : List (Int × Int)) (k : Int) : Option Int := match l with
  | [] => none
  | p :: l => if p.1 = k then some p.2 else lookI l k
theorem vfind_mpE (k : Int) : ∀ (l : List (Int × Int)) (i : Nat), match lookI l k with
    | some v => ∃ j, vfind (.int .i64) (.int .i64 k) (mpE l) i = some (some (j, .int .i64 v))
    | none => vfind (.int .i64) (.int .i64 k) (mpE l) i = some none
  | [], i => rfl
  | p :: l, i => by
    have ih := vfind_mpE k l (i + 1)
    unfold lookI
    by_cases h : p.1 = k
    · rw [if_pos h]
      exact ⟨i, by simp [mpE, vfind, keyEq, h]⟩
    · rw [if_neg h]
      have e : vfind (.int .i64) (.int .i64 k) (mpE (p :: l)) i = vfind (.int .i64) (.int .i64 k) (mpE l) (i + 1) := by
        have h' : ¬ k = p.1 := fun e => h e.symm
        simp [mpE, vfind, keyEq, h']
      rw [e]
      exact ih
def IsMp (σ : St) (r : Nat) (l : List (Int × Int)) : Prop := σ.objs[r]? = some (.mp (mpE l))
theorem IsMp.put {σ : St} {r : Nat} {l : List (Int × Int)} (h : IsMp σ r l) {k v : Int} (hk : lookI l k = none) : ∃ σ', vmapSet Try.prog σ 68 (.omap r) (.int .i64 k) (.int .i64 v) = some σ' ∧ IsMp σ' r (l ++ [(k, v)]) ∧ KeepX r σ σ' ∧ σ'.toks = σ.toks := by
  have hf := vfind_mpE k l 0
  rw [hk] at hf
  simp only at hf
  have e : mpE l ++ [(V.int .i64 k, V.int .i64 v)] = mpE (l ++ [(k, v)]) := by simp [mpE]
  obtain ⟨σ', hs⟩ : ∃ σ' : St, σ' = ⟨σ.objs.set r (.mp (mpE (l ++ [(k, v)]))), σ.toks⟩ := ⟨_, rfl⟩
  have hlt := (List.getElem?_eq_some_iff.1 h).1
  refine ⟨σ', by simp only [vmapSet, MU, show σ.objs[r]? = some (.mp (mpE l)) from h, MK, hf, hs, e], by rw [IsMp, hs]; simp [hlt], ⟨fun q o hq ho => ?_, by rw [hs]; exact Nat.le_refl _, fun _ h => by rw [hs]; exact h⟩, by rw [hs]⟩
  rw [hs]
  simp only
  rw [List.getElem?_set_ne (Ne.symm hq)]
  exact ho
theorem IsMp.look {σ : St} {r : Nat} {l : List (Int × Int)} (h : IsMp σ r l) (k : Int) : vlookup Try.prog σ.objs 68 (.omap r) (.int .i64 k) true = some (.tuple [.int .i64 ((lookI l k).getD 0), .bool (lookI l k).isSome]) := by
  have hf := vfind_mpE k l 0
  cases hk : lookI l k with
  | none =>
    rw [hk] at hf
    simp only at hf
    simp only [vlookup, MU, show σ.objs[r]? = some (.mp (mpE l)) from h, MK, MZ, hf, if_true]
    rfl
  | some v =>
    rw [hk] at hf
    obtain ⟨j, hf⟩ := hf
    simp only [vlookup, MU, show σ.objs[r]? = some (.mp (mpE l)) from h, MK, MZ, hf, if_true]
    rfl
end Go.Proofs.Ytplhelapcpcncaa.Q

set_option linter.unusedVariables false
set_option linter.unusedSimpArgs false
set_option maxRecDepth 100000
namespace Go.Proofs.Ytplhelapcpcncaa.Q
open Go Go.RowKit Go.Proofs
def limL (m : Mdl) (st : Int) (n : Nat) (f : Fun) : List (Int × Int) := [(1, (m.consts.length : Nat)), (2, f.locals), (3, f.locals), (4, st), (5, st), (7, (f.code.length : Nat)), (8, (f.code.length : Nat)), (9, (n : Nat)), (11, 1099511627777), (12, 14)]
def rightS (m : Mdl) (st : Int) (n : Nat) (f : Fun) (i : Ins) : Bool := match lookI (limL m st n f) i.op with
  | some l => (decide (0 ≤ i.a) && decide (i.a < l)) && (!decide (i.op = 12) || decide (3 ≤ i.a))
  | none => (decide (1 ≤ i.op) && decide (i.op ≤ 21)) && decide (i.a = 0)
theorem FZ : zeroT Try.prog 37 = some (.agg [.int .i64 0, .int .i64 0, .int .i64 0, .int .i64 0, .nils]) := by kernel_rfl
theorem FF1' (r o : Nat) : vfieldAddr Try.prog 37 (.optr r o) 1 = some (.optr r (o + 1)) := by kernel_rfl
theorem FF3' (r o : Nat) : vfieldAddr Try.prog 37 (.optr r o) 3 = some (.optr r (o + 3)) := by kernel_rfl
theorem FF4' (r o : Nat) : vfieldAddr Try.prog 37 (.optr r o) 4 = some (.optr r (o + 4)) := by kernel_rfl
theorem fun_load {σ : St} {w : V} {l : List Fun} (h : FunsS σ w l) {n : Nat} (hn : n < l.length) : ∃ p cf, vindexAddr Try.prog 23 w (.int .i64 (n : Int)) = some p ∧ FunS σ l[n] cf ∧ ∀ σ', Keep σ σ' → vload Try.prog σ'.objs 37 p = some (.agg cf) := by
  obtain ⟨cs, hr, hf⟩ := h
  obtain ⟨p, hp, hat⟩ := hr.at FT FS (by omega) hn (kk := .i64)
  have h5 := (hf n hn).len
  exact ⟨p, _, hp, hf n hn, fun σ' hk => (hat.keep hk).load FG (by rw [h5]; exact FS)⟩
/-- A variable of a function's kind that gets one. -/
theorem funmade (σ : St) {f : Fun} {cf : List V} {σ0 : St} (h : FunS σ0 f cf) (hk : Keep σ0 σ) : ∃ s1 s2 w : _, s1 = (⟨σ.objs ++ [Ob.cells [.int .i64 0, .int .i64 0, .int .i64 0, .int .i64 0, .nils]], σ.toks⟩ : St) ∧ vstore Try.prog s1 37 (.optr σ.objs.length 0) (.agg cf) = some s2 ∧ Keep σ s2 ∧ s2.objs[σ.objs.length]? = some (.cells [.int .i64 f.params, .int .i64 f.locals, .int .i64 f.zero, .int .i64 f.stack, w]) ∧ CodeS σ0 w f.code ∧ s2.objs.length = σ.objs.length + 1 := by
  obtain ⟨w, hc, hw⟩ := h
  obtain ⟨s1, hs1⟩ : ∃ s1 : St, s1 = ⟨σ.objs ++ [Ob.cells [.int .i64 0, .int .i64 0, .int .i64 0, .int .i64 0, .nils]], σ.toks⟩ := ⟨_, rfl⟩
  have k1 : Keep σ s1 := by rw [hs1]; exact (Keep.refl σ).push _
  have q1 : s1.objs[σ.objs.length]? = some (.cells [.int .i64 0, .int .i64 0, .int .i64 0, .int .i64 0, .nils]) := by rw [hs1]; exact push_new _ _
  obtain ⟨s2, e⟩ : ∃ s2 : St, s2 = ⟨s1.objs.set σ.objs.length (.cells cf), s1.toks⟩ := ⟨_, rfl⟩
  obtain ⟨k, hk2⟩ := KeepX.set_eq q1 e
  refine ⟨s1, s2, w, hs1, ?_, ⟨fun q o ho => k.1 q o (by have := (List.getElem?_eq_some_iff.1 ho).1; omega) (k1.1 q o ho), Nat.le_trans k1.2.1 k.2.1, fun j hj => k.2.2 j (k1.2.2 j hj)⟩, by rw [hk2, hc], hw, by rw [e, hs1]; simp⟩
  rw [vstore_agg (cs' := cf) q1 (by rw [hc]; exact FS) (by rw [hc]; rfl) (by rw [hc]; simp only [List.all_cons, List.all_nil, RowS.one hw]; rfl), e]
theorem right_does {σ : St} {m : Mdl} {c : List V} (hm : MdlS σ m c) (st : Int) {n : Nat} (hn : n < m.funcs.length) (i : Ins) :
    ∃ σ', Does Try.prog prims 23 [.agg c, .int .i64 st, .int .i64 (n : Int), .agg (insC i)] σ (.ret (.bool (rightS m st n m.funcs[n] i))) σ' ∧ Keep σ σ' := by
  have key : ∃ q σ', Does Try.prog prims 23 [.agg c, .int .i64 st, .int .i64 (n : Int), .agg (insC i)] σ q σ' ∧ q = .ret (.bool (rightS m st n m.funcs[n] i)) ∧ Keep σ σ' := by
    apply k23_is.does (by simp)
    obtain ⟨w1, w2, hc, hv, hf⟩ := hm
    obtain ⟨s1, hs1⟩ : ∃ s1 : St, s1 = ⟨(σ.objs ++ [Ob.cells c]) ++ [Ob.cells (insC i)], σ.toks⟩ := ⟨_, rfl⟩
    have k1 : Keep σ s1 := by rw [hs1]; exact ((Keep.refl σ).push _).push _
    have o1 : s1.objs[σ.objs.length]? = some (.cells [w1, w2]) := by rw [hs1, ← hc]; simp
    have o2 : s1.objs[σ.objs.length + 1]? = some (.cells (insC i)) := by rw [hs1]; simp
    have hlen : (σ.objs ++ [Ob.cells c]).length = σ.objs.length + 1 := by simp
    have hl1 : s1.objs.length = σ.objs.length + 2 := by rw [hs1]; simp
    obtain ⟨p, cf, hp, hF, hpl⟩ := fun_load hf hn
    obtain ⟨s2, s3, wc, hs2, st3, k3, o3, hcode, hl3⟩ := funmade s1 hF k1
    obtain ⟨f, hfe⟩ : ∃ f, f = m.funcs[n] := ⟨_, rfl⟩
    rw [← hfe] at hF o3 hcode ⊢
    obtain ⟨s4, hs4⟩ : ∃ s4 : St, s4 = ⟨s3.objs ++ [Ob.mp []], s3.toks⟩ := ⟨_, rfl⟩
    have k4 : Keep s3 s4 := by rw [hs4]; exact (Keep.refl s3).push _
    have hmk : vmakeMap s3 = (.omap s3.objs.length, s4) := by rw [hs4]; rfl
    have m0 : IsMp s4 s3.objs.length [] := by rw [IsMp, hs4]; exact push_new _ _
    have ldf : vload Try.prog s1.objs 23 (.optr σ.objs.length 1) = some w2 := by rw [vload_obj o1 FsG]; rfl
    have F : ∀ s', KeepX s3.objs.length s4 s' → vload Try.prog s'.objs 22 (.optr σ.objs.length 0) = some w1 ∧ vload Try.prog s'.objs 3 (.optr s1.objs.length 1) = some (.int .i64 f.locals) ∧ vload Try.prog s'.objs 35 (.optr s1.objs.length 4) = some wc ∧ vload Try.prog s'.objs 3 (.optr (σ.objs.length + 1) 0) = some (.int .i64 i.op) ∧ vload Try.prog s'.objs 3 (.optr (σ.objs.length + 1) 1) = some (.int .i64 i.a) := by
      intro s' hk
      have e1 := hk.1 _ _ (by omega) (k4.1 _ _ (k3.1 _ _ o1))
      have e2 := hk.1 _ _ (by omega) (k4.1 _ _ (k3.1 _ _ o2))
      have e3 := hk.1 _ _ (by omega) (k4.1 _ _ o3)
      exact ⟨by rw [vload_obj e1 VsG]; rfl, by rw [vload_obj e3 G3]; rfl, by rw [vload_obj e3 NsG]; rfl, by rw [vload_obj e2 G3]; rfl, by rw [vload_obj e2 G3]; rfl⟩
    have lv := hv.len
    have lc : vlen Try.prog 35 wc = some (.int .i64 (f.code.length : Nat)) := RowS.len hcode NT
    obtain ⟨a1, p1, m1, x1, _⟩ := m0.put (k := 1) (v := (m.consts.length : Nat)) rfl
    obtain ⟨a2, p2, m2, x2, _⟩ := m1.put (k := 2) (v := f.locals) rfl
    obtain ⟨a3, p3, m3, x3, _⟩ := m2.put (k := 3) (v := f.locals) rfl
    obtain ⟨a4, p4, m4, x4, _⟩ := m3.put (k := 4) (v := st) rfl
    obtain ⟨a5, p5, m5, x5, _⟩ := m4.put (k := 5) (v := st) rfl
    obtain ⟨a6, p6, m6, x6, _⟩ := m5.put (k := 7) (v := (f.code.length : Nat)) rfl
    obtain ⟨a7, p7, m7, x7, _⟩ := m6.put (k := 8) (v := (f.code.length : Nat)) rfl
    obtain ⟨a8, p8, m8, x8, _⟩ := m7.put (k := 9) (v := (n : Nat)) rfl
    obtain ⟨a9, p9, m9, x9, _⟩ := m8.put (k := 11) (v := 1099511627777) rfl
    obtain ⟨a10, p10, m10, x10, _⟩ := m9.put (k := 12) (v := 14) rfl
    have y1 := x1
    have y2 := y1.trans x2
    have y3 := y2.trans x3
    have y4 := y3.trans x4
    have y5 := y4.trans x5
    have y6 := y5.trans x6
    have y10 := (((y6.trans x7).trans x8).trans x9).trans x10
    obtain ⟨f0, _⟩ := F s4 (KeepX.refl _ _)
    obtain ⟨_, f1, _⟩ := F a1 y1
    obtain ⟨_, f2, _⟩ := F a2 y2
    obtain ⟨_, _, f5, _⟩ := F a5 y5
    obtain ⟨_, _, f6, _⟩ := F a6 y6
    obtain ⟨_, _, _, f9, f10⟩ := F a10 y10
    have lk := m10.look i.op
    have hlim : ([] ++ [((1 : Int), ((m.consts.length : Nat) : Int))] ++ [(2, f.locals)] ++ [(3, f.locals)] ++ [(4, st)] ++ [(5, st)] ++ [(7, ((f.code.length : Nat) : Int))] ++ [(8, ((f.code.length : Nat) : Int))] ++ [(9, ((n : Nat) : Int))] ++ [(11, 1099511627777)] ++ [(12, 14)]) = limL m st n f := rfl
    rw [hlim] at lk
    have kend : Keep σ a10 := by
      have := (k1.trans k3).trans k4
      exact ⟨fun q o ho => y10.1 q o (by have := (List.getElem?_eq_some_iff.1 ho).1; omega) (this.1 q o ho), Nat.le_trans this.2.1 y10.2.1, fun j hj => y10.2.2 j (this.2.2 j hj)⟩
    simp only [k23_a, WK, vop, evAll, evOpt, evParts, vbuiltin, vun, vextract, Nat.reduceLT, Nat.reduceEqDiff, ↓reduceIte, reduceCtorEq, Nat.reduceAdd, Int.reduceLT, Int.reduceNeg, valloc_std, noSB, vhot, vbox, vcells, hlen, ← hs1, MF1, MF0, ldf, hp, hpl s1 k1, FZ, ← hs2, st3, hmk, f0, lv, p1, FF1', f1, p2, f2, p3, p4, p5, FF4', f5, lc, p6, f6, p7, p8, p9, p10, NF0, NF1, f9, lk]
    have tf : ∀ p : Prop, p = True ∨ p = False := fun p => by by_cases h : p <;> simp [h]
    cases hk : lookI (limL m st n f) i.op with
    | some l =>
      have hR : rightS m st n f i = ((decide (0 ≤ i.a) && decide (i.a < l)) && (!decide (i.op = 12) || decide (3 ≤ i.a))) := by unfold rightS; rw [hk]
      rw [hR]
      simp only [Option.isSome_some, Option.getD_some]
      rcases tf (0 ≤ i.a) with h1 | h1 <;> rcases tf (i.a < l) with h2 | h2 <;> rcases tf (i.op = 12) with h3 | h3 <;> rcases tf (3 ≤ i.a) with h4 | h4 <;>
      (simp only [k23_a, WK, vop, evAll, evOpt, evParts, vbuiltin, vun, vextract, Nat.reduceLT, Nat.reduceEqDiff, ↓reduceIte, reduceCtorEq, Nat.reduceAdd, Int.reduceLT, Int.reduceNeg, valloc_std, noSB, vhot, NF0, NF1, f9, f10, h1, h2, h3, h4, Bool.true_and, Bool.false_and, Bool.true_or, Bool.false_or, Bool.and_true, Bool.and_false]
       exact kend)
    | none =>
      have hR : rightS m st n f i = ((decide (1 ≤ i.op) && decide (i.op ≤ 21)) && decide (i.a = 0)) := by unfold rightS; rw [hk]
      rw [hR]
      simp only [Option.isSome_none, Option.getD_none]
      rcases tf (1 ≤ i.op) with h1 | h1 <;> rcases tf (i.op ≤ 21) with h2 | h2 <;> rcases tf (i.a = 0) with h3 | h3 <;>
      (simp only [k23_a, WK, vop, evAll, evOpt, evParts, vbuiltin, vun, vextract, Nat.reduceLT, Nat.reduceEqDiff, ↓reduceIte, reduceCtorEq, Nat.reduceAdd, Int.reduceLT, Int.reduceNeg, valloc_std, noSB, vhot, NF0, NF1, f9, f10, h1, h2, h3, Bool.true_and, Bool.false_and, Bool.and_true, Bool.and_false]
       exact kend)
  obtain ⟨q, σ', h1, rfl, h2⟩ := key
  exact ⟨σ', h1, h2⟩
end Go.Proofs.Ytplhelapcpcncaa.Q

set_option linter.unusedVariables false
set_option linter.unusedSimpArgs false
set_option maxRecDepth 100000
namespace Go.Proofs.Ytplhelapcpcncaa.Q
open Go Go.RowKit Go.Proofs
theorem cfits_does {σ : St} {m : Mdl} {c : List V} (hm : MdlS σ m c) (st : Int) {n : Nat} (hn : n < m.funcs.length) (i : Ins) :
    ∃ σ', Does Try.prog prims 25 [.agg c, .int .i64 st, .int .i64 (n : Int), .agg (insC i)] σ (.ret (.bool (rightS m st n m.funcs[n] i))) σ' ∧ Keep σ σ' := by
  have key : ∃ q σ', Does Try.prog prims 25 [.agg c, .int .i64 st, .int .i64 (n : Int), .agg (insC i)] σ q σ' ∧ q = .ret (.bool (rightS m st n m.funcs[n] i)) ∧ Keep σ σ' := by
    apply k25_is.does (by simp)
    obtain ⟨w1, w2, hc, hv, hf⟩ := hm
    obtain ⟨s1, hs1⟩ : ∃ s1 : St, s1 = ⟨(σ.objs ++ [Ob.cells c]) ++ [Ob.cells (insC i)], σ.toks⟩ := ⟨_, rfl⟩
    have k1 : Keep σ s1 := by rw [hs1]; exact ((Keep.refl σ).push _).push _
    have o1 : s1.objs[σ.objs.length]? = some (.cells [w1, w2]) := by rw [hs1, ← hc]; simp
    have o2 : s1.objs[σ.objs.length + 1]? = some (.cells (insC i)) := by rw [hs1]; simp
    have hlen : (σ.objs ++ [Ob.cells c]).length = σ.objs.length + 1 := by simp
    obtain ⟨p, cf, hp, hF, hpl⟩ := fun_load hf hn
    obtain ⟨s2, s3, wc, hs2, st3, k3, o3, hcode, hl3⟩ := funmade s1 hF k1
    obtain ⟨f, hfe⟩ : ∃ f, f = m.funcs[n] := ⟨_, rfl⟩
    rw [← hfe] at hF o3 hcode ⊢
    have ldf : vload Try.prog s1.objs 23 (.optr σ.objs.length 1) = some w2 := by rw [vload_obj o1 FsG]; rfl
    have e1 := k3.1 _ _ o1
    have e2 := k3.1 _ _ o2
    have f0 : vload Try.prog s3.objs 22 (.optr σ.objs.length 0) = some w1 := by rw [vload_obj e1 VsG]; rfl
    have f1 : vload Try.prog s3.objs 3 (.optr s1.objs.length 1) = some (.int .i64 f.locals) := by rw [vload_obj o3 G3]; rfl
    have f4 : vload Try.prog s3.objs 35 (.optr s1.objs.length 4) = some wc := by rw [vload_obj o3 NsG]; rfl
    have g0 : vload Try.prog s3.objs 3 (.optr (σ.objs.length + 1) 0) = some (.int .i64 i.op) := by rw [vload_obj e2 G3]; rfl
    have g1 : vload Try.prog s3.objs 3 (.optr (σ.objs.length + 1) 1) = some (.int .i64 i.a) := by rw [vload_obj e2 G3]; rfl
    have lv := hv.len
    have lc : vlen Try.prog 35 wc = some (.int .i64 (f.code.length : Nat)) := RowS.len hcode NT
    have kend : Keep σ s3 := k1.trans k3
    have tf : ∀ p : Prop, p = True ∨ p = False := fun p => by by_cases h : p <;> simp [h]
    obtain ⟨o, a⟩ := i
    simp only [k25_a, WK, vop, evAll, evOpt, evParts, vbuiltin, vun, vextract, Nat.reduceLT, Nat.reduceEqDiff, ↓reduceIte, reduceCtorEq, Nat.reduceAdd, Int.reduceLT, Int.reduceNeg, valloc_std, noSB, vhot, vbox, vcells, hlen, ← hs1, MF1, MF0, ldf, hp, hpl s1 k1, FZ, ← hs2, st3, NF0, g0]
    by_cases ho : 1 ≤ o ∧ o ≤ 21
    · rcases ins_cases ho with rfl | rfl | rfl | rfl | rfl | rfl | rfl | rfl | rfl | rfl | rfl | rfl | rfl | rfl | rfl | rfl | rfl | rfl | rfl | rfl | rfl
      · have hR : rightS m st n f ⟨1, a⟩ = (decide (0 ≤ a) && decide (a < ((m.consts.length : Nat) : Int))) := by rw [Bool.eq_iff_iff]; simp [rightS, limL, lookI]; try omega
        rw [hR]
        rcases tf (0 ≤ a) with h1 | h1 <;> rcases tf (a < ((m.consts.length : Nat) : Int)) with h2 | h2 <;>
        (simp only [k25_a, WK, vop, evAll, evOpt, evParts, vbuiltin, vun, vextract, Nat.reduceLT, Nat.reduceEqDiff, ↓reduceIte, reduceCtorEq, Nat.reduceAdd, Int.reduceLT, Int.reduceNeg, valloc_std, noSB, vhot, MF0, FF1', FF4', NF0, NF1, f0, f1, f4, g0, g1, lv, lc, Int.reduceEq, Int.reduceLE, h1, h2, Bool.true_and, Bool.false_and, Bool.and_true, Bool.and_false]
         exact kend)
      · have hR : rightS m st n f ⟨2, a⟩ = (decide (0 ≤ a) && decide (a < f.locals)) := by rw [Bool.eq_iff_iff]; simp [rightS, limL, lookI]; try omega
        rw [hR]
        rcases tf (0 ≤ a) with h1 | h1 <;> rcases tf (a < f.locals) with h2 | h2 <;>
        (simp only [k25_a, WK, vop, evAll, evOpt, evParts, vbuiltin, vun, vextract, Nat.reduceLT, Nat.reduceEqDiff, ↓reduceIte, reduceCtorEq, Nat.reduceAdd, Int.reduceLT, Int.reduceNeg, valloc_std, noSB, vhot, MF0, FF1', FF4', NF0, NF1, f0, f1, f4, g0, g1, lv, lc, Int.reduceEq, Int.reduceLE, h1, h2, Bool.true_and, Bool.false_and, Bool.and_true, Bool.and_false]
         exact kend)
      · have hR : rightS m st n f ⟨3, a⟩ = (decide (0 ≤ a) && decide (a < f.locals)) := by rw [Bool.eq_iff_iff]; simp [rightS, limL, lookI]; try omega
        rw [hR]
        rcases tf (0 ≤ a) with h1 | h1 <;> rcases tf (a < f.locals) with h2 | h2 <;>
        (simp only [k25_a, WK, vop, evAll, evOpt, evParts, vbuiltin, vun, vextract, Nat.reduceLT, Nat.reduceEqDiff, ↓reduceIte, reduceCtorEq, Nat.reduceAdd, Int.reduceLT, Int.reduceNeg, valloc_std, noSB, vhot, MF0, FF1', FF4', NF0, NF1, f0, f1, f4, g0, g1, lv, lc, Int.reduceEq, Int.reduceLE, h1, h2, Bool.true_and, Bool.false_and, Bool.and_true, Bool.and_false]
         exact kend)
      · have hR : rightS m st n f ⟨4, a⟩ = (decide (0 ≤ a) && decide (a < st)) := by rw [Bool.eq_iff_iff]; simp [rightS, limL, lookI]; try omega
        rw [hR]
        rcases tf (0 ≤ a) with h1 | h1 <;> rcases tf (a < st) with h2 | h2 <;>
        (simp only [k25_a, WK, vop, evAll, evOpt, evParts, vbuiltin, vun, vextract, Nat.reduceLT, Nat.reduceEqDiff, ↓reduceIte, reduceCtorEq, Nat.reduceAdd, Int.reduceLT, Int.reduceNeg, valloc_std, noSB, vhot, MF0, FF1', FF4', NF0, NF1, f0, f1, f4, g0, g1, lv, lc, Int.reduceEq, Int.reduceLE, h1, h2, Bool.true_and, Bool.false_and, Bool.and_true, Bool.and_false]
         exact kend)
      · have hR : rightS m st n f ⟨5, a⟩ = (decide (0 ≤ a) && decide (a < st)) := by rw [Bool.eq_iff_iff]; simp [rightS, limL, lookI]; try omega
        rw [hR]
        rcases tf (0 ≤ a) with h1 | h1 <;> rcases tf (a < st) with h2 | h2 <;>
        (simp only [k25_a, WK, vop, evAll, evOpt, evParts, vbuiltin, vun, vextract, Nat.reduceLT, Nat.reduceEqDiff, ↓reduceIte, reduceCtorEq, Nat.reduceAdd, Int.reduceLT, Int.reduceNeg, valloc_std, noSB, vhot, MF0, FF1', FF4', NF0, NF1, f0, f1, f4, g0, g1, lv, lc, Int.reduceEq, Int.reduceLE, h1, h2, Bool.true_and, Bool.false_and, Bool.and_true, Bool.and_false]
         exact kend)
      · have hR : rightS m st n f ⟨6, a⟩ = (decide (0 ≤ a) && decide (a < 1)) := by rw [Bool.eq_iff_iff]; simp [rightS, limL, lookI]; try omega
        rw [hR]
        rcases tf (0 ≤ a) with h1 | h1 <;> rcases tf (a < 1) with h2 | h2 <;>
        (simp only [k25_a, WK, vop, evAll, evOpt, evParts, vbuiltin, vun, vextract, Nat.reduceLT, Nat.reduceEqDiff, ↓reduceIte, reduceCtorEq, Nat.reduceAdd, Int.reduceLT, Int.reduceNeg, valloc_std, noSB, vhot, MF0, FF1', FF4', NF0, NF1, f0, f1, f4, g0, g1, lv, lc, Int.reduceEq, Int.reduceLE, h1, h2, Bool.true_and, Bool.false_and, Bool.and_true, Bool.and_false]
         exact kend)
      · have hR : rightS m st n f ⟨7, a⟩ = (decide (0 ≤ a) && decide (a < ((f.code.length : Nat) : Int))) := by rw [Bool.eq_iff_iff]; simp [rightS, limL, lookI]; try omega
        rw [hR]
        rcases tf (0 ≤ a) with h1 | h1 <;> rcases tf (a < ((f.code.length : Nat) : Int)) with h2 | h2 <;>
        (simp only [k25_a, WK, vop, evAll, evOpt, evParts, vbuiltin, vun, vextract, Nat.reduceLT, Nat.reduceEqDiff, ↓reduceIte, reduceCtorEq, Nat.reduceAdd, Int.reduceLT, Int.reduceNeg, valloc_std, noSB, vhot, MF0, FF1', FF4', NF0, NF1, f0, f1, f4, g0, g1, lv, lc, Int.reduceEq, Int.reduceLE, h1, h2, Bool.true_and, Bool.false_and, Bool.and_true, Bool.and_false]
         exact kend)
      · have hR : rightS m st n f ⟨8, a⟩ = (decide (0 ≤ a) && decide (a < ((f.code.length : Nat) : Int))) := by rw [Bool.eq_iff_iff]; simp [rightS, limL, lookI]; try omega
        rw [hR]
        rcases tf (0 ≤ a) with h1 | h1 <;> rcases tf (a < ((f.code.length : Nat) : Int)) with h2 | h2 <;>
        (simp only [k25_a, WK, vop, evAll, evOpt, evParts, vbuiltin, vun, vextract, Nat.reduceLT, Nat.reduceEqDiff, ↓reduceIte, reduceCtorEq, Nat.reduceAdd, Int.reduceLT, Int.reduceNeg, valloc_std, noSB, vhot, MF0, FF1', FF4', NF0, NF1, f0, f1, f4, g0, g1, lv, lc, Int.reduceEq, Int.reduceLE, h1, h2, Bool.true_and, Bool.false_and, Bool.and_true, Bool.and_false]
         exact kend)
      · have hR : rightS m st n f ⟨9, a⟩ = (decide (0 ≤ a) && decide (a < ((n : Nat) : Int))) := by rw [Bool.eq_iff_iff]; simp [rightS, limL, lookI]; try omega
        rw [hR]
        rcases tf (0 ≤ a) with h1 | h1 <;> rcases tf (a < ((n : Nat) : Int)) with h2 | h2 <;>
        (simp only [k25_a, WK, vop, evAll, evOpt, evParts, vbuiltin, vun, vextract, Nat.reduceLT, Nat.reduceEqDiff, ↓reduceIte, reduceCtorEq, Nat.reduceAdd, Int.reduceLT, Int.reduceNeg, valloc_std, noSB, vhot, MF0, FF1', FF4', NF0, NF1, f0, f1, f4, g0, g1, lv, lc, Int.reduceEq, Int.reduceLE, h1, h2, Bool.true_and, Bool.false_and, Bool.and_true, Bool.and_false]
         exact kend)
      · have hR : rightS m st n f ⟨10, a⟩ = (decide (0 ≤ a) && decide (a < 1)) := by rw [Bool.eq_iff_iff]; simp [rightS, limL, lookI]; try omega
        rw [hR]
        rcases tf (0 ≤ a) with h1 | h1 <;> rcases tf (a < 1) with h2 | h2 <;>
        (simp only [k25_a, WK, vop, evAll, evOpt, evParts, vbuiltin, vun, vextract, Nat.reduceLT, Nat.reduceEqDiff, ↓reduceIte, reduceCtorEq, Nat.reduceAdd, Int.reduceLT, Int.reduceNeg, valloc_std, noSB, vhot, MF0, FF1', FF4', NF0, NF1, f0, f1, f4, g0, g1, lv, lc, Int.reduceEq, Int.reduceLE, h1, h2, Bool.true_and, Bool.false_and, Bool.and_true, Bool.and_false]
         exact kend)
      · have hR : rightS m st n f ⟨11, a⟩ = (decide (0 ≤ a) && decide (a < 1099511627777)) := by rw [Bool.eq_iff_iff]; simp [rightS, limL, lookI]; try omega
        rw [hR]
        rcases tf (0 ≤ a) with h1 | h1 <;> rcases tf (a < 1099511627777) with h2 | h2 <;>
        (simp only [k25_a, WK, vop, evAll, evOpt, evParts, vbuiltin, vun, vextract, Nat.reduceLT, Nat.reduceEqDiff, ↓reduceIte, reduceCtorEq, Nat.reduceAdd, Int.reduceLT, Int.reduceNeg, valloc_std, noSB, vhot, MF0, FF1', FF4', NF0, NF1, f0, f1, f4, g0, g1, lv, lc, Int.reduceEq, Int.reduceLE, h1, h2, Bool.true_and, Bool.false_and, Bool.and_true, Bool.and_false]
         exact kend)
      · have hR : rightS m st n f ⟨12, a⟩ = (decide (3 ≤ a) && decide (a < 14)) := by rw [Bool.eq_iff_iff]; simp [rightS, limL, lookI]; try omega
        rw [hR]
        rcases tf (3 ≤ a) with h1 | h1 <;> rcases tf (a < 14) with h2 | h2 <;>
        (simp only [k25_a, WK, vop, evAll, evOpt, evParts, vbuiltin, vun, vextract, Nat.reduceLT, Nat.reduceEqDiff, ↓reduceIte, reduceCtorEq, Nat.reduceAdd, Int.reduceLT, Int.reduceNeg, valloc_std, noSB, vhot, MF0, FF1', FF4', NF0, NF1, f0, f1, f4, g0, g1, lv, lc, Int.reduceEq, Int.reduceLE, h1, h2, Bool.true_and, Bool.false_and, Bool.and_true, Bool.and_false]
         exact kend)
      · have hR : rightS m st n f ⟨13, a⟩ = (decide (0 ≤ a) && decide (a < 1)) := by rw [Bool.eq_iff_iff]; simp [rightS, limL, lookI]; try omega
        rw [hR]
        rcases tf (0 ≤ a) with h1 | h1 <;> rcases tf (a < 1) with h2 | h2 <;>
        (simp only [k25_a, WK, vop, evAll, evOpt, evParts, vbuiltin, vun, vextract, Nat.reduceLT, Nat.reduceEqDiff, ↓reduceIte, reduceCtorEq, Nat.reduceAdd, Int.reduceLT, Int.reduceNeg, valloc_std, noSB, vhot, MF0, FF1', FF4', NF0, NF1, f0, f1, f4, g0, g1, lv, lc, Int.reduceEq, Int.reduceLE, h1, h2, Bool.true_and, Bool.false_and, Bool.and_true, Bool.and_false]
         exact kend)
      · have hR : rightS m st n f ⟨14, a⟩ = (decide (0 ≤ a) && decide (a < 1)) := by rw [Bool.eq_iff_iff]; simp [rightS, limL, lookI]; try omega
        rw [hR]
        rcases tf (0 ≤ a) with h1 | h1 <;> rcases tf (a < 1) with h2 | h2 <;>
        (simp only [k25_a, WK, vop, evAll, evOpt, evParts, vbuiltin, vun, vextract, Nat.reduceLT, Nat.reduceEqDiff, ↓reduceIte, reduceCtorEq, Nat.reduceAdd, Int.reduceLT, Int.reduceNeg, valloc_std, noSB, vhot, MF0, FF1', FF4', NF0, NF1, f0, f1, f4, g0, g1, lv, lc, Int.reduceEq, Int.reduceLE, h1, h2, Bool.true_and, Bool.false_and, Bool.and_true, Bool.and_false]
         exact kend)
      · have hR : rightS m st n f ⟨15, a⟩ = (decide (0 ≤ a) && decide (a < 1)) := by rw [Bool.eq_iff_iff]; simp [rightS, limL, lookI]; try omega
        rw [hR]
        rcases tf (0 ≤ a) with h1 | h1 <;> rcases tf (a < 1) with h2 | h2 <;>
        (simp only [k25_a, WK, vop, evAll, evOpt, evParts, vbuiltin, vun, vextract, Nat.reduceLT, Nat.reduceEqDiff, ↓reduceIte, reduceCtorEq, Nat.reduceAdd, Int.reduceLT, Int.reduceNeg, valloc_std, noSB, vhot, MF0, FF1', FF4', NF0, NF1, f0, f1, f4, g0, g1, lv, lc, Int.reduceEq, Int.reduceLE, h1, h2, Bool.true_and, Bool.false_and, Bool.and_true, Bool.and_false]
         exact kend)
      · have hR : rightS m st n f ⟨16, a⟩ = (decide (0 ≤ a) && decide (a < 1)) := by rw [Bool.eq_iff_iff]; simp [rightS, limL, lookI]; try omega
        rw [hR]
        rcases tf (0 ≤ a) with h1 | h1 <;> rcases tf (a < 1) with h2 | h2 <;>
        (simp only [k25_a, WK, vop, evAll, evOpt, evParts, vbuiltin, vun, vextract, Nat.reduceLT, Nat.reduceEqDiff, ↓reduceIte, reduceCtorEq, Nat.reduceAdd, Int.reduceLT, Int.reduceNeg, valloc_std, noSB, vhot, MF0, FF1', FF4', NF0, NF1, f0, f1, f4, g0, g1, lv, lc, Int.reduceEq, Int.reduceLE, h1, h2, Bool.true_and, Bool.false_and, Bool.and_true, Bool.and_false]
         exact kend)
      · have hR : rightS m st n f ⟨17, a⟩ = (decide (0 ≤ a) && decide (a < 1)) := by rw [Bool.eq_iff_iff]; simp [rightS, limL, lookI]; try omega
        rw [hR]
        rcases tf (0 ≤ a) with h1 | h1 <;> rcases tf (a < 1) with h2 | h2 <;>
        (simp only [k25_a, WK, vop, evAll, evOpt, evParts, vbuiltin, vun, vextract, Nat.reduceLT, Nat.reduceEqDiff, ↓reduceIte, reduceCtorEq, Nat.reduceAdd, Int.reduceLT, Int.reduceNeg, valloc_std, noSB, vhot, MF0, FF1', FF4', NF0, NF1, f0, f1, f4, g0, g1, lv, lc, Int.reduceEq, Int.reduceLE, h1, h2, Bool.true_and, Bool.false_and, Bool.and_true, Bool.and_false]
         exact kend)
      · have hR : rightS m st n f ⟨18, a⟩ = (decide (0 ≤ a) && decide (a < 1)) := by rw [Bool.eq_iff_iff]; simp [rightS, limL, lookI]; try omega
        rw [hR]
        rcases tf (0 ≤ a) with h1 | h1 <;> rcases tf (a < 1) with h2 | h2 <;>
        (simp only [k25_a, WK, vop, evAll, evOpt, evParts, vbuiltin, vun, vextract, Nat.reduceLT, Nat.reduceEqDiff, ↓reduceIte, reduceCtorEq, Nat.reduceAdd, Int.reduceLT, Int.reduceNeg, valloc_std, noSB, vhot, MF0, FF1', FF4', NF0, NF1, f0, f1, f4, g0, g1, lv, lc, Int.reduceEq, Int.reduceLE, h1, h2, Bool.true_and, Bool.false_and, Bool.and_true, Bool.and_false]
         exact kend)
      · have hR : rightS m st n f ⟨19, a⟩ = (decide (0 ≤ a) && decide (a < 1)) := by rw [Bool.eq_iff_iff]; simp [rightS, limL, lookI]; try omega
        rw [hR]
        rcases tf (0 ≤ a) with h1 | h1 <;> rcases tf (a < 1) with h2 | h2 <;>
        (simp only [k25_a, WK, vop, evAll, evOpt, evParts, vbuiltin, vun, vextract, Nat.reduceLT, Nat.reduceEqDiff, ↓reduceIte, reduceCtorEq, Nat.reduceAdd, Int.reduceLT, Int.reduceNeg, valloc_std, noSB, vhot, MF0, FF1', FF4', NF0, NF1, f0, f1, f4, g0, g1, lv, lc, Int.reduceEq, Int.reduceLE, h1, h2, Bool.true_and, Bool.false_and, Bool.and_true, Bool.and_false]
         exact kend)
      · have hR : rightS m st n f ⟨20, a⟩ = (decide (0 ≤ a) && decide (a < 1)) := by rw [Bool.eq_iff_iff]; simp [rightS, limL, lookI]; try omega
        rw [hR]
        rcases tf (0 ≤ a) with h1 | h1 <;> rcases tf (a < 1) with h2 | h2 <;>
        (simp only [k25_a, WK, vop, evAll, evOpt, evParts, vbuiltin, vun, vextract, Nat.reduceLT, Nat.reduceEqDiff, ↓reduceIte, reduceCtorEq, Nat.reduceAdd, Int.reduceLT, Int.reduceNeg, valloc_std, noSB, vhot, MF0, FF1', FF4', NF0, NF1, f0, f1, f4, g0, g1, lv, lc, Int.reduceEq, Int.reduceLE, h1, h2, Bool.true_and, Bool.false_and, Bool.and_true, Bool.and_false]
         exact kend)
      · have hR : rightS m st n f ⟨21, a⟩ = (decide (0 ≤ a) && decide (a < 1)) := by rw [Bool.eq_iff_iff]; simp [rightS, limL, lookI]; try omega
        rw [hR]
        rcases tf (0 ≤ a) with h1 | h1 <;> rcases tf (a < 1) with h2 | h2 <;>
        (simp only [k25_a, WK, vop, evAll, evOpt, evParts, vbuiltin, vun, vextract, Nat.reduceLT, Nat.reduceEqDiff, ↓reduceIte, reduceCtorEq, Nat.reduceAdd, Int.reduceLT, Int.reduceNeg, valloc_std, noSB, vhot, MF0, FF1', FF4', NF0, NF1, f0, f1, f4, g0, g1, lv, lc, Int.reduceEq, Int.reduceLE, h1, h2, Bool.true_and, Bool.false_and, Bool.and_true, Bool.and_false]
         exact kend)
    · have ne : ∀ k : Int, 1 ≤ k → k ≤ 21 → (o = k) = False := fun k h1 h2 => eq_false fun e => ho (by omega)
      have hR : rightS m st n f ⟨o, a⟩ = false := by
        have hl : lookI (limL m st n f) o = none := by
          have n1 : ∀ k : Int, 1 ≤ k → k ≤ 21 → ¬ k = o := fun k h1 h2 e => ho (by omega)
          simp [limL, lookI, n1 1, n1 2, n1 3, n1 4, n1 5, n1 7, n1 8, n1 9, n1 11, n1 12]
        unfold rightS
        simp only [hl]
        rw [Bool.eq_false_iff]
        simp
        intro h1 h2
        exact absurd ⟨h1, h2⟩ ho
      rw [hR]
      rcases tf (1 ≤ o) with h1 | h1 <;> rcases tf (o ≤ 21) with h2 | h2
      · exact absurd ⟨of_eq_true h1, of_eq_true h2⟩ ho
      all_goals
        simp only [k25_a, WK, vop, evAll, evOpt, evParts, vbuiltin, vun, vextract, Nat.reduceLT, Nat.reduceEqDiff, ↓reduceIte, reduceCtorEq, Nat.reduceAdd, Int.reduceLT, Int.reduceNeg, valloc_std, noSB, vhot, MF0, FF1', FF4', NF0, NF1, f0, f1, f4, g0, g1, lv, lc, ne 1 (by decide) (by decide), ne 2 (by decide) (by decide), ne 3 (by decide) (by decide), ne 4 (by decide) (by decide), ne 5 (by decide) (by decide), ne 7 (by decide) (by decide), ne 8 (by decide) (by decide), ne 9 (by decide) (by decide), ne 11 (by decide) (by decide), ne 12 (by decide) (by decide), h1, h2, Bool.true_and, Bool.false_and, Bool.and_true, Bool.and_false]
        exact kend
  obtain ⟨q, σ', h1, rfl, h2⟩ := key
  exact ⟨σ', h1, h2⟩
end Go.Proofs.Ytplhelapcpcncaa.Q

set_option linter.unusedVariables false
set_option linter.unusedSimpArgs false
set_option maxRecDepth 100000
namespace Go.Proofs.Ytplhelapcpcncaa.Q
open Go Go.RowKit Go.Proofs
def valN : List UInt8 → Nat
  | [] => 0
  | b :: bs => b.toNat % 128 + 128 * valN bs
def runN : List UInt8 → Nat
  | [] => 0
  | b :: bs => if 127 < b.toNat then runN bs + 1 else 0
def takeS (bs : List UInt8) : Nat × Nat :=
  if bs.length ≤ runN bs ∨ 9 ≤ runN bs ∨ (0 < runN bs ∧ (bs.getD (runN bs) 0).toNat = 0) then (0, 0) else (valN (bs.take (runN bs + 1)), runN bs + 1)
theorem valN_append (a b : List UInt8) : valN (a ++ b) = valN a + 128 ^ a.length * valN b := by
  induction a with
  | nil => simp [valN]
  | cons x a ih => simp only [List.cons_append, valN, ih, List.length_cons, Nat.pow_succ]; rw [Nat.mul_add, ← Nat.mul_assoc, Nat.mul_comm 128 (128 ^ a.length)]; omega
theorem valN_lt (a : List UInt8) : valN a < 128 ^ a.length := by
  induction a with
  | nil => simp [valN]
  | cons x a ih => simp only [valN, List.length_cons, Nat.pow_succ]; omega
theorem valN_take_succ {bs : List UInt8} {i : Nat} (h : i < bs.length) : valN (bs.take (i + 1)) = valN (bs.take i) + 128 ^ i * (bs[i].toNat % 128) := by
  rw [List.take_succ_eq_append_getElem h, valN_append]
  simp [valN, Nat.min_eq_left (Nat.le_of_lt h)]
theorem runN_ge {bs : List UInt8} : ∀ {i : Nat}, i ≤ runN bs → ∀ j (h : j < bs.length), j < i → 127 < bs[j].toNat := by
  induction bs with
  | nil => intro i _ j h; simp at h
  | cons b bs ih =>
    intro i hi j h hj
    simp only [runN] at hi
    split at hi
    · cases j with
      | zero => simpa
      | succ j => simpa using ih (i := i - 1) (by omega) j (by simpa using h) (by omega)
    · omega
theorem runN_len (bs : List UInt8) : runN bs ≤ bs.length := by
  induction bs with
  | nil => simp [runN]
  | cons b bs ih => simp only [runN, List.length_cons]; split <;> omega
theorem runN_at {bs : List UInt8} : (h : runN bs < bs.length) → bs[runN bs].toNat ≤ 127 := by
  induction bs with
  | nil => intro h; simp at h
  | cons b bs ih =>
    intro h
    by_cases hb : 127 < b.toNat
    · simp only [runN, hb, if_true] at h ⊢
      exact ih (by simpa using h)
    · simp only [runN, hb, if_false] at h ⊢
      simpa using hb
theorem runN_lt {bs : List UInt8} {i : Nat} (hi : i ≤ runN bs) (h : i < bs.length) : 127 < bs[i].toNat ↔ i < runN bs := by
  constructor
  · intro hb
    rcases Nat.lt_or_ge i (runN bs) with h1 | h1
    · exact h1
    · have he : i = runN bs := by omega
      subst he
      have := runN_at h
      omega
  · intro h1
    exact runN_ge (i := i + 1) (by omega) i h (by omega)
theorem and127 : ∀ b : UInt8, bitOp .and .u8 (b.toNat : Int) 127 = some ((b.toNat % 128 : Nat) : Int) := by
  intro b
  have : ∀ n : Nat, n < 256 → bitOp .and .u8 (n : Int) 127 = some ((n % 128 : Nat) : Int) := by decide +kernel
  exact this _ b.toNat_lt
theorem or_i64 {a c s : Nat} (ha : a < 2 ^ s) (hc : c * 2 ^ s + a < 2 ^ 63) : bitOp .or .i64 (a : Int) ((c * 2 ^ s : Nat) : Int) = some ((a + c * 2 ^ s : Nat) : Int) := by
  have h1 : a ||| c * 2 ^ s = a + c * 2 ^ s := by
    have := Nat.shiftLeft_add_eq_or_of_lt ha c
    rw [Nat.shiftLeft_eq] at this
    rw [Nat.or_comm, ← this, Nat.add_comm]
  simp only [bitOp, IntKind.bits]
  congr 1
  have h2 : (BitVec.ofInt 64 (a : Int) ||| BitVec.ofInt 64 ((c * 2 ^ s : Nat) : Int)).toNat = a + c * 2 ^ s := by
    rw [BitVec.toNat_or, BitVec.ofInt_natCast, BitVec.ofInt_natCast, BitVec.toNat_ofNat, BitVec.toNat_ofNat, Nat.mod_eq_of_lt (by omega), Nat.mod_eq_of_lt (by omega), h1]
  exact (congrArg (fun n : Nat => IntKind.i64.wrap (n : Int)) h2).trans (wrap_i64 (by omega) (by omega))
def I12 (v : V) (σ : St) (bs : List UInt8) : Nat → (Nat → V) → St → Prop := fun i e σ' => σ' = σ ∧ e 0 = v ∧ e 5 = .int .i64 i ∧ e 4 = .int .i64 (valN (bs.take i) : Nat) ∧ i ≤ runN bs ∧ i ≤ 9
theorem take_does {v : V} {bs : List UInt8} (hv : BtsV v bs) (hlen : bs.length ≤ maxLen) (σ : St) : Does Try.prog prims 53 [v] σ (.ret (.tuple [.int .i64 ((takeS bs).1 : Nat), .int .i64 ((takeS bs).2 : Nat)])) σ := by
  apply k53_is.ret (by simp)
  have hrl := runN_len bs
  simp only [k53_a, WK, vop, evAll, evOpt, evParts, vbuiltin, vun, vextract, Nat.reduceLT, Nat.reduceEqDiff, ↓reduceIte, reduceCtorEq, Nat.reduceAdd, Int.reduceLT, Int.reduceNeg, valloc_std, noSB, vhot]
  refine Ev.loop' (I12 v σ bs) (fun i => 9 - i) 0 ?_ ?_
  · simp [I12, upd_some, valN]
  · rintro i e σ' ⟨rfl, h0, h5, h4, hi1, hi2⟩
    by_cases h1 : i < bs.length
    · have h1' : (i : Int) < bs.length := Int.ofNat_lt.2 h1
      by_cases h2 : i < 9
      · have h2' : (i : Int) < 9 := by omega
        have hn : ¬ (7 * (i : Int) < 0) := by omega
        have hw1 : IntKind.i64.wrap (7 * (i : Int)) = 7 * (i : Int) := wrap_i64 (by omega) (by omega)
        have ht : (7 * (i : Int)).toNat = 7 * i := by omega
        have hm : min (7 * i) IntKind.i64.bits = 7 * i := by simp only [IntKind.bits]; omega
        have hp : 128 ^ i = 2 ^ (7 * i) := by rw [Nat.pow_mul]
        have hpow : 2 ^ (7 * i) ≤ 2 ^ 56 := Nat.pow_le_pow_right (by omega) (by omega)
        have hlt := valN_lt (bs.take i)
        rw [List.length_take, Nat.min_eq_left (Nat.le_of_lt h1), hp] at hlt
        have hm128 : bs[i].toNat % 128 ≤ 127 := by omega
        have hmul : bs[i].toNat % 128 * 2 ^ (7 * i) ≤ 127 * 2 ^ 56 := Nat.mul_le_mul hm128 hpow
        have hc1 : IntKind.i64.wrap ((bs[i].toNat % 128 : Nat) : Int) = (bs[i].toNat % 128 : Nat) := wrap_nat (by omega)
        have hc2 : IntKind.i64.wrap (((bs[i].toNat % 128 : Nat) : Int) * 2 ^ (7 * i)) = ((bs[i].toNat % 128 * 2 ^ (7 * i) : Nat) : Int) := by
          have : ((bs[i].toNat % 128 : Nat) : Int) * 2 ^ (7 * i) = ((bs[i].toNat % 128 * 2 ^ (7 * i) : Nat) : Int) := by rw [Int.natCast_mul, Int.natCast_pow]; rfl
          rw [this]; exact wrap_nat (by omega)
        have hor := or_i64 (a := valN (bs.take i)) (c := bs[i].toNat % 128) hlt (by omega)
        have hval := valN_take_succ h1
        rw [hp, Nat.mul_comm (2 ^ (7 * i))] at hval
        rw [← hval] at hor
        have hwi : IntKind.i64.wrap ((i : Int) + 1) = ((i + 1 : Nat) : Int) := by rw [show ((i : Int) + 1) = ((i + 1 : Nat) : Int) from by omega]; exact wrap_nat (by omega)
        have hrun := runN_lt hi1 h1
        by_cases h3 : 127 < bs[i].toNat
        · have h3' : (127 : Int) < bs[i].toNat := Int.ofNat_lt.2 h3
          simp only [k53_a, WK, vop, evAll, evOpt, evParts, vbuiltin, vun, vextract, Nat.reduceLT, Nat.reduceEqDiff, ↓reduceIte, reduceCtorEq, Nat.reduceAdd, Int.reduceLT, Int.reduceNeg, valloc_std, noSB, vhot, h0, h5, h4, hv.len T22, hv.addr T22 S5 (Int.natCast_nonneg i) h1', BtsV.load G5 h1, h1', h2', h3', Int.toNat_natCast, and127, vconv, T5, T3, hc1, hw1, hn, ht, hm, hc2, hor, hwi]
          refine ⟨i + 1, ⟨rfl, ?_⟩, by omega⟩
          simp only [upd_some, Nat.reduceEqDiff, ↓reduceIte, h0, true_and]
          exact ⟨by have := hrun.1 h3; omega, by omega⟩
        · have h3' : ¬ (127 : Int) < bs[i].toNat := fun h => h3 (Int.ofNat_lt.1 h)
          have hri : i = runN bs := by
            have : ¬ i < runN bs := fun h => h3 (hrun.2 h)
            omega
          have hget : bs.getD (runN bs) 0 = bs[i] := by
            rw [← hri, List.getD_eq_getElem?_getD, List.getElem?_eq_getElem h1]
            rfl
          by_cases h4z : bs[i].toNat = 0
          · have hz : decide (((bs[i].toNat : Nat) : Int) = 0) = true := by simp [h4z]
            by_cases h5z : 0 < i
            · have h5' : (0 : Int) < i := by omega
              simp only [k53_a, WK, vop, evAll, evOpt, evParts, vbuiltin, vun, vextract, Nat.reduceLT, Nat.reduceEqDiff, ↓reduceIte, reduceCtorEq, Nat.reduceAdd, Int.reduceLT, Int.reduceNeg, valloc_std, noSB, vhot, h5', h0, h5, h4, hv.len T22, hv.addr T22 S5 (Int.natCast_nonneg i) h1', BtsV.load G5 h1, h1', h2', h3', hz, Int.toNat_natCast, and127, vconv, T5, T3, hc1, hw1, hn, ht, hm, hc2, hor, hwi]
              have : takeS bs = (0, 0) := by unfold takeS; rw [if_pos (.inr (.inr ⟨by omega, by rw [hget]; exact h4z⟩))]
              simp [this]
            · have h5' : ¬ (0 : Int) < i := by omega
              simp only [k53_a, WK, vop, evAll, evOpt, evParts, vbuiltin, vun, vextract, Nat.reduceLT, Nat.reduceEqDiff, ↓reduceIte, reduceCtorEq, Nat.reduceAdd, Int.reduceLT, Int.reduceNeg, valloc_std, noSB, vhot, h5', h0, h5, h4, hv.len T22, hv.addr T22 S5 (Int.natCast_nonneg i) h1', BtsV.load G5 h1, h1', h2', h3', hz, Int.toNat_natCast, and127, vconv, T5, T3, hc1, hw1, hn, ht, hm, hc2, hor, hwi]
              have : takeS bs = (valN (bs.take (i + 1)), i + 1) := by unfold takeS; rw [if_neg (by omega), hri]
              simp [this]
          · have hz : decide (((bs[i].toNat : Nat) : Int) = 0) = false := by simp only [decide_eq_false_iff_not]; omega
            simp only [k53_a, WK, vop, evAll, evOpt, evParts, vbuiltin, vun, vextract, Nat.reduceLT, Nat.reduceEqDiff, ↓reduceIte, reduceCtorEq, Nat.reduceAdd, Int.reduceLT, Int.reduceNeg, valloc_std, noSB, vhot, h0, h5, h4, hv.len T22, hv.addr T22 S5 (Int.natCast_nonneg i) h1', BtsV.load G5 h1, h1', h2', h3', hz, Int.toNat_natCast, and127, vconv, T5, T3, hc1, hw1, hn, ht, hm, hc2, hor, hwi]
            have : takeS bs = (valN (bs.take (i + 1)), i + 1) := by unfold takeS; rw [if_neg (by rw [hget]; omega), hri]
            simp [this]
      · have h2' : ¬ (i : Int) < 9 := by omega
        simp only [k53_a, WK, vop, evAll, evOpt, evParts, vbuiltin, vun, vextract, Nat.reduceLT, Nat.reduceEqDiff, ↓reduceIte, reduceCtorEq, Nat.reduceAdd, Int.reduceLT, Int.reduceNeg, valloc_std, noSB, vhot, h0, h5, h4, hv.len T22, h1', h2']
        have : takeS bs = (0, 0) := by unfold takeS; rw [if_pos (by omega)]
        simp [this]
    · have h1' : ¬ (i : Int) < bs.length := by omega
      simp only [k53_a, WK, vop, evAll, evOpt, evParts, vbuiltin, vun, vextract, Nat.reduceLT, Nat.reduceEqDiff, ↓reduceIte, reduceCtorEq, Nat.reduceAdd, Int.reduceLT, Int.reduceNeg, valloc_std, noSB, vhot, h0, h5, h4, hv.len T22, h1']
      have : takeS bs = (0, 0) := by unfold takeS; rw [if_pos (by omega)]
      simp [this]
theorem takeS_lt (l : List UInt8) : (takeS l).1 < 2 ^ 63 ∧ (takeS l).2 ≤ 9 ∧ (takeS l).2 ≤ l.length := by
  unfold takeS
  split
  · simp
  · rename_i h
    simp only [not_or, Nat.not_le] at h
    have h1 := valN_lt (l.take (runN l + 1))
    have h2 : 128 ^ (l.take (runN l + 1)).length ≤ 128 ^ 9 := Nat.pow_le_pow_right (by omega) (by rw [List.length_take]; omega)
    refine ⟨?_, by omega, by omega⟩
    have : (128 : Nat) ^ 9 = 2 ^ 63 := by decide
    simp only
    omega
theorem takeS_none {l : List UInt8} (h : (takeS l).2 = 0) : (takeS l).1 = 0 := by
  unfold takeS at h ⊢
  split at h
  · rename_i hc; rw [if_pos hc]
  · simp at h
end Go.Proofs.Ytplhelapcpcncaa.Q

set_option linter.unusedVariables false
set_option linter.unusedSimpArgs false
set_option maxRecDepth 100000
namespace Go.Proofs.Ytplhelapcpcncaa.Q
open Go Go.RowKit Go.Proofs
theorem IT : IntT Try.prog 70 3 := ⟨by kernel_rfl, T3, by kernel_rfl, by kernel_rfl, by kernel_rfl, by kernel_rfl, by kernel_rfl⟩
/-- The bytes of a number. -/
def putN (x : Nat) : List UInt8 := if h : 127 < x then UInt8.ofNat (x % 128 + 128) :: putN (x / 128) else [UInt8.ofNat x]
termination_by x
decreasing_by omega
def putS (xs : List Int) : List UInt8 := xs.flatMap fun x => putN x.toNat
theorem putN_len (x : Nat) (k : Nat) (hk : x < 128 ^ (k + 1)) : (putN x).length ≤ k + 1 := by
  induction k generalizing x with
  | zero => rw [putN, dif_neg (by omega)]; simp
  | succ k ih =>
    rw [putN]
    split
    · simp only [List.length_cons]
      have := ih (x / 128) (by rw [Nat.pow_succ] at hk; omega)
      omega
    · simp
theorem and127i {x : Nat} (h : x < 2 ^ 63) : bitOp .and .i64 (x : Int) 127 = some ((x % 128 : Nat) : Int) := by
  simp only [bitOp, IntKind.bits]
  congr 1
  have h2 : (BitVec.ofInt 64 (x : Int) &&& BitVec.ofInt 64 127).toNat = x % 128 := by
    have h3 : (BitVec.ofInt 64 127) = BitVec.ofNat 64 127 := rfl
    rw [h3, BitVec.toNat_and, BitVec.ofInt_natCast, BitVec.toNat_ofNat, BitVec.toNat_ofNat, Nat.mod_eq_of_lt (by omega), Nat.mod_eq_of_lt (by omega)]
    exact Nat.and_two_pow_sub_one_eq_mod x 7
  exact (congrArg (fun n : Nat => IntKind.i64.wrap (n : Int)) h2).trans (wrap_i64 (by omega) (by omega))
theorem or128i {x : Nat} (h : x < 128) : bitOp .or .i64 (x : Int) 128 = some ((x + 128 : Nat) : Int) := by
  have := or_i64 (a := x) (c := 1) (s := 7) (by omega) (by omega)
  simpa using this
/-- The inner loop of Put. -/
def I14 (n : Nat) (σ0 : St) (out : List UInt8) (x : Nat) : Nat → (Nat → V) → St → Prop := fun y e σ => y < 2 ^ 63 ∧ e 7 = .int .i64 y ∧ ∃ bs, OwnV 5 n σ (e 5) bs ∧ Keep σ0 σ ∧ bs ++ putN y = out ++ putN x ∧ bs.length + 9 ≤ 9 + out.length + 9
theorem put_inner {n : Nat} {σ0 σ : St} (hn : n = σ0.toks.length) {out : List UInt8} {x : Nat} (hx : x < 2 ^ 63) (hlen : out.length ≤ 140737488355000) {e : Nat → V} (h7 : e 7 = .int .i64 x) (h5 : OwnV 5 n σ (e 5) out) (hk : Keep σ0 σ) :
    Ev Try.prog prims 43 (.loop k49_l1) e σ (fun ex e' σ' => ex = .exit 2 ∧ Keep σ0 σ' ∧ ∃ y bs, y ≤ 127 ∧ e' 7 = .int .i64 (y : Nat) ∧ OwnV 5 n σ' (e' 5) bs ∧ bs ++ putN y = out ++ putN x) := by
  have hpl : (putN x).length ≤ 9 := putN_len x 8 (by omega)
  refine Ev.loopF (I14 n σ0 out x) (fun y => y) x ⟨hx, h7, out, h5, hk, rfl, by omega⟩ ?_
  rintro y e σ ⟨hy, h7, bs, h5, hk, hbs, hbl⟩ hf
  have hlb : bs.length + (putN y).length = out.length + (putN x).length := by rw [← List.length_append, hbs, List.length_append]
  by_cases hgt : 127 < y
  · have hgt' : (127 : Int) < y := by omega
    have hb := buildByte BT (n := y % 128 + 128) (by omega)
    have hwb : IntKind.u8.wrap ((y % 128 + 128 : Nat) : Int) = ((y % 128 + 128 : Nat) : Int) := wrap_u8 (by omega) (by omega)
    have hor : bitOp .or .i64 ((y % 128 : Nat) : Int) 128 = some ((y % 128 + 128 : Nat) : Int) := or128i (by omega)
    have hsh : (y : Int) / 2 ^ (min (7 : Int).toNat IntKind.i64.bits) = ((y / 128 : Nat) : Int) := by
      have : min (7 : Int).toNat IntKind.i64.bits = 7 := by decide
      rw [this]
      omega
    obtain ⟨v', σ', ha, ho, hk'⟩ := h5.append BT hn hk T22 hb.2 (by simp; omega)
    simp only [k49_a, WK, vop, evAll, evOpt, evParts, vbuiltin, vun, vextract, Nat.reduceLT, Nat.reduceEqDiff, ↓reduceIte, reduceCtorEq, Nat.reduceAdd, Int.reduceLT, Int.reduceNeg, valloc_std, noSB, vhot, h7, hgt', and127i hy, hor, vconv, T3, T5, hwb, hb.1, ha, hsh]
    have hput : putN y = UInt8.ofNat (y % 128 + 128) :: putN (y / 128) := by rw [putN, dif_pos hgt]
    refine ⟨y / 128, ⟨by omega, by simp [upd_some], _, by simp only [upd_some, ↓reduceIte, Nat.reduceEqDiff]; exact ho, hk', ?_, ?_⟩, by omega⟩
    · rw [← hbs, hput, List.append_assoc]; rfl
    · have : (putN y).length = (putN (y / 128)).length + 1 := by rw [hput]; rfl
      simp
      omega
  · have hgt' : ¬ (127 : Int) < y := by omega
    simp only [k49_a, WK, vop, evAll, evOpt, evParts, vbuiltin, vun, vextract, Nat.reduceLT, Nat.reduceEqDiff, ↓reduceIte, reduceCtorEq, Nat.reduceAdd, Int.reduceLT, Int.reduceNeg, valloc_std, noSB, vhot, h7, hgt']
    exact ⟨hk, y, bs, by omega, rfl, h5, hbs⟩
theorem putS_take {xs : List Int} {i : Nat} (h : i < xs.length) : putS (xs.take (i + 1)) = putS (xs.take i) ++ putN (xs[i].toNat) := by
  unfold putS
  rw [List.take_succ_eq_append_getElem h, List.flatMap_append]
  simp only [List.flatMap_cons, List.flatMap_nil, List.append_nil]
theorem putS_len : ∀ {xs : List Int}, (∀ x ∈ xs, InI64 x) → (putS xs).length ≤ 9 * xs.length
  | [], _ => by simp [putS]
  | x :: xs, h => by
    have h1 := putS_len (xs := xs) fun y hy => h y (List.mem_cons_of_mem _ hy)
    have h2 := h x (List.mem_cons_self ..)
    unfold InI64 at h2
    have h3 := putN_len x.toNat 8 (by omega)
    simp only [putS, List.flatMap_cons, List.length_append, List.length_cons] at h1 ⊢
    omega
def I14o (n : Nat) (σ0 : St) (bs : List UInt8) (xs : List Int) : Nat → (Nat → V) → St → Prop := fun i e σ => e 19 = .int .i64 i ∧ i ≤ xs.length ∧ OwnV 5 n σ (e 5) (bs ++ putS (xs.take i)) ∧ Keep σ0 σ
theorem put_does {v w : V} {bs : List UInt8} {xs : List Int} (hv : BtsV v bs) (hw : IntsV w xs) (hlen : bs.length + 9 * xs.length ≤ 140737488300000) (σ : St) :
    ∃ r σ', Does Try.prog prims 49 [v, w] σ (.ret r) σ' ∧ Keep σ σ' ∧ OwnV 5 σ.toks.length σ' r (bs ++ putS xs) := by
  have key : ∃ r σ', Does Try.prog prims 49 [v, w] σ r σ' ∧ ∃ r', r = .ret r' ∧ Keep σ σ' ∧ OwnV 5 σ.toks.length σ' r' (bs ++ putS xs) := by
    apply k49_is.does (by simp)
    have hw1 : IntKind.i64.wrap (2 * (xs.length : Int)) = 2 * (xs.length : Int) := wrap_i64 (by omega) (by omega)
    have hw2 : IntKind.i64.wrap ((bs.length : Int) + 2 * (xs.length : Int)) = (bs.length : Int) + 2 * (xs.length : Int) := wrap_i64 (by omega) (by omega)
    have hmk := make0 BT (σ := σ) (c := (bs.length : Int) + 2 * (xs.length : Int)) (by omega) (by omega)
    have hk1 : Keep σ ⟨σ.objs, σ.toks ++ [true]⟩ := ⟨fun _ _ h => h, by simp, fun k h => tokLive_app h⟩
    have ho1 : OwnV 5 σ.toks.length ⟨σ.objs, σ.toks ++ [true]⟩ (.slice (.tok σ.toks.length 5) 1 [] 0) [] := .inr ⟨_, rfl, .inr ⟨_, rfl, tokLive_new _, Nat.le_refl _⟩⟩
    obtain ⟨v', σ', ha, ho, hk⟩ := ho1.append BT rfl hk1 T22 hv (by simp; omega)
    simp only [k49_a, WK, vop, evAll, evOpt, evParts, vbuiltin, vun, vextract, Nat.reduceLT, Nat.reduceEqDiff, ↓reduceIte, reduceCtorEq, Nat.reduceAdd, Int.reduceLT, Int.reduceNeg, valloc_std, noSB, vhot, List.getD_cons_zero, List.getD_cons_succ, hv.len T22, hw.len IT, hw1, hw2, hmk, ha]
    refine Ev.loopF (I14o σ.toks.length σ bs xs) (fun i => xs.length - i) 0 ⟨by simp [upd_some], by simp, by simpa [upd_some, putS] using ho, hk⟩ ?_
    rintro i e σ1 ⟨h19, hi, h5, hk1⟩ hf
    have h17 : e 17 = w := (hf 17 (by decide)).trans (by simp [upd_some])
    have h18 : e 18 = .int .i64 xs.length := (hf 18 (by decide)).trans (by simp [upd_some])
    by_cases hlt : i < xs.length
    · have hlt' : (i : Int) < xs.length := by omega
      have hI := hw.2 xs[i] (List.getElem_mem hlt)
      have hI2 : xs[i].toNat < 2 ^ 63 := by unfold InI64 at hI; omega
      have hwi : IntKind.i64.wrap ((i : Int) + 1) = ((i + 1 : Nat) : Int) := by rw [show ((i : Int) + 1) = ((i + 1 : Nat) : Int) from by omega]; exact wrap_nat (by omega)
      have hmx : vmm true (.int .i64 xs[i]) (.int .i64 0) = some (.int .i64 (xs[i].toNat : Nat)) := by
        simp only [vmm, if_true]
        congr 2
        split <;> omega
      simp only [k49_a, WK, vop, evAll, evOpt, evParts, vbuiltin, vun, vextract, Nat.reduceLT, Nat.reduceEqDiff, ↓reduceIte, reduceCtorEq, Nat.reduceAdd, Int.reduceLT, Int.reduceNeg, valloc_std, noSB, vhot, h17, h18, h19, hlt', hw.addr IT (Int.natCast_nonneg i) hlt', IntsV.load IT hlt, Int.toNat_natCast, hmx]
      have hpl := putS_len (xs := xs.take i) fun x hx => hw.2 x (List.mem_of_mem_take hx)
      rw [List.length_take, Nat.min_eq_left (Nat.le_of_lt hlt)] at hpl
      have hpn := putN_len xs[i].toNat 8 (by omega)
      clear hf
      refine Ev.cut (put_inner (out := bs ++ putS (xs.take i)) (x := xs[i].toNat) rfl hI2 (by rw [List.length_append]; omega) (by simp [upd_some]) (by first | exact h5 | (simp only [upd_some, ↓reduceIte, Nat.reduceEqDiff]; exact h5)) hk1) ?_
      rintro ex e' σ2 ⟨rfl, hk2, y, bs2, hy, h7, h5', heq⟩ hf2
      have g19 : e' 19 = .int .i64 i := (hf2 19 (by decide)).trans (by simp [upd_some, h19])
      clear hf2
      have hputy : putN y = [UInt8.ofNat y] := by rw [putN, dif_neg (by omega)]
      have hb := buildByte BT (n := y) (by omega)
      have hwb : IntKind.u8.wrap (y : Int) = y := wrap_u8 (by omega) (by omega)
      have hl2 : bs2.length + 1 = (bs ++ putS (xs.take i)).length + (putN xs[i].toNat).length := by rw [← List.length_append, ← heq, List.length_append, hputy]; rfl
      simp only [List.length_append] at hl2
      obtain ⟨v2, σ3, ha, ho, hk'⟩ := h5'.append BT rfl hk2 T22 hb.2 (by simp; omega)
      simp only [k49_a, WK, vop, evAll, evOpt, evParts, vbuiltin, vun, vextract, Nat.reduceLT, Nat.reduceEqDiff, ↓reduceIte, reduceCtorEq, Nat.reduceAdd, Int.reduceLT, Int.reduceNeg, valloc_std, noSB, vhot, h7, g19, vconv, T3, T5, hwb, hb.1, ha, hwi]
      refine ⟨i + 1, ⟨by simp [upd_some], hlt, ?_, hk'⟩, by omega⟩
      simp only [upd_some, ↓reduceIte, Nat.reduceEqDiff]
      rw [putS_take hlt, ← List.append_assoc, ← heq, hputy]
      exact ho
    · have hlt' : ¬ (i : Int) < xs.length := by omega
      simp only [k49_a, WK, vop, evAll, evOpt, evParts, vbuiltin, vun, vextract, Nat.reduceLT, Nat.reduceEqDiff, ↓reduceIte, reduceCtorEq, Nat.reduceAdd, Int.reduceLT, Int.reduceNeg, valloc_std, noSB, vhot, h17, h18, h19, hlt']
      have : xs.take i = xs := List.take_of_length_le (by omega)
      rw [this] at h5
      exact ⟨_, rfl, hk1, h5⟩
  obtain ⟨r, σ', h1, r', rfl, h2, h3⟩ := key
  exact ⟨r', σ', h1, h2, h3⟩
end Go.Proofs.Ytplhelapcpcncaa.Q

set_option linter.unusedVariables false
set_option linter.unusedSimpArgs false
namespace Go.Proofs.Ytplhelapcpcncaa.Q
open Go Go.RowKit Go.Proofs
/-- The order of numbers. -/
def sgn (a b : Int) : Int := if a < b then -1 else if b < a then 1 else 0
/-- The first that is not 0. -/
def orI : List Int → Int
  | [] => 0
  | x :: l => if x = 0 then orI l else x
theorem nan_does (x : Int) (σ : St) : Does Try.prog prims 78 [.int .i64 x] σ (.ret (.bool false)) σ := by
  apply k78_is.ret (by simp)
  simp only [k78_a, WK, vop, evAll, evOpt, evParts, vbuiltin, vun, vextract, Nat.reduceLT, Nat.reduceEqDiff, ↓reduceIte, reduceCtorEq, Nat.reduceAdd, Int.reduceLT, Int.reduceNeg, valloc_std, noSB, vhot, List.getD_cons_zero]
theorem sgn_does (a b : Int) (σ : St) : Does Try.prog prims 73 [.int .i64 a, .int .i64 b] σ (.ret (.int .i64 (sgn a b))) σ := by
  apply k73_is.ret (by simp)
  simp only [k73_a, WK, vop, evAll, evOpt, evParts, vbuiltin, vun, vextract, Nat.reduceLT, Nat.reduceEqDiff, ↓reduceIte, reduceCtorEq, Nat.reduceAdd, Int.reduceLT, Int.reduceNeg, valloc_std, noSB, vhot, List.getD_cons_zero, List.getD_cons_succ]
  refine KD.ret (nan_does a σ) ?_
  simp only [k73_a, WK, vop, evAll, evOpt, evParts, vbuiltin, vun, vextract, Nat.reduceLT, Nat.reduceEqDiff, ↓reduceIte, reduceCtorEq, Nat.reduceAdd, Int.reduceLT, Int.reduceNeg, valloc_std, noSB, vhot, List.getD_cons_zero, List.getD_cons_succ]
  refine KD.ret (nan_does b σ) ?_
  unfold sgn
  by_cases h1 : a < b
  · simp only [k73_a, WK, vop, evAll, evOpt, evParts, vbuiltin, vun, vextract, Nat.reduceLT, Nat.reduceEqDiff, ↓reduceIte, reduceCtorEq, Nat.reduceAdd, Int.reduceLT, Int.reduceNeg, valloc_std, noSB, vhot, List.getD_cons_zero, List.getD_cons_succ, h1]
    try rfl
  · by_cases h2 : b < a
    · simp only [k73_a, WK, vop, evAll, evOpt, evParts, vbuiltin, vun, vextract, Nat.reduceLT, Nat.reduceEqDiff, ↓reduceIte, reduceCtorEq, Nat.reduceAdd, Int.reduceLT, Int.reduceNeg, valloc_std, noSB, vhot, List.getD_cons_zero, List.getD_cons_succ, h1, h2]
      try rfl
    · simp only [k73_a, WK, vop, evAll, evOpt, evParts, vbuiltin, vun, vextract, Nat.reduceLT, Nat.reduceEqDiff, ↓reduceIte, reduceCtorEq, Nat.reduceAdd, Int.reduceLT, Int.reduceNeg, valloc_std, noSB, vhot, List.getD_cons_zero, List.getD_cons_succ, h1, h2]
      try rfl
theorem or_does {w : V} {xs : List Int} (hw : IntsV w xs) (hl : xs.length ≤ 1000) (σ : St) : Does Try.prog prims 72 [w] σ (.ret (.int .i64 (orI xs))) σ := by
  apply k72_is.ret (by simp)
  simp only [k72_a, WK, vop, evAll, evOpt, evParts, vbuiltin, vun, vextract, Nat.reduceLT, Nat.reduceEqDiff, ↓reduceIte, reduceCtorEq, Nat.reduceAdd, Int.reduceLT, Int.reduceNeg, valloc_std, noSB, vhot, List.getD_cons_zero, hw.len IT]
  refine Ev.loopF (fun i e σ' => e 8 = .int .i64 (i : Nat) ∧ i ≤ xs.length ∧ orI xs = orI (xs.drop i) ∧ σ' = σ) (fun i => xs.length - i) 0 ⟨by simp [upd_some], by simp, by simp, rfl⟩ ?_
  rintro i e σ' ⟨h8, hi, hor, rfl⟩ hf
  have h7 : e 7 = .int .i64 xs.length := (hf 7 (by decide)).trans (by simp [upd_some])
  have h6 : e 6 = w := (hf 6 (by decide)).trans (by simp [upd_some])
  have h3 : e 3 = .int .i64 0 := (hf 3 (by decide)).trans (by simp [upd_some])
  clear hf
  by_cases hlt : i < xs.length
  · have hlt' : (i : Int) < xs.length := by omega
    have hwi : IntKind.i64.wrap ((i : Int) + 1) = ((i + 1 : Nat) : Int) := by rw [show ((i : Int) + 1) = ((i + 1 : Nat) : Int) from by omega]; exact wrap_nat (by omega)
    rw [List.drop_eq_getElem_cons hlt, orI] at hor
    by_cases hx : xs[i] = 0
    · rw [if_pos hx] at hor
      simp only [k72_a, WK, vop, evAll, evOpt, evParts, vbuiltin, vun, vextract, Nat.reduceLT, Nat.reduceEqDiff, ↓reduceIte, reduceCtorEq, Nat.reduceAdd, Int.reduceLT, Int.reduceNeg, valloc_std, noSB, vhot, h3, h6, h7, h8, hlt', hw.addr IT (Int.natCast_nonneg i) hlt', IntsV.load IT hlt, Int.toNat_natCast, hx, hwi]
      exact ⟨i + 1, ⟨by simp [upd_some], hlt, hor⟩, by omega⟩
    · rw [if_neg hx] at hor
      simp only [k72_a, WK, vop, evAll, evOpt, evParts, vbuiltin, vun, vextract, Nat.reduceLT, Nat.reduceEqDiff, ↓reduceIte, reduceCtorEq, Nat.reduceAdd, Int.reduceLT, Int.reduceNeg, valloc_std, noSB, vhot, h3, h6, h7, h8, hlt', hw.addr IT (Int.natCast_nonneg i) hlt', IntsV.load IT hlt, Int.toNat_natCast, hx]
      rw [hor]
  · have hlt' : ¬ (i : Int) < xs.length := by omega
    have : xs.drop i = [] := List.drop_of_length_le (by omega)
    rw [this, orI] at hor
    simp only [k72_a, WK, vop, evAll, evOpt, evParts, vbuiltin, vun, vextract, Nat.reduceLT, Nat.reduceEqDiff, ↓reduceIte, reduceCtorEq, Nat.reduceAdd, Int.reduceLT, Int.reduceNeg, valloc_std, noSB, vhot, h3, h6, h7, h8, hlt']
    rw [hor]
mutual
def cmpV : Val → Val → Int
  | .mk k n t l, .mk k' n' t' l' => orI [sgn k k', sgn n n', Lib.compareBytes t t', cmpL l l']
def cmpL : List Val → List Val → Int
  | [], [] => 0
  | [], _ :: _ => -1
  | _ :: _, [] => 1
  | a :: l, b :: m => if cmpV a b = 0 then cmpL l m else cmpV a b
end
theorem cmpL_nil (m : List Val) : cmpL [] m = if (0 : Nat) < m.length then -1 else 0 := by cases m <;> simp [cmpL]
theorem cmpL_cons_nil (a : Val) (l : List Val) : cmpL (a :: l) [] = 1 := by rw [cmpL]
theorem compareBytes_in : ∀ a b : List UInt8, Lib.compareBytes a b = -1 ∨ Lib.compareBytes a b = 0 ∨ Lib.compareBytes a b = 1
  | [], [] => by simp [Lib.compareBytes]
  | [], _ :: _ => by simp [Lib.compareBytes]
  | _ :: _, [] => by simp [Lib.compareBytes]
  | a :: l, b :: m => by
    rw [Lib.compareBytes]
    split
    · simp
    · split
      · simp
      · exact compareBytes_in l m
theorem sgn_in (a b : Int) : sgn a b = -1 ∨ sgn a b = 0 ∨ sgn a b = 1 := by
  unfold sgn; split
  · simp
  · split <;> simp
theorem orI_in : ∀ {l : List Int}, (∀ x ∈ l, x = -1 ∨ x = 0 ∨ x = 1) → orI l = -1 ∨ orI l = 0 ∨ orI l = 1
  | [], _ => by simp [orI]
  | x :: l, h => by
    rw [orI]
    split
    · exact orI_in fun y hy => h y (List.mem_cons_of_mem _ hy)
    · exact h x (List.mem_cons_self ..)
theorem cmp_in : ∀ (n : Nat) (a b : Val), weight a ≤ n → cmpV a b = -1 ∨ cmpV a b = 0 ∨ cmpV a b = 1
  | 0, a, b, h => by have := weight_pos a; omega
  | n + 1, .mk k m t l, .mk k' m' t' l', h => by
    rw [weight] at h
    have rows : ∀ (l m : List Val), weights l ≤ n → cmpL l m = -1 ∨ cmpL l m = 0 ∨ cmpL l m = 1 := by
      intro l
      induction l with
      | nil => intro m _; cases m <;> simp [cmpL]
      | cons a l ih =>
        intro m hl
        rw [weights] at hl
        cases m with
        | nil => simp [cmpL]
        | cons b m =>
          rw [cmpL]
          split
          · exact ih m (by omega)
          · exact cmp_in n a b (by omega)
    rw [cmpV]
    refine orI_in ?_
    intro x hx
    simp only [List.mem_cons, List.not_mem_nil, or_false] at hx
    rcases hx with rfl | rfl | rfl | rfl
    · exact sgn_in _ _
    · exact sgn_in _ _
    · exact compareBytes_in _ _
    · exact rows l l' (by omega)
theorem cmpV_in (a b : Val) : cmpV a b = -1 ∨ cmpV a b = 0 ∨ cmpV a b = 1 := cmp_in _ a b (Nat.le_refl _)
theorem cmpL_in : ∀ (l m : List Val), cmpL l m = -1 ∨ cmpL l m = 0 ∨ cmpL l m = 1
  | [], m => by cases m <;> simp [cmpL]
  | a :: l, [] => by simp [cmpL]
  | a :: l, b :: m => by
    rw [cmpL]
    split
    · exact cmpL_in l m
    · exact cmpV_in a b
theorem in64 {x : Int} (h : x = -1 ∨ x = 0 ∨ x = 1) : InI64 x := by unfold InI64; omega
theorem buildInts4 {a b c d : Int} (h : ∀ x ∈ [a, b, c, d], InI64 x) : ∃ v, vbuildSlice Try.prog 70 4 [(0, .int .i64 a), (1, .int .i64 b), (2, .int .i64 c), (3, .int .i64 d)] = some v ∧ IntsV v [a, b, c, d] := by
  refine ⟨.slice .exact 1 [i64V a, i64V b, i64V c, i64V d] 4, ?_, .inr ⟨.exact, rfl⟩, h⟩
  simp [vbuildSlice, IT.u, IT.s, IT.z, vcells, vfill, zeroCellsV, setAll, i64V]
  simp [List.range, List.range.loop]
/-- What is known of a comparison of the parts. -/
def CmpOk (F : FuncId) (l : List Val) : Prop := ∀ a ∈ l, ∀ (b : Val) (c1 c2 : List V) (σ : St), ValC a c1 → ValC b c2 → ∃ σ', Does Try.prog prims F [.agg c1, .agg c2] σ (.ret (.int .i64 (cmpV a b))) σ' ∧ Keep σ σ'
def I59 (σ0 : St) (l m : List Val) : Nat → (Nat → V) → St → Prop := fun i e σ => e 13 = .int .i64 i ∧ i ≤ l.length ∧ i ≤ m.length ∧ cmpL l m = cmpL (l.drop i) (m.drop i) ∧ Keep σ0 σ
theorem comparefunc_does {F : FuncId} {l m : List Val} (H : CmpOk F l) {v w : V} (hv : ValsW l v) (hw : ValsW m w) (hl : l.length ≤ 4294967296) (σ : St) :
    ∃ σ', Does Try.prog prims 75 [v, w, .func F []] σ (.ret (.int .i64 (cmpL l m))) σ' ∧ Keep σ σ' := by
  have key : ∃ q σ', Does Try.prog prims 75 [v, w, .func F []] σ q σ' ∧ q = .ret (.int .i64 (cmpL l m)) ∧ Keep σ σ' := by
    apply k75_is.does (by simp)
    simp only [k75_a, WK, vop, evAll, evOpt, evParts, vbuiltin, vun, vextract, Nat.reduceLT, Nat.reduceEqDiff, ↓reduceIte, reduceCtorEq, Nat.reduceAdd, Int.reduceLT, Int.reduceNeg, valloc_std, noSB, vhot, List.getD_cons_zero, List.getD_cons_succ, hv.len]
    refine Ev.loopF (I59 σ l m) (fun i => l.length - i) 0 ⟨by simp [upd_some], by simp, by simp, by simp, Keep.refl σ⟩ ?_
    rintro i e σ1 ⟨h13, hi, him, heq, hk⟩ hf
    have h12 : e 12 = .int .i64 l.length := (hf 12 (by decide)).trans (by simp [upd_some])
    have h11 : e 11 = v := (hf 11 (by decide)).trans (by simp [upd_some])
    have h0 : e 0 = v := (hf 0 (by decide)).trans (by simp [upd_some])
    have h1 : e 1 = w := (hf 1 (by decide)).trans (by simp [upd_some])
    have h2 : e 2 = .func F [] := (hf 2 (by decide)).trans (by simp [upd_some])
    clear hf
    by_cases hlt : i < l.length
    · have hlt' : (i : Int) < l.length := by omega
      have hwi : IntKind.i64.wrap ((i : Int) + 1) = ((i + 1 : Nat) : Int) := by rw [show ((i : Int) + 1) = ((i + 1 : Nat) : Int) from by omega]; exact wrap_nat (by omega)
      obtain ⟨cs, c, ha, hld, hc⟩ := hv.get hlt
      obtain ⟨s2, hs2⟩ : ∃ s2 : St, s2 = ⟨(σ1.objs ++ [Ob.cells val0C]).set σ1.objs.length (Ob.cells c), σ1.toks⟩ := ⟨_, rfl⟩
      have q2 : IsV s2 σ1.objs.length c := by rw [hs2]; exact IsV.made
      have k2 : Keep σ1 s2 := by rw [hs2]; exact (Keep.refl σ1).madeV _ _
      rw [List.drop_eq_getElem_cons hlt] at heq
      by_cases hge : (m.length : Int) ≤ (i : Int)
      · have hmi : m.drop i = [] := List.drop_of_length_le (by omega)
        rw [hmi, cmpL_cons_nil] at heq
        simp only [k75_a, WK, vop, evAll, evOpt, evParts, vbuiltin, vun, vextract, Nat.reduceLT, Nat.reduceEqDiff, ↓reduceIte, reduceCtorEq, Nat.reduceAdd, Int.reduceLT, Int.reduceNeg, valloc_std, noSB, vhot, h1, h11, h12, h13, hlt', ha, hld, VZ24, vbox, vcells, IsV.new hc.len (show val0C.length = 4 from rfl) hc.one, ← hs2, hw.len, hge]
        exact ⟨by rw [heq], hk.trans k2⟩
      · have hltm : i < m.length := by omega
        obtain ⟨cs', c', ha', hld', hc'⟩ := hw.get hltm
        rw [List.drop_eq_getElem_cons hltm, cmpL] at heq
        obtain ⟨s3, hs3⟩ : ∃ s3 : St, s3 = ⟨(s2.objs ++ [Ob.cells val0C]).set s2.objs.length (Ob.cells c'), s2.toks⟩ := ⟨_, rfl⟩
        have q3 : IsV s3 s2.objs.length c' := by rw [hs3]; exact IsV.made
        have k3 : Keep s2 s3 := by rw [hs3]; exact (Keep.refl s2).madeV _ _
        have p3 := k3.atV q2
        obtain ⟨s4, d4, k4⟩ := H l[i] (List.getElem_mem hlt) m[i] c c' s3 hc hc'
        simp only [k75_a, WK, vop, evAll, evOpt, evParts, vbuiltin, vun, vextract, Nat.reduceLT, Nat.reduceEqDiff, ↓reduceIte, reduceCtorEq, Nat.reduceAdd, Int.reduceLT, Int.reduceNeg, valloc_std, noSB, vhot, h1, h2, h11, h12, h13, hlt', ha, hld, VZ24, vbox, vcells, IsV.new hc.len (show val0C.length = 4 from rfl) hc.one, ← hs2, hw.len, hge, ha', hld', IsV.new hc'.len (show val0C.length = 4 from rfl) hc'.one, ← hs3, p3.load hc.len, q3.load hc'.len]
        refine KD.ret d4 ?_
        by_cases hz : cmpV l[i] m[i] = 0
        · rw [if_pos hz] at heq
          simp only [k75_a, WK, vop, evAll, evOpt, evParts, vbuiltin, vun, vextract, Nat.reduceLT, Nat.reduceEqDiff, ↓reduceIte, reduceCtorEq, Nat.reduceAdd, Int.reduceLT, Int.reduceNeg, valloc_std, noSB, vhot, h13, hz, hwi]
          exact ⟨i + 1, ⟨by simp [upd_some], hlt, hltm, heq, ((hk.trans k2).trans k3).trans k4⟩, by omega⟩
        · rw [if_neg hz] at heq
          simp only [k75_a, WK, vop, evAll, evOpt, evParts, vbuiltin, vun, vextract, Nat.reduceLT, Nat.reduceEqDiff, ↓reduceIte, reduceCtorEq, Nat.reduceAdd, Int.reduceLT, Int.reduceNeg, valloc_std, noSB, vhot, h13, hz]
          exact ⟨by rw [heq], ((hk.trans k2).trans k3).trans k4⟩
    · have hlt' : ¬ (i : Int) < l.length := by omega
      have hli : l.drop i = [] := List.drop_of_length_le (by omega)
      rw [hli, cmpL_nil, List.length_drop] at heq
      by_cases hs : (l.length : Int) < m.length
      · rw [if_pos (by omega)] at heq
        simp only [k75_a, WK, vop, evAll, evOpt, evParts, vbuiltin, vun, vextract, Nat.reduceLT, Nat.reduceEqDiff, ↓reduceIte, reduceCtorEq, Nat.reduceAdd, Int.reduceLT, Int.reduceNeg, valloc_std, noSB, vhot, h0, h1, h11, h12, h13, hlt', hv.len, hw.len, hs]
        exact ⟨by rw [heq], hk⟩
      · rw [if_neg (by omega)] at heq
        simp only [k75_a, WK, vop, evAll, evOpt, evParts, vbuiltin, vun, vextract, Nat.reduceLT, Nat.reduceEqDiff, ↓reduceIte, reduceCtorEq, Nat.reduceAdd, Int.reduceLT, Int.reduceNeg, valloc_std, noSB, vhot, h0, h1, h11, h12, h13, hlt', hv.len, hw.len, hs]
        exact ⟨by rw [heq], hk⟩
  obtain ⟨q, σ', h1, rfl, h3⟩ := key
  exact ⟨σ', h1, h3⟩
theorem compare_ok : ∀ (n : Nat), n ≤ 4294967296 → ∀ {a b : Val} {c1 c2 : List V} (σ : St), weight a ≤ n → ValC a c1 → ValC b c2 → ∃ σ', Does Try.prog prims 62 [.agg c1, .agg c2] σ (.ret (.int .i64 (cmpV a b))) σ' ∧ Keep σ σ' := by
  intro n
  induction n with
  | zero => intro _ a b c1 c2 σ h; have := weight_pos a; omega
  | succ n ih =>
    intro hn a b c1 c2 σ hwt ha hb
    have key : ∃ q σ', Does Try.prog prims 62 [.agg c1, .agg c2] σ q σ' ∧ q = .ret (.int .i64 (cmpV a b)) ∧ Keep σ σ' := by
      obtain ⟨k, m, t, l, w, rfl, rfl, hw, ik, im⟩ := ha.inv
      obtain ⟨k', m', t', l', w', rfl, rfl, hw', ik', im'⟩ := hb.inv
      rw [weight] at hwt
      have hll := weights_len l
      have H : CmpOk 62 l := fun x hx b d1 d2 σ h1 h2 => by
        have := weights_mem hx
        exact ih (by omega) σ (by omega) h1 h2
      apply k62_is.does (by simp)
      obtain ⟨σ2, hσ2⟩ : ∃ σ2 : St, σ2 = ⟨(σ.objs ++ [Ob.cells [.int .i64 k, .int .i64 m, .str t, w]]) ++ [Ob.cells [.int .i64 k', .int .i64 m', .str t', w']], σ.toks⟩ := ⟨_, rfl⟩
      have hk2 : Keep σ σ2 := by rw [hσ2]; exact ((Keep.refl σ).push _).push _
      have q2 : IsV σ2 σ.objs.length [.int .i64 k, .int .i64 m, .str t, w] := by rw [hσ2]; show ((σ.objs ++ [_]) ++ [_])[_]? = _; rw [List.getElem?_append_left (by simp)]; exact push_new _ _
      have p2 : IsV σ2 (σ.objs.length + 1) [.int .i64 k', .int .i64 m', .str t', w'] := by rw [hσ2]; simp [IsV]
      obtain ⟨σ3, d3, k3⟩ := comparefunc_does H hw hw' (by omega) σ2
      have hI : ∀ x ∈ [sgn k k', sgn m m', Lib.compareBytes t t', cmpL l l'], InI64 x := by
        intro x hx
        simp only [List.mem_cons, List.not_mem_nil, or_false] at hx
        rcases hx with rfl | rfl | rfl | rfl
        · exact in64 (sgn_in _ _)
        · exact in64 (sgn_in _ _)
        · exact in64 (compareBytes_in _ _)
        · exact in64 (cmpL_in _ _)
      obtain ⟨b4, hb4, hb4i⟩ := buildInts4 hI
      have dor := or_does hb4i (by simp) σ3
      simp only [k62_a, WK, vop, evAll, evOpt, evParts, vbuiltin, vun, vextract, Nat.reduceLT, Nat.reduceEqDiff, ↓reduceIte, reduceCtorEq, Nat.reduceAdd, Int.reduceLT, Int.reduceNeg, valloc_std, noSB, vhot, List.getD_cons_zero, List.getD_cons_succ, vbox, vcells, List.length_append, List.length_cons, List.length_nil, ← hσ2, FV0, FV1, FV2, FV3, q2.kind, p2.kind]
      refine KD.ret (sgn_does _ _ _) ?_
      simp only [k62_a, WK, vop, evAll, evOpt, evParts, vbuiltin, vun, vextract, Nat.reduceLT, Nat.reduceEqDiff, ↓reduceIte, reduceCtorEq, Nat.reduceAdd, Int.reduceLT, Int.reduceNeg, valloc_std, noSB, vhot, FV0, FV1, FV2, FV3, q2.num, p2.num]
      refine KD.ret (sgn_does _ _ _) ?_
      simp only [k62_a, WK, vop, evAll, evOpt, evParts, vbuiltin, vun, vextract, Nat.reduceLT, Nat.reduceEqDiff, ↓reduceIte, reduceCtorEq, Nat.reduceAdd, Int.reduceLT, Int.reduceNeg, valloc_std, noSB, vhot, FV0, FV1, FV2, FV3, q2.text, p2.text]
      refine KD.ret (Does_compare t t' σ2) ?_
      simp only [k62_a, WK, vop, evAll, evOpt, evParts, vbuiltin, vun, vextract, Nat.reduceLT, Nat.reduceEqDiff, ↓reduceIte, reduceCtorEq, Nat.reduceAdd, Int.reduceLT, Int.reduceNeg, valloc_std, noSB, vhot, FV0, FV1, FV2, FV3, q2.list, p2.list]
      refine KD.ret d3 ?_
      simp only [k62_a, WK, vop, evAll, evOpt, evParts, vbuiltin, vun, vextract, Nat.reduceLT, Nat.reduceEqDiff, ↓reduceIte, reduceCtorEq, Nat.reduceAdd, Int.reduceLT, Int.reduceNeg, valloc_std, noSB, vhot, hb4]
      refine KD.ret dor ?_
      simp only [k62_a, WK, vop, evAll, evOpt, evParts, vbuiltin, vun, vextract, Nat.reduceLT, Nat.reduceEqDiff, ↓reduceIte, reduceCtorEq, Nat.reduceAdd, Int.reduceLT, Int.reduceNeg, valloc_std, noSB, vhot, q2.kind, q2.num, q2.text, q2.list, p2.kind, p2.num, p2.text, p2.list]
      rw [cmpV]
      exact ⟨rfl, hk2.trans k3⟩
    obtain ⟨q, σ', h1, rfl, h3⟩ := key
    exact ⟨σ', h1, h3⟩
theorem compare_does {a b : Val} {c1 c2 : List V} (σ : St) (hw : weight a ≤ 4294967296) (ha : ValC a c1) (hb : ValC b c2) : ∃ σ', Does Try.prog prims 62 [.agg c1, .agg c2] σ (.ret (.int .i64 (cmpV a b))) σ' ∧ Keep σ σ' :=
  compare_ok _ (Nat.le_refl _) σ hw ha hb
end Go.Proofs.Ytplhelapcpcncaa.Q

set_option linter.unusedVariables false
set_option linter.unusedSimpArgs false
namespace Go.Proofs.Ytplhelapcpcncaa.Q
open Go Go.RowKit Go.Proofs
theorem compareBytes_eq : ∀ a b : List UInt8, Lib.compareBytes a b = if a = b then 0 else if bytesLt a b = true then -1 else 1
  | [], [] => by simp [Lib.compareBytes]
  | [], _ :: _ => by simp [Lib.compareBytes, bytesLt]
  | _ :: _, [] => by simp [Lib.compareBytes, bytesLt]
  | a :: l, b :: m => by
    rw [Lib.compareBytes, bytesLt]
    by_cases h1 : a < b
    · have hne : ¬ a = b := by rintro rfl; exact absurd h1 (by simp)
      simp [h1, hne]
    · by_cases h2 : b < a
      · have hne : ¬ a = b := by rintro rfl; exact absurd h2 (by simp)
        have : (a == b) = false := by simpa using hne
        simp [h1, h2, hne, this]
      · have he : a = b := by
          have e1 : ¬ a.toNat < b.toNat := h1
          have e2 : ¬ b.toNat < a.toNat := h2
          exact UInt8.toNat_inj.1 (by omega)
        subst he
        rw [if_neg h1, if_neg h2, compareBytes_eq l m]
        simp
theorem sgn_eq {a b : Int} (h : a = b) : sgn a b = 0 := by subst h; simp [sgn]
theorem sgn_lt {a b : Int} (h : a < b) : sgn a b = -1 := by simp [sgn, h]
theorem sgn_gt {a b : Int} (h : b < a) : sgn a b = 1 := by
  have : ¬ a < b := by omega
  simp [sgn, h, this]
def I27 (σ0 : St) (q p : Nat) (l m : List Val) (c d : List V) : Nat → (Nat → V) → St → Prop := fun i e σ => e 5 = .int .i64 i ∧ i ≤ l.length ∧ i ≤ m.length ∧ cmpL l m = cmpL (l.drop i) (m.drop i) ∧ Keep σ0 σ ∧ IsV σ q c ∧ IsV σ p d
theorem refcompare_ok : ∀ (n : Nat), n ≤ 4294967296 → ∀ {a b : Val} {c1 c2 : List V} (σ : St), weight a ≤ n → ValC a c1 → ValC b c2 → ∃ σ', Does Try.prog prims 67 [.agg c1, .agg c2] σ (.ret (.int .i64 (cmpV a b))) σ' ∧ Keep σ σ' := by
  intro n
  induction n with
  | zero => intro _ a b c1 c2 σ h; have := weight_pos a; omega
  | succ n ih =>
    intro hn a b c1 c2 σ hwt ha hb
    have key : ∃ q σ', Does Try.prog prims 67 [.agg c1, .agg c2] σ q σ' ∧ q = .ret (.int .i64 (cmpV a b)) ∧ Keep σ σ' := by
      obtain ⟨k, m, t, l, w, rfl, rfl, hw, ik, im⟩ := ha.inv
      obtain ⟨k', m', t', l', w', rfl, rfl, hw', ik', im'⟩ := hb.inv
      rw [weight] at hwt
      have hll := weights_len l
      have H : CmpOk 67 l := fun x hx b d1 d2 σ h1 h2 => by
        have := weights_mem hx
        exact ih (by omega) σ (by omega) h1 h2
      apply k67_is.does (by simp)
      obtain ⟨c, hc⟩ : ∃ c : List V, c = [.int .i64 k, .int .i64 m, .str t, w] := ⟨_, rfl⟩
      obtain ⟨d, hd⟩ : ∃ d : List V, d = [.int .i64 k', .int .i64 m', .str t', w'] := ⟨_, rfl⟩
      obtain ⟨σ2, hσ2⟩ : ∃ σ2 : St, σ2 = ⟨(σ.objs ++ [Ob.cells c]) ++ [Ob.cells d], σ.toks⟩ := ⟨_, rfl⟩
      have hk2 : Keep σ σ2 := by rw [hσ2]; exact ((Keep.refl σ).push _).push _
      have q2 : IsV σ2 σ.objs.length c := by rw [hσ2]; show ((σ.objs ++ [_]) ++ [_])[_]? = _; rw [List.getElem?_append_left (by simp)]; exact push_new _ _
      have p2 : IsV σ2 (σ.objs.length + 1) d := by rw [hσ2]; simp [IsV]
      have q2' := q2
      have p2' := p2
      rw [hc] at q2'
      rw [hd] at p2'
      rw [← hc, ← hd]
      simp only [k67_a, WK, vop, evAll, evOpt, evParts, vbuiltin, vun, vextract, Nat.reduceLT, Nat.reduceEqDiff, ↓reduceIte, reduceCtorEq, Nat.reduceAdd, Int.reduceLT, Int.reduceNeg, valloc_std, noSB, vhot, List.getD_cons_zero, List.getD_cons_succ, vbox, vcells, List.length_append, List.length_cons, List.length_nil, ← hσ2, FV0, FV1, FV2, FV3, q2'.kind, p2'.kind]
      rw [cmpV]
      by_cases hk : k = k'
      case neg =>
        simp only [hk, k67_a, WK, vop, evAll, evOpt, evParts, vbuiltin, vun, vextract, Nat.reduceLT, Nat.reduceEqDiff, ↓reduceIte, reduceCtorEq, Nat.reduceAdd, Int.reduceLT, Int.reduceNeg, valloc_std, noSB, vhot, FV0, q2'.kind, p2'.kind]
        by_cases hlt : k < k'
        · simp only [hlt, k67_a, WK, vop, evAll, evOpt, evParts, vbuiltin, vun, vextract, Nat.reduceLT, Nat.reduceEqDiff, ↓reduceIte, reduceCtorEq, Nat.reduceAdd, Int.reduceLT, Int.reduceNeg, valloc_std, noSB, vhot]
          rw [orI, sgn_lt hlt]
          exact ⟨rfl, hk2⟩
        · simp only [hlt, k67_a, WK, vop, evAll, evOpt, evParts, vbuiltin, vun, vextract, Nat.reduceLT, Nat.reduceEqDiff, ↓reduceIte, reduceCtorEq, Nat.reduceAdd, Int.reduceLT, Int.reduceNeg, valloc_std, noSB, vhot]
          rw [orI, sgn_gt (by omega)]
          exact ⟨rfl, hk2⟩
      rw [orI, sgn_eq hk, if_pos rfl]
      simp only [hk, k67_a, WK, vop, evAll, evOpt, evParts, vbuiltin, vun, vextract, Nat.reduceLT, Nat.reduceEqDiff, ↓reduceIte, reduceCtorEq, Nat.reduceAdd, Int.reduceLT, Int.reduceNeg, valloc_std, noSB, vhot, FV1, q2'.num, p2'.num]
      by_cases hm : m = m'
      case neg =>
        simp only [hm, k67_a, WK, vop, evAll, evOpt, evParts, vbuiltin, vun, vextract, Nat.reduceLT, Nat.reduceEqDiff, ↓reduceIte, reduceCtorEq, Nat.reduceAdd, Int.reduceLT, Int.reduceNeg, valloc_std, noSB, vhot, FV1, q2'.num, p2'.num]
        by_cases hlt : m < m'
        · simp only [hlt, k67_a, WK, vop, evAll, evOpt, evParts, vbuiltin, vun, vextract, Nat.reduceLT, Nat.reduceEqDiff, ↓reduceIte, reduceCtorEq, Nat.reduceAdd, Int.reduceLT, Int.reduceNeg, valloc_std, noSB, vhot]
          rw [orI, sgn_lt hlt]
          exact ⟨rfl, hk2⟩
        · simp only [hlt, k67_a, WK, vop, evAll, evOpt, evParts, vbuiltin, vun, vextract, Nat.reduceLT, Nat.reduceEqDiff, ↓reduceIte, reduceCtorEq, Nat.reduceAdd, Int.reduceLT, Int.reduceNeg, valloc_std, noSB, vhot]
          rw [orI, sgn_gt (by omega)]
          exact ⟨rfl, hk2⟩
      rw [orI, sgn_eq hm, if_pos rfl]
      simp only [hm, k67_a, WK, vop, evAll, evOpt, evParts, vbuiltin, vun, vextract, Nat.reduceLT, Nat.reduceEqDiff, ↓reduceIte, reduceCtorEq, Nat.reduceAdd, Int.reduceLT, Int.reduceNeg, valloc_std, noSB, vhot, FV2, q2'.text, p2'.text, strBin]
      have hcb := compareBytes_eq t t'
      by_cases ht : t = t'
      case neg =>
        rw [if_neg ht] at hcb
        simp only [ht, k67_a, WK, vop, evAll, evOpt, evParts, vbuiltin, vun, vextract, Nat.reduceLT, Nat.reduceEqDiff, ↓reduceIte, reduceCtorEq, Nat.reduceAdd, Int.reduceLT, Int.reduceNeg, valloc_std, noSB, vhot, FV2, q2'.text, p2'.text, strBin]
        cases hlt : bytesLt t t' with
        | true =>
          rw [hlt, if_pos rfl] at hcb
          simp only [k67_a, WK, vop, evAll, evOpt, evParts, vbuiltin, vun, vextract, Nat.reduceLT, Nat.reduceEqDiff, ↓reduceIte, reduceCtorEq, Nat.reduceAdd, Int.reduceLT, Int.reduceNeg, valloc_std, noSB, vhot]
          rw [orI, hcb]
          exact ⟨rfl, hk2⟩
        | false =>
          rw [hlt, if_neg (by simp)] at hcb
          simp only [k67_a, WK, vop, evAll, evOpt, evParts, vbuiltin, vun, vextract, Nat.reduceLT, Nat.reduceEqDiff, ↓reduceIte, reduceCtorEq, Nat.reduceAdd, Int.reduceLT, Int.reduceNeg, valloc_std, noSB, vhot]
          rw [orI, hcb]
          exact ⟨rfl, hk2⟩
      rw [if_pos ht] at hcb
      rw [orI, hcb, if_pos rfl]
      have hor : orI [cmpL l l'] = cmpL l l' := by
        rw [orI, orI]
        split
        · rename_i h; exact h.symm
        · rfl
      rw [hor]
      simp only [ht, k67_a, WK, vop, evAll, evOpt, evParts, vbuiltin, vun, vextract, Nat.reduceLT, Nat.reduceEqDiff, ↓reduceIte, reduceCtorEq, Nat.reduceAdd, Int.reduceLT, Int.reduceNeg, valloc_std, noSB, vhot]
      refine Ev.loopF (I27 σ σ.objs.length (σ.objs.length + 1) l l' c d) (fun i => l.length - i) 0 ⟨by simp [upd_some], by simp, by simp, by simp, hk2, q2, p2⟩ ?_
      rintro i e σ1 ⟨h5, hi, him, heq, hkk, q1, p1⟩ hf
      have h2 : e 2 = .optr σ.objs.length 0 := (hf 2 (by decide)).trans (by simp [upd_some])
      have h3 : e 3 = .optr (σ.objs.length + 1) 0 := (hf 3 (by decide)).trans (by simp [upd_some])
      clear hf
      have q1' := q1
      have p1' := p1
      rw [hc] at q1'
      rw [hd] at p1'
      by_cases hlt : i < l.length
      · have hlt' : (i : Int) < l.length := by omega
        by_cases hltm : i < l'.length
        · have hltm' : (i : Int) < l'.length := by omega
          have hwi : IntKind.i64.wrap ((i : Int) + 1) = ((i + 1 : Nat) : Int) := by rw [show ((i : Int) + 1) = ((i + 1 : Nat) : Int) from by omega]; exact wrap_nat (by omega)
          obtain ⟨cs, c0, ha0, hld, hc0⟩ := hw.get hlt
          obtain ⟨cs', c0', ha', hld', hc'⟩ := hw'.get hltm
          rw [List.drop_eq_getElem_cons hlt, List.drop_eq_getElem_cons hltm, cmpL] at heq
          obtain ⟨s4, d4, k4⟩ := H l[i] (List.getElem_mem hlt) l'[i] c0 c0' σ1 hc0 hc'
          simp only [k67_a, WK, vop, evAll, evOpt, evParts, vbuiltin, vun, vextract, Nat.reduceLT, Nat.reduceEqDiff, ↓reduceIte, reduceCtorEq, Nat.reduceAdd, Int.reduceLT, Int.reduceNeg, valloc_std, noSB, vhot, h2, h3, h5, FV3, q1'.list, p1'.list, hw.len, hw'.len, hlt', hltm', ha0, hld, ha', hld']
          refine KD.ret d4 ?_
          by_cases hz : cmpV l[i] l'[i] = 0
          · rw [if_pos hz] at heq
            simp only [k67_a, WK, vop, evAll, evOpt, evParts, vbuiltin, vun, vextract, Nat.reduceLT, Nat.reduceEqDiff, ↓reduceIte, reduceCtorEq, Nat.reduceAdd, Int.reduceLT, Int.reduceNeg, valloc_std, noSB, vhot, h5, hz, hwi]
            exact ⟨i + 1, ⟨by simp [upd_some], hlt, hltm, heq, hkk.trans k4, k4.atV q1, k4.atV p1⟩, by omega⟩
          · rw [if_neg hz] at heq
            simp only [k67_a, WK, vop, evAll, evOpt, evParts, vbuiltin, vun, vextract, Nat.reduceLT, Nat.reduceEqDiff, ↓reduceIte, reduceCtorEq, Nat.reduceAdd, Int.reduceLT, Int.reduceNeg, valloc_std, noSB, vhot, h5, hz]
            exact ⟨by rw [heq], hkk.trans k4⟩
        · have hltm' : ¬ (i : Int) < l'.length := by omega
          have hmi : l'.drop i = [] := List.drop_of_length_le (by omega)
          rw [List.drop_eq_getElem_cons hlt, hmi, cmpL_cons_nil] at heq
          have e1 : ¬ (l.length : Int) < l'.length := by omega
          have e2 : (l'.length : Int) < l.length := by omega
          simp only [k67_a, WK, vop, evAll, evOpt, evParts, vbuiltin, vun, vextract, Nat.reduceLT, Nat.reduceEqDiff, ↓reduceIte, reduceCtorEq, Nat.reduceAdd, Int.reduceLT, Int.reduceNeg, valloc_std, noSB, vhot, h2, h3, h5, FV3, q1'.list, p1'.list, hw.len, hw'.len, hlt', hltm', e1, e2]
          exact ⟨by rw [heq], hkk⟩
      · have hlt' : ¬ (i : Int) < l.length := by omega
        have hli : l.drop i = [] := List.drop_of_length_le (by omega)
        rw [hli, cmpL_nil, List.length_drop] at heq
        have e2 : ¬ (l'.length : Int) < l.length := by omega
        by_cases hs : (l.length : Int) < l'.length
        · rw [if_pos (by omega)] at heq
          simp only [k67_a, WK, vop, evAll, evOpt, evParts, vbuiltin, vun, vextract, Nat.reduceLT, Nat.reduceEqDiff, ↓reduceIte, reduceCtorEq, Nat.reduceAdd, Int.reduceLT, Int.reduceNeg, valloc_std, noSB, vhot, h2, h3, h5, FV3, q1'.list, p1'.list, hw.len, hw'.len, hlt', hs]
          exact ⟨by rw [heq], hkk⟩
        · rw [if_neg (by omega)] at heq
          simp only [k67_a, WK, vop, evAll, evOpt, evParts, vbuiltin, vun, vextract, Nat.reduceLT, Nat.reduceEqDiff, ↓reduceIte, reduceCtorEq, Nat.reduceAdd, Int.reduceLT, Int.reduceNeg, valloc_std, noSB, vhot, h2, h3, h5, FV3, q1'.list, p1'.list, hw.len, hw'.len, hlt', hs, e2]
          exact ⟨by rw [heq], hkk⟩
    obtain ⟨q, σ', h1, rfl, h3⟩ := key
    exact ⟨σ', h1, h3⟩
theorem refcompare_does {a b : Val} {c1 c2 : List V} (σ : St) (hw : weight a ≤ 4294967296) (ha : ValC a c1) (hb : ValC b c2) : ∃ σ', Does Try.prog prims 67 [.agg c1, .agg c2] σ (.ret (.int .i64 (cmpV a b))) σ' ∧ Keep σ σ' :=
  refcompare_ok _ (Nat.le_refl _) σ hw ha hb
/-! ### Weights -/
def I28 (σ0 : St) (s : Nat) (l : List Val) : Nat → (Nat → V) → St → Prop := fun i e σ => e 13 = .int .i64 i ∧ i ≤ l.length ∧ e 3 = .int .i64 (s + weights (l.take i) : Nat) ∧ Keep σ0 σ
theorem weight_ok : ∀ (n : Nat), n ≤ 4294967296 → ∀ {a : Val} {c1 : List V} (σ : St), weight a ≤ n → ValC a c1 → ∃ σ', Does Try.prog prims 40 [.agg c1] σ (.ret (.int .i64 (weight a : Nat))) σ' ∧ Keep σ σ' := by
  intro n
  induction n with
  | zero => intro _ a c1 σ h; have := weight_pos a; omega
  | succ n ih =>
    intro hn a c1 σ hwt ha
    have key : ∃ q σ', Does Try.prog prims 40 [.agg c1] σ q σ' ∧ q = .ret (.int .i64 (weight a : Nat)) ∧ Keep σ σ' := by
      obtain ⟨k, m, t, l, w, rfl, rfl, hw, ik, im⟩ := ha.inv
      rw [weight] at hwt ⊢
      have hll := weights_len l
      apply k40_is.does (by simp)
      obtain ⟨σ2, hσ2⟩ : ∃ σ2 : St, σ2 = ⟨σ.objs ++ [Ob.cells [.int .i64 k, .int .i64 m, .str t, w]], σ.toks⟩ := ⟨_, rfl⟩
      have hk2 : Keep σ σ2 := by rw [hσ2]; exact (Keep.refl σ).push _
      have q2 : IsV σ2 σ.objs.length [.int .i64 k, .int .i64 m, .str t, w] := by rw [hσ2]; exact push_new _ _
      have w1 : IntKind.i64.wrap (1 + (t.length : Int)) = ((1 + t.length : Nat) : Int) := by rw [wrap_i64 (by omega) (by omega)]; omega
      simp only [k40_a, WK, vop, evAll, evOpt, evParts, vbuiltin, vun, vextract, Nat.reduceLT, Nat.reduceEqDiff, ↓reduceIte, reduceCtorEq, Nat.reduceAdd, Int.reduceLT, Int.reduceNeg, valloc_std, noSB, vhot, List.getD_cons_zero, vbox, vcells, ← hσ2, FV2, FV3, q2.text, q2.list, vlen_str T9, hw.len, w1]
      refine Ev.loopF (I28 σ (1 + t.length) l) (fun i => l.length - i) 0 ⟨by simp [upd_some], by simp, by simp [upd_some, weights], hk2⟩ ?_
      rintro i e σ1 ⟨h13, hi, h3, hk⟩ hf
      have h11 : e 11 = w := (hf 11 (by decide)).trans (by simp [upd_some])
      have h12 : e 12 = .int .i64 l.length := (hf 12 (by decide)).trans (by simp [upd_some])
      clear hf
      by_cases hlt : i < l.length
      · have hlt' : (i : Int) < l.length := by omega
        have hwi : IntKind.i64.wrap ((i : Int) + 1) = ((i + 1 : Nat) : Int) := by rw [show ((i : Int) + 1) = ((i + 1 : Nat) : Int) from by omega]; exact wrap_nat (by omega)
        obtain ⟨cs, c, ha0, hld, hc⟩ := hw.get hlt
        obtain ⟨s2, hs2⟩ : ∃ s2 : St, s2 = ⟨(σ1.objs ++ [Ob.cells val0C]).set σ1.objs.length (Ob.cells c), σ1.toks⟩ := ⟨_, rfl⟩
        have p2 : IsV s2 σ1.objs.length c := by rw [hs2]; exact IsV.made
        have k2 : Keep σ1 s2 := by rw [hs2]; exact (Keep.refl σ1).madeV _ _
        have hmem := weights_mem (List.getElem_mem hlt)
        obtain ⟨s3, d3, k3⟩ := ih (by omega) s2 (by omega) hc
        have hts := weights_take_succ hlt
        have htl := weights_take_le l (i + 1)
        have w2 : IntKind.i64.wrap (((1 + t.length + weights (l.take i) : Nat) : Int) + (weight l[i] : Nat)) = ((1 + t.length + weights (l.take (i + 1)) : Nat) : Int) := by rw [wrap_i64 (by omega) (by omega)]; omega
        simp only [k40_a, WK, vop, evAll, evOpt, evParts, vbuiltin, vun, vextract, Nat.reduceLT, Nat.reduceEqDiff, ↓reduceIte, reduceCtorEq, Nat.reduceAdd, Int.reduceLT, Int.reduceNeg, valloc_std, noSB, vhot, h3, h11, h12, h13, hlt', ha0, hld, VZ24, vbox, vcells, IsV.new hc.len (show val0C.length = 4 from rfl) hc.one, ← hs2, p2.load hc.len]
        refine KD.ret d3 ?_
        simp only [k40_a, WK, vop, evAll, evOpt, evParts, vbuiltin, vun, vextract, Nat.reduceLT, Nat.reduceEqDiff, ↓reduceIte, reduceCtorEq, Nat.reduceAdd, Int.reduceLT, Int.reduceNeg, valloc_std, noSB, vhot, h3, h13, w2, hwi]
        exact ⟨i + 1, ⟨by simp [upd_some], hlt, by simp [upd_some], (hk.trans k2).trans k3⟩, by omega⟩
      · have hlt' : ¬ (i : Int) < l.length := by omega
        simp only [k40_a, WK, vop, evAll, evOpt, evParts, vbuiltin, vun, vextract, Nat.reduceLT, Nat.reduceEqDiff, ↓reduceIte, reduceCtorEq, Nat.reduceAdd, Int.reduceLT, Int.reduceNeg, valloc_std, noSB, vhot, h3, h11, h12, h13, hlt']
        rw [List.take_of_length_le (by omega)]
        exact ⟨rfl, hk⟩
    obtain ⟨q, σ', h1, rfl, h3⟩ := key
    exact ⟨σ', h1, h3⟩
theorem weight_does {a : Val} {c1 : List V} (σ : St) (hw : weight a ≤ 4294967296) (ha : ValC a c1) : ∃ σ', Does Try.prog prims 40 [.agg c1] σ (.ret (.int .i64 (weight a : Nat))) σ' ∧ Keep σ σ' :=
  weight_ok _ (Nat.le_refl _) σ hw ha
end Go.Proofs.Ytplhelapcpcncaa.Q

set_option linter.unusedVariables false
set_option linter.unusedSimpArgs false
namespace Go.Proofs.Ytplhelapcpcncaa.Q
open Go Go.RowKit Go.Proofs
theorem refweight_ok : ∀ (n : Nat), n ≤ 4294967296 → ∀ {a : Val} {c1 : List V} (σ : St), weight a ≤ n → ValC a c1 → ∃ σ', Does Try.prog prims 43 [.agg c1] σ (.ret (.int .i64 (weight a : Nat))) σ' ∧ Keep σ σ' := by
  intro n
  induction n with
  | zero => intro _ a c1 σ h; have := weight_pos a; omega
  | succ n ih =>
    intro hn a c1 σ hwt ha
    have key : ∃ q σ', Does Try.prog prims 43 [.agg c1] σ q σ' ∧ q = .ret (.int .i64 (weight a : Nat)) ∧ Keep σ σ' := by
      obtain ⟨k, m, t, l, w, rfl, rfl, hw, ik, im⟩ := ha.inv
      rw [weight] at hwt ⊢
      have hll := weights_len l
      apply k43_is.does (by simp)
      obtain ⟨σ2, hσ2⟩ : ∃ σ2 : St, σ2 = ⟨σ.objs ++ [Ob.cells [.int .i64 k, .int .i64 m, .str t, w]], σ.toks⟩ := ⟨_, rfl⟩
      have hk2 : Keep σ σ2 := by rw [hσ2]; exact (Keep.refl σ).push _
      have q2 : IsV σ2 σ.objs.length [.int .i64 k, .int .i64 m, .str t, w] := by rw [hσ2]; exact push_new _ _
      have w1 : IntKind.i64.wrap (1 + (t.length : Int)) = ((1 + t.length : Nat) : Int) := by rw [wrap_i64 (by omega) (by omega)]; omega
      simp only [k43_a, WK, vop, evAll, evOpt, evParts, vbuiltin, vun, vextract, Nat.reduceLT, Nat.reduceEqDiff, ↓reduceIte, reduceCtorEq, Nat.reduceAdd, Int.reduceLT, Int.reduceNeg, valloc_std, noSB, vhot, List.getD_cons_zero, vbox, vcells, ← hσ2, FV2, FV3, q2.text, q2.list, vlen_str T9, hw.len, w1]
      refine Ev.loopF (I28 σ (1 + t.length) l) (fun i => l.length - i) 0 ⟨by simp [upd_some], by simp, by simp [upd_some, weights], hk2⟩ ?_
      rintro i e σ1 ⟨h13, hi, h3, hk⟩ hf
      have h11 : e 11 = w := (hf 11 (by decide)).trans (by simp [upd_some])
      have h12 : e 12 = .int .i64 l.length := (hf 12 (by decide)).trans (by simp [upd_some])
      clear hf
      by_cases hlt : i < l.length
      · have hlt' : (i : Int) < l.length := by omega
        have hwi : IntKind.i64.wrap ((i : Int) + 1) = ((i + 1 : Nat) : Int) := by rw [show ((i : Int) + 1) = ((i + 1 : Nat) : Int) from by omega]; exact wrap_nat (by omega)
        obtain ⟨cs, c, ha0, hld, hc⟩ := hw.get hlt
        obtain ⟨s2, hs2⟩ : ∃ s2 : St, s2 = ⟨(σ1.objs ++ [Ob.cells val0C]).set σ1.objs.length (Ob.cells c), σ1.toks⟩ := ⟨_, rfl⟩
        have p2 : IsV s2 σ1.objs.length c := by rw [hs2]; exact IsV.made
        have k2 : Keep σ1 s2 := by rw [hs2]; exact (Keep.refl σ1).madeV _ _
        have hmem := weights_mem (List.getElem_mem hlt)
        obtain ⟨s3, d3, k3⟩ := ih (by omega) s2 (by omega) hc
        have hts := weights_take_succ hlt
        have htl := weights_take_le l (i + 1)
        have w2 : IntKind.i64.wrap (((1 + t.length + weights (l.take i) : Nat) : Int) + (weight l[i] : Nat)) = ((1 + t.length + weights (l.take (i + 1)) : Nat) : Int) := by rw [wrap_i64 (by omega) (by omega)]; omega
        simp only [k43_a, WK, vop, evAll, evOpt, evParts, vbuiltin, vun, vextract, Nat.reduceLT, Nat.reduceEqDiff, ↓reduceIte, reduceCtorEq, Nat.reduceAdd, Int.reduceLT, Int.reduceNeg, valloc_std, noSB, vhot, h3, h11, h12, h13, hlt', ha0, hld, VZ24, vbox, vcells, IsV.new hc.len (show val0C.length = 4 from rfl) hc.one, ← hs2, p2.load hc.len]
        refine KD.ret d3 ?_
        simp only [k43_a, WK, vop, evAll, evOpt, evParts, vbuiltin, vun, vextract, Nat.reduceLT, Nat.reduceEqDiff, ↓reduceIte, reduceCtorEq, Nat.reduceAdd, Int.reduceLT, Int.reduceNeg, valloc_std, noSB, vhot, h3, h13, w2, hwi]
        exact ⟨i + 1, ⟨by simp [upd_some], hlt, by simp [upd_some], (hk.trans k2).trans k3⟩, by omega⟩
      · have hlt' : ¬ (i : Int) < l.length := by omega
        simp only [k43_a, WK, vop, evAll, evOpt, evParts, vbuiltin, vun, vextract, Nat.reduceLT, Nat.reduceEqDiff, ↓reduceIte, reduceCtorEq, Nat.reduceAdd, Int.reduceLT, Int.reduceNeg, valloc_std, noSB, vhot, h3, h11, h12, h13, hlt']
        rw [List.take_of_length_le (by omega)]
        exact ⟨rfl, hk⟩
    obtain ⟨q, σ', h1, rfl, h3⟩ := key
    exact ⟨σ', h1, h3⟩
theorem refweight_does {a : Val} {c1 : List V} (σ : St) (hw : weight a ≤ 4294967296) (ha : ValC a c1) : ∃ σ', Does Try.prog prims 43 [.agg c1] σ (.ret (.int .i64 (weight a : Nat))) σ' ∧ Keep σ σ' :=
  refweight_ok _ (Nat.le_refl _) σ hw ha
/-! ### How large -/
theorem Keep.viaX' {σ σ1 σ2 : St} {r : Nat} (h : Keep σ σ1) (h2 : KeepX r σ1 σ2) (hr : σ.objs.length ≤ r) : Keep σ σ2 :=
  ⟨fun q o ho => h2.1 q o (by have := (List.getElem?_eq_some_iff.1 ho).1; omega) (h.1 q o ho), Nat.le_trans h.2.1 h2.2.1, fun k hk => h2.2.2 k (h.2.2 k hk)⟩
def IsN (σ : St) (p : Nat) (x : Nat) : Prop := σ.objs[p]? = some (.cells [.int .i64 (x : Nat)])
theorem IsN.load {σ : St} {p x : Nat} (h : IsN σ p x) : vload Try.prog σ.objs 3 (.optr p 0) = some (.int .i64 (x : Nat)) := by rw [vload_obj h G3]; rfl
theorem IsN.put {σ : St} {p x : Nat} (h : IsN σ p x) (y : Nat) : vstore Try.prog σ 3 (.optr p 0) (.int .i64 (y : Nat)) = some ⟨σ.objs.set p (Ob.cells [.int .i64 (y : Nat)]), σ.toks⟩ := by
  rw [vstore_obj h S3 rfl (by simp)]; rfl
theorem KeepX.atV {σ σ' : St} {p : Nat} (h : KeepX p σ σ') {q : Nat} {c : List V} (hne : q ≠ p) (hq : IsV σ q c) : IsV σ' q c := h.1 _ _ hne hq
theorem IsN.lt {σ : St} {p x : Nat} (h : IsN σ p x) : p < σ.objs.length := (List.getElem?_eq_some_iff.1 h).1
end Go.Proofs.Ytplhelapcpcncaa.Q

set_option linter.unusedVariables false
set_option linter.unusedSimpArgs false
namespace Go.Proofs.Ytplhelapcpcncaa.Q
open Go Go.RowKit Go.Proofs
/-! ### Types and their texts -/
inductive Ty where
  | int | bool | text
  | list (e : Ty) | mapI (e : Ty) | mapT (e : Ty)
  deriving DecidableEq
def intB : List UInt8 := [105, 110, 116]
def boolB : List UInt8 := [98, 111, 111, 108]
def textB : List UInt8 := [116, 101, 120, 116]
def mI : List UInt8 := [123, 105, 110, 116, 58]
def mT : List UInt8 := [123, 116, 101, 120, 116, 58]
def tyB : Ty → List UInt8
  | .int => intB
  | .bool => boolB
  | .text => textB
  | .list e => 91 :: (tyB e ++ [93])
  | .mapI e => mI ++ tyB e ++ [125]
  | .mapT e => mT ++ tyB e ++ [125]
def tyD : Ty → Nat
  | .int => 1 | .bool => 1 | .text => 1
  | .list e => tyD e + 1 | .mapI e => tyD e + 1 | .mapT e => tyD e + 1
def isPre (p l : List UInt8) : Bool := decide (p.length ≤ l.length) && decide (l.take p.length = p)
def mid (k : Nat) (s : List UInt8) : List UInt8 := s.dropLast.drop k
/-- The type of a text, of a depth at most r. -/
def tyOf : Nat → List UInt8 → Option Ty
  | 0, _ => none
  | r + 1, s => if s = intB then some .int else if s = boolB then some .bool else if s = textB then some .text
    else if s.length < 2 ∨ r = 0 then none
    else if isPre [91] s.dropLast = true then (if s.getLast? = some 93 then (tyOf r (mid 1 s)).map .list else none)
    else if isPre mI s.dropLast = true then (if s.getLast? = some 125 then (tyOf r (mid 5 s)).map .mapI else none)
    else if isPre mT s.dropLast = true then (if s.getLast? = some 125 then (tyOf r (mid 6 s)).map .mapT else none)
    else none
theorem isPre_append (p l : List UInt8) : isPre p (p ++ l) = true := by simp [isPre]
theorem dropLast_snoc (l : List UInt8) (x : UInt8) : (l ++ [x]).dropLast = l := List.dropLast_concat
theorem isPre_split {p s : List UInt8} {x : UInt8} (h : isPre p s.dropLast = true) (hx : s.getLast? = some x) : s = p ++ mid p.length s ++ [x] := by
  simp only [isPre, Bool.and_eq_true, decide_eq_true_eq] at h
  have h1 : s.dropLast ++ [x] = s := by
    rw [List.getLast?_eq_some_iff] at hx
    obtain ⟨ys, rfl⟩ := hx
    rw [List.dropLast_concat]
  conv => lhs; rw [← h1, ← List.take_append_drop p.length s.dropLast, h.2]
  rfl
theorem tyOf_some : ∀ {r : Nat} {s : List UInt8} {T : Ty}, tyOf r s = some T → s = tyB T ∧ tyD T ≤ r
  | 0, s, T, h => by cases h
  | r + 1, s, T, h => by
    rw [tyOf] at h
    split at h
    · rename_i hs; injection h with h; subst h; exact ⟨hs, by simp [tyD]⟩
    split at h
    · rename_i hs; injection h with h; subst h; exact ⟨hs, by simp [tyD]⟩
    split at h
    · rename_i hs; injection h with h; subst h; exact ⟨hs, by simp [tyD]⟩
    split at h
    · cases h
    split at h
    · rename_i hp
      split at h
      · rename_i hl
        rw [Option.map_eq_some_iff] at h
        obtain ⟨e, he, rfl⟩ := h
        obtain ⟨h1, h2⟩ := tyOf_some he
        have := isPre_split hp hl
        refine ⟨?_, by simp [tyD]; omega⟩
        rw [this, show ([91] : List UInt8).length = 1 from rfl, h1]
        rfl
      · cases h
    split at h
    · rename_i hp
      split at h
      · rename_i hl
        rw [Option.map_eq_some_iff] at h
        obtain ⟨e, he, rfl⟩ := h
        obtain ⟨h1, h2⟩ := tyOf_some he
        have := isPre_split hp hl
        refine ⟨?_, by simp [tyD]; omega⟩
        rw [this, show mI.length = 5 from rfl, h1]
        rfl
      · cases h
    split at h
    · rename_i hp
      split at h
      · rename_i hl
        rw [Option.map_eq_some_iff] at h
        obtain ⟨e, he, rfl⟩ := h
        obtain ⟨h1, h2⟩ := tyOf_some he
        have := isPre_split hp hl
        refine ⟨?_, by simp [tyD]; omega⟩
        rw [this, show mT.length = 6 from rfl, h1]
        rfl
      · cases h
    · cases h
theorem tyB_len : ∀ T : Ty, 3 ≤ (tyB T).length ∧ (tyB T).length ≤ 7 * tyD T
  | .int => by simp [tyB, tyD, intB]
  | .bool => by simp [tyB, tyD, boolB]
  | .text => by simp [tyB, tyD, textB]
  | .list e => by have := tyB_len e; simp [tyB, tyD]; omega
  | .mapI e => by have := tyB_len e; simp [tyB, tyD, mI]; omega
  | .mapT e => by have := tyB_len e; simp [tyB, tyD, mT]; omega
theorem tyD_pos (T : Ty) : 1 ≤ tyD T := by cases T <;> simp [tyD]
theorem tyOf_tyB : ∀ {T : Ty} {r : Nat}, tyD T ≤ r → tyOf r (tyB T) = some T
  | T, 0, h => by have := tyD_pos T; omega
  | .int, r + 1, h => by rw [tyOf, show tyB .int = intB from rfl]; exact if_pos rfl
  | .bool, r + 1, h => by rw [tyOf, show tyB .bool = boolB from rfl, if_neg (by decide)]; exact if_pos rfl
  | .text, r + 1, h => by rw [tyOf, show tyB .text = textB from rfl, if_neg (by decide), if_neg (by decide)]; exact if_pos rfl
  | .list e, r + 1, h => by
    have hl := tyB_len e
    have hr : r ≠ 0 := by have := tyD_pos e; simp only [tyD] at h; omega
    have hb1 : ¬ tyB (.list e) = intB := by simp [tyB, intB]
    have hb2 : ¬ tyB (.list e) = boolB := by simp [tyB, boolB]
    have hb3 : ¬ tyB (.list e) = textB := by simp [tyB, textB]
    have hd : (tyB (.list e)).dropLast = [91] ++ tyB e := by rw [tyB, ← List.cons_append, dropLast_snoc]; rfl
    have hg : (tyB (.list e)).getLast? = some 93 := by rw [tyB, ← List.cons_append, List.getLast?_concat]
    rw [tyOf, if_neg hb1, if_neg hb2, if_neg hb3, if_neg (by rw [tyB]; simp [hr]), hd, if_pos (isPre_append _ _), if_pos hg]
    have : mid 1 (tyB (.list e)) = tyB e := by rw [mid, hd]; rfl
    rw [this, tyOf_tyB (by simp only [tyD] at h; omega)]
    rfl
  | .mapI e, r + 1, h => by
    have hl := tyB_len e
    have hr : r ≠ 0 := by have := tyD_pos e; simp only [tyD] at h; omega
    have hb1 : ¬ tyB (.mapI e) = intB := by simp [tyB, intB, mI]
    have hb2 : ¬ tyB (.mapI e) = boolB := by simp [tyB, boolB, mI]
    have hb3 : ¬ tyB (.mapI e) = textB := by simp [tyB, textB, mI]
    have hd : (tyB (.mapI e)).dropLast = mI ++ tyB e := by rw [tyB, dropLast_snoc]
    have hg : (tyB (.mapI e)).getLast? = some 125 := by rw [tyB, List.getLast?_concat]
    have hp : ¬ isPre [91] (tyB (.mapI e)).dropLast = true := by rw [hd]; simp [isPre, mI]
    rw [tyOf, if_neg hb1, if_neg hb2, if_neg hb3, if_neg (by rw [tyB]; simp [hr, mI]), if_neg hp, hd, if_pos (isPre_append _ _), if_pos hg]
    have : mid 5 (tyB (.mapI e)) = tyB e := by rw [mid, hd]; rfl
    rw [this, tyOf_tyB (by simp only [tyD] at h; omega)]
    rfl
  | .mapT e, r + 1, h => by
    have hl := tyB_len e
    have hr : r ≠ 0 := by have := tyD_pos e; simp only [tyD] at h; omega
    have hb1 : ¬ tyB (.mapT e) = intB := by simp [tyB, intB, mT]
    have hb2 : ¬ tyB (.mapT e) = boolB := by simp [tyB, boolB, mT]
    have hb3 : ¬ tyB (.mapT e) = textB := by simp [tyB, textB, mT]
    have hd : (tyB (.mapT e)).dropLast = mT ++ tyB e := by rw [tyB, dropLast_snoc]
    have hg : (tyB (.mapT e)).getLast? = some 125 := by rw [tyB, List.getLast?_concat]
    have hp : ¬ isPre [91] (tyB (.mapT e)).dropLast = true := by rw [hd]; simp [isPre, mT]
    have hp2 : ¬ isPre mI (tyB (.mapT e)).dropLast = true := by rw [hd]; simp [isPre, mT, mI]
    rw [tyOf, if_neg hb1, if_neg hb2, if_neg hb3, if_neg (by rw [tyB]; simp [hr, mT]), if_neg hp, if_neg hp2, hd, if_pos (isPre_append _ _), if_pos hg]
    have : mid 6 (tyB (.mapT e)) = tyB e := by rw [mid, hd]; rfl
    rw [this, tyOf_tyB (by simp only [tyD] at h; omega)]
    rfl
theorem tyOf_iff {r : Nat} {s : List UInt8} {T : Ty} : tyOf r s = some T ↔ s = tyB T ∧ tyD T ≤ r :=
  ⟨tyOf_some, fun ⟨h1, h2⟩ => by rw [h1]; exact tyOf_tyB h2⟩
end Go.Proofs.Ytplhelapcpcncaa.Q

set_option linter.unusedVariables false
set_option linter.unusedSimpArgs false
namespace Go.Proofs.Ytplhelapcpcncaa.Q
open Go Go.RowKit Go.Proofs
theorem ofVal_str {a : ByteArray} : ofVal (.string a) = some (.str a.data.toList) := rfl
theorem str_hi {s : List UInt8} {n : Nat} (h : n ≤ s.length) {k : IntKind} : vslice Try.prog 9 (.str s) none (some (.int k (n : Int))) none = some (.str (s.take n)) := by
  have := vbounds_hi (len := s.length) (k := k) (n := n) (by omega) (by omega)
  simp [vslice, T9, this]
theorem str_lo {s : List UInt8} {n : Nat} (h : n ≤ s.length) {k : IntKind} : vslice Try.prog 9 (.str s) (some (.int k (n : Int))) none none = some (.str (s.drop n)) := by
  have := vbounds_lo (len := s.length) (k := k) (n := n) (by omega) (by omega)
  have h2 : List.take (s.length - n) (List.drop n s) = List.drop n s := List.take_of_length_le (by rw [List.length_drop]; omega)
  simp [vslice, T9, this, h2]
theorem str_lohi {s : List UInt8} {n m : Nat} (h : n ≤ m) (hm : m ≤ s.length) {k k' : IntKind} : vslice Try.prog 9 (.str s) (some (.int k (n : Int))) (some (.int k' (m : Int))) none = some (.str ((s.take m).drop n)) := by
  have := vbounds_lohi (len := s.length) (k := k) (k' := k') (n := n) (m := m) (by omega) (by omega) (by omega)
  simp [vslice, T9, this, List.drop_take]
theorem str_at {s : List UInt8} {n : Nat} {c : UInt8} (h : s[n]? = some c) {k : IntKind} : vindex Try.prog 9 (.str s) (.int k (n : Int)) = some (.int .u8 (c.toNat : Int)) := by
  simp [vindex, T9, h]
theorem u8_eq {c d : UInt8} : decide ((c.toNat : Int) = (d.toNat : Int)) = decide (c = d) := by
  rw [decide_eq_decide]
  constructor
  · intro h; exact UInt8.toNat_inj.1 (by omega)
  · rintro rfl; rfl
theorem hasprefix_does (s p : List UInt8) (σ : St) : Does Try.prog prims 80 [.str s, .str p] σ (.ret (.bool (isPre p s))) σ := by
  apply k80_is.ret (by simp)
  unfold isPre
  by_cases h : (p.length : Int) ≤ s.length
  · have h' : p.length ≤ s.length := by omega
    simp only [k80_a, WK, vop, evAll, evOpt, evParts, vbuiltin, vun, vextract, Nat.reduceLT, Nat.reduceEqDiff, ↓reduceIte, reduceCtorEq, Nat.reduceAdd, Int.reduceLT, Int.reduceNeg, valloc_std, noSB, vhot, List.getD_cons_zero, List.getD_cons_succ, vlen_str T9, h, T9, str_hi h', strBin, h', Bool.true_and]
  · have h' : ¬ p.length ≤ s.length := by omega
    simp only [k80_a, WK, vop, evAll, evOpt, evParts, vbuiltin, vun, vextract, Nat.reduceLT, Nat.reduceEqDiff, ↓reduceIte, reduceCtorEq, Nat.reduceAdd, Int.reduceLT, Int.reduceNeg, valloc_std, noSB, vhot, List.getD_cons_zero, List.getD_cons_succ, vlen_str T9, h, h', Bool.false_and]
def cutS (s p : List UInt8) : List UInt8 := if isPre p s then s.drop p.length else s
theorem cut1_does (s p : List UInt8) (σ : St) : Does Try.prog prims 76 [.str s, .str p] σ (.ret (.tuple [.str (cutS s p), .bool (isPre p s)])) σ := by
  apply k76_is.ret (by simp)
  simp only [k76_a, WK, vop, evAll, evOpt, evParts, vbuiltin, vun, vextract, Nat.reduceLT, Nat.reduceEqDiff, ↓reduceIte, reduceCtorEq, Nat.reduceAdd, Int.reduceLT, Int.reduceNeg, valloc_std, noSB, vhot, ofVal_str, List.getD_cons_zero, List.getD_cons_succ]
  refine KD.ret (hasprefix_does s p σ) ?_
  unfold cutS
  cases h : isPre p s with
  | false => simp only [k76_a, WK, vop, evAll, evOpt, evParts, vbuiltin, vun, vextract, Nat.reduceLT, Nat.reduceEqDiff, ↓reduceIte, reduceCtorEq, Nat.reduceAdd, Int.reduceLT, Int.reduceNeg, valloc_std, noSB, vhot, List.getD_cons_zero, List.getD_cons_succ]
  | true =>
    have h' : p.length ≤ s.length := by
      simp only [isPre, Bool.and_eq_true, decide_eq_true_eq] at h
      exact h.1
    simp only [k76_a, WK, vop, evAll, evOpt, evParts, vbuiltin, vun, vextract, Nat.reduceLT, Nat.reduceEqDiff, ↓reduceIte, reduceCtorEq, Nat.reduceAdd, Int.reduceLT, Int.reduceNeg, valloc_std, noSB, vhot, List.getD_cons_zero, List.getD_cons_succ, vlen_str T9, T9, str_lo h']
theorem cut_does (s p : List UInt8) (σ : St) : Does Try.prog prims 69 [.str s, .str p] σ (.ret (.tuple [.str (cutS s p), .bool (isPre p s)])) σ := by
  apply k69_is.ret (by simp)
  simp only [k69_a, WK, vop, evAll, evOpt, evParts, vbuiltin, vun, vextract, Nat.reduceLT, Nat.reduceEqDiff, ↓reduceIte, reduceCtorEq, Nat.reduceAdd, Int.reduceLT, Int.reduceNeg, valloc_std, noSB, vhot, ofVal_str, List.getD_cons_zero, List.getD_cons_succ]
  refine KD.ret (cut1_does s p σ) ?_
  simp only [k69_a, WK, vop, evAll, evOpt, evParts, vbuiltin, vun, vextract, Nat.reduceLT, Nat.reduceEqDiff, ↓reduceIte, reduceCtorEq, Nat.reduceAdd, Int.reduceLT, Int.reduceNeg, valloc_std, noSB, vhot, List.getD_cons_zero, List.getD_cons_succ]
def strsV (l : List (List UInt8)) : List V := l.map .str
theorem TS98 : Try.prog.underlying 49 = some (.slice 9) := by kernel_rfl
theorem build2S (a b : List UInt8) : vbuildSlice Try.prog 49 2 [(0, .str a), (1, .str b)] = some (.slice .exact 1 [.str a, .str b] 2) := by kernel_rfl
theorem str2_addr0 (a b : List UInt8) : vindexAddr Try.prog 49 (.slice .exact 1 [.str a, .str b] 2) (.int .i64 ((0 : Nat) : Int)) = some (.eptr [.str a, .str b] 0) := by simp [vindexAddr, TS98, S9]
theorem str2_addr1 (a b : List UInt8) : vindexAddr Try.prog 49 (.slice .exact 1 [.str a, .str b] 2) (.int .i64 ((1 : Nat) : Int)) = some (.eptr [.str a, .str b] 1) := by simp [vindexAddr, TS98, S9]
theorem str2_load0 (a b : List UInt8) (objs : List Ob) : vload Try.prog objs 9 (.eptr [.str a, .str b] 0) = some (.str a) := by simp [vload, vcellsAt, vpart, G9]
theorem str2_load1 (a b : List UInt8) (objs : List Ob) : vload Try.prog objs 9 (.eptr [.str a, .str b] 1) = some (.str b) := by simp [vload, vcellsAt, vpart, G9]
theorem str2_len (a b : List UInt8) : vlen Try.prog 49 (.slice .exact 1 [.str a, .str b] 2) = some (.int .i64 2) := by simp [vlen, TS98]
set_option maxRecDepth 100000 in
set_option maxHeartbeats 1000000 in
theorem kind_does : ∀ (r : Nat), r ≤ 3 → ∀ (s : List UInt8) (σ : St), s.length ≤ 4294967296 → Does Try.prog prims 57 [.str s, .int .i64 ((4 - r : Nat) : Int)] σ (.ret (.bool (tyOf (r + 1) s).isSome)) σ := by
  intro r
  induction r with
  | zero =>
    intro hr s σ hl
    apply k57_is.ret (by simp)
    rw [tyOf]
    by_cases h1 : s = [105, 110, 116]
    · subst h1
      simp only [k57_a, WK, vop, evAll, evOpt, evParts, vbuiltin, vun, vextract, Nat.reduceLT, Nat.reduceEqDiff, ↓reduceIte, reduceCtorEq, Nat.reduceAdd, Int.reduceLT, Int.reduceNeg, valloc_std, noSB, vhot, List.getD_cons_zero, List.getD_cons_succ, ofVal_str, strBin, eq_self, Nat.sub_zero, Int.reduceLE, Int.cast_ofNat_Int, intB]
      rfl
    by_cases h2 : s = [98, 111, 111, 108]
    · subst h2
      simp only [k57_a, WK, vop, evAll, evOpt, evParts, vbuiltin, vun, vextract, Nat.reduceLT, Nat.reduceEqDiff, ↓reduceIte, reduceCtorEq, Nat.reduceAdd, Int.reduceLT, Int.reduceNeg, valloc_std, noSB, vhot, List.getD_cons_zero, List.getD_cons_succ, ofVal_str, strBin, h1, eq_self, Nat.sub_zero, Int.reduceLE, Int.cast_ofNat_Int, intB, boolB]
      rfl
    by_cases h3 : s = [116, 101, 120, 116]
    · subst h3
      simp only [k57_a, WK, vop, evAll, evOpt, evParts, vbuiltin, vun, vextract, Nat.reduceLT, Nat.reduceEqDiff, ↓reduceIte, reduceCtorEq, Nat.reduceAdd, Int.reduceLT, Int.reduceNeg, valloc_std, noSB, vhot, List.getD_cons_zero, List.getD_cons_succ, ofVal_str, strBin, h1, h2, eq_self, Nat.sub_zero, Int.reduceLE, Int.cast_ofNat_Int, intB, boolB, textB]
      rfl
    rw [if_neg (show ¬ s = intB from h1), if_neg (show ¬ s = boolB from h2), if_neg (show ¬ s = textB from h3), if_pos (.inr rfl)]
    by_cases hlen : (s.length : Int) < 2
    · simp only [k57_a, WK, vop, evAll, evOpt, evParts, vbuiltin, vun, vextract, Nat.reduceLT, Nat.reduceEqDiff, ↓reduceIte, reduceCtorEq, Nat.reduceAdd, Int.reduceLT, Int.reduceNeg, valloc_std, noSB, vhot, List.getD_cons_zero, List.getD_cons_succ, ofVal_str, strBin, h1, h2, h3, vlen_str T9, hlen, Option.isSome_none]
    · simp only [k57_a, WK, vop, evAll, evOpt, evParts, vbuiltin, vun, vextract, Nat.reduceLT, Nat.reduceEqDiff, ↓reduceIte, reduceCtorEq, Nat.reduceAdd, Int.reduceLT, Int.reduceNeg, valloc_std, noSB, vhot, List.getD_cons_zero, List.getD_cons_succ, ofVal_str, strBin, h1, h2, h3, vlen_str T9, hlen, Nat.sub_zero, Int.reduceLE, Int.cast_ofNat_Int, Option.isSome_none]
  | succ r ih =>
    intro hr s σ hl
    apply k57_is.ret (by simp)
    rw [tyOf]
    have hd4 : ((4 - (r + 1) : Nat) : Int) ≤ 4 := by omega
    have hd4' : ¬ (4 : Int) ≤ ((4 - (r + 1) : Nat) : Int) := by omega
    obtain ⟨d, hd⟩ : ∃ d : Int, d = ((4 - (r + 1) : Nat) : Int) := ⟨_, rfl⟩
    rw [← hd] at hd4 hd4' ⊢
    by_cases h1 : s = [105, 110, 116]
    · subst h1
      simp only [k57_a, WK, vop, evAll, evOpt, evParts, vbuiltin, vun, vextract, Nat.reduceLT, Nat.reduceEqDiff, ↓reduceIte, reduceCtorEq, Nat.reduceAdd, Int.reduceLT, Int.reduceNeg, valloc_std, noSB, vhot, List.getD_cons_zero, List.getD_cons_succ, ofVal_str, strBin, eq_self, hd4, intB]
      rfl
    by_cases h2 : s = [98, 111, 111, 108]
    · subst h2
      simp only [k57_a, WK, vop, evAll, evOpt, evParts, vbuiltin, vun, vextract, Nat.reduceLT, Nat.reduceEqDiff, ↓reduceIte, reduceCtorEq, Nat.reduceAdd, Int.reduceLT, Int.reduceNeg, valloc_std, noSB, vhot, List.getD_cons_zero, List.getD_cons_succ, ofVal_str, strBin, h1, eq_self, hd4, intB, boolB]
      rfl
    by_cases h3 : s = [116, 101, 120, 116]
    · subst h3
      simp only [k57_a, WK, vop, evAll, evOpt, evParts, vbuiltin, vun, vextract, Nat.reduceLT, Nat.reduceEqDiff, ↓reduceIte, reduceCtorEq, Nat.reduceAdd, Int.reduceLT, Int.reduceNeg, valloc_std, noSB, vhot, List.getD_cons_zero, List.getD_cons_succ, ofVal_str, strBin, h1, h2, eq_self, hd4, intB, boolB, textB]
      rfl
    rw [if_neg (show ¬ s = intB from h1), if_neg (show ¬ s = boolB from h2), if_neg (show ¬ s = textB from h3)]
    by_cases hlen : (s.length : Int) < 2
    · rw [if_pos (.inl (by omega))]
      simp only [k57_a, WK, vop, evAll, evOpt, evParts, vbuiltin, vun, vextract, Nat.reduceLT, Nat.reduceEqDiff, ↓reduceIte, reduceCtorEq, Nat.reduceAdd, Int.reduceLT, Int.reduceNeg, valloc_std, noSB, vhot, List.getD_cons_zero, List.getD_cons_succ, ofVal_str, strBin, h1, h2, h3, vlen_str T9, hlen, Option.isSome_none]
    rw [if_neg (by omega)]
    have w1 : IntKind.i64.wrap ((s.length : Int) - 1) = ((s.length - 1 : Nat) : Int) := by rw [wrap_i64 (by omega) (by omega)]; omega
    have w2 : IntKind.i64.wrap (d + 1) = ((4 - r : Nat) : Int) := by rw [wrap_i64 (by omega) (by omega)]; omega
    obtain ⟨c, hc⟩ : ∃ c, s[s.length - 1]? = some c := ⟨_, List.getElem?_eq_getElem (by omega)⟩
    have hg : s.getLast? = some c := by rw [List.getLast?_eq_getElem?]; exact hc
    have hdl : s.take (s.length - 1) = s.dropLast := (List.dropLast_eq_take).symm
    have c93 : decide ((c.toNat : Int) = 93) = decide (c = 93) := u8_eq (d := 93)
    have c125 : decide ((c.toNat : Int) = 125) = decide (c = 125) := u8_eq (d := 125)
    have ln : ∀ k, (mid k s).length ≤ 4294967296 := fun k => by unfold mid; rw [List.length_drop, List.length_dropLast]; omega
    have hsome : ∀ x : UInt8, (s.getLast? = some x) = (c = x) := fun x => by rw [hg, Option.some.injEq]
    simp only [hsome]
    simp only [k57_a, WK, vop, evAll, evOpt, evParts, vbuiltin, vun, vextract, Nat.reduceLT, Nat.reduceEqDiff, ↓reduceIte, reduceCtorEq, Nat.reduceAdd, Int.reduceLT, Int.reduceNeg, valloc_std, noSB, vhot, List.getD_cons_zero, List.getD_cons_succ, ofVal_str, strBin, h1, h2, h3, vlen_str T9, hlen, hd4', w1, T9, str_hi (show s.length - 1 ≤ s.length by omega), hdl]
    refine KD.ret (cut_does s.dropLast [91] σ) ?_
    cases hp : isPre [91] s.dropLast with
    | true =>
      have hcut : cutS s.dropLast [91] = mid 1 s := by unfold cutS; rw [if_pos hp]; rfl
      by_cases hcc : c = 93
      · have hb : decide ((c.toNat : Int) = 93) = true := by rw [c93]; exact decide_eq_true hcc
        have hcc' : (c = 93) = True := eq_true hcc
        simp only [k57_a, WK, vop, evAll, evOpt, evParts, vbuiltin, vun, vextract, Nat.reduceLT, Nat.reduceEqDiff, ↓reduceIte, reduceCtorEq, Nat.reduceAdd, Int.reduceLT, Int.reduceNeg, valloc_std, noSB, vhot, List.getD_cons_zero, List.getD_cons_succ, vlen_str T9, w1, w2, str_at hc, hb, hcc', hcut, eq_self, if_true]
        refine KD.ret (ih (by omega) (mid 1 s) σ (ln 1)) ?_
        simp only [k57_a, WK, vop, evAll, evOpt, evParts, vbuiltin, vun, vextract, Nat.reduceLT, Nat.reduceEqDiff, ↓reduceIte, reduceCtorEq, Nat.reduceAdd, Int.reduceLT, Int.reduceNeg, valloc_std, noSB, vhot, Option.isSome_map]
      · have hb : decide ((c.toNat : Int) = 93) = false := by rw [c93]; exact decide_eq_false hcc
        have hcc' : (c = 93) = False := eq_false hcc
        simp only [k57_a, WK, vop, evAll, evOpt, evParts, vbuiltin, vun, vextract, Nat.reduceLT, Nat.reduceEqDiff, ↓reduceIte, reduceCtorEq, Nat.reduceAdd, Int.reduceLT, Int.reduceNeg, valloc_std, noSB, vhot, List.getD_cons_zero, List.getD_cons_succ, vlen_str T9, w1, w2, str_at hc, hb, hcc', hcut, if_true, if_false, Option.isSome_none]
    | false =>
      simp only [k57_a, WK, vop, evAll, evOpt, evParts, vbuiltin, vun, vextract, Nat.reduceLT, Nat.reduceEqDiff, ↓reduceIte, reduceCtorEq, Nat.reduceAdd, Int.reduceLT, Int.reduceNeg, valloc_std, noSB, vhot, ofVal_str, build2S, str2_len, Bool.false_eq_true, if_false]
      refine Ev.loopF (fun i e σ' => e 49 = .int .i64 (i : Nat) ∧ i ≤ 2 ∧ (1 ≤ i → isPre mI s.dropLast = false) ∧ (2 ≤ i → isPre mT s.dropLast = false) ∧ σ' = σ) (fun i => 2 - i) 0 ?_ ?_
      · exact ⟨by simp [upd_some], by omega, fun h => by omega, fun h => by omega, rfl⟩
      rintro i e σ' ⟨h49, hi, hm1, hm2, hσ⟩ hf
      subst hσ
      have h47 : e 47 = .slice .exact 1 [.str mI, .str mT] 2 := (hf 47 (by decide)).trans (by simp [upd_some, mI, mT])
      have h48 : e 48 = .int .i64 2 := (hf 48 (by decide)).trans (by simp [upd_some])
      have h0 : e 0 = .str s := (hf 0 (by decide)).trans (by simp [upd_some])
      have he1 : e 1 = .int .i64 d := (hf 1 (by decide)).trans (by simp [upd_some])
      clear hf
      have i3 : i = 0 ∨ i = 1 ∨ i = 2 := by omega
      rcases i3 with rfl | rfl | rfl
      · have hlt : ((0 : Nat) : Int) < 2 := by omega
        have hwi : IntKind.i64.wrap (((0 : Nat) : Int) + 1) = ((1 : Nat) : Int) := by rw [wrap_i64 (by omega) (by omega)]; omega
        simp only [k57_a, WK, vop, evAll, evOpt, evParts, vbuiltin, vun, vextract, Nat.reduceLT, Nat.reduceEqDiff, ↓reduceIte, reduceCtorEq, Nat.reduceAdd, Int.reduceLT, Int.reduceNeg, valloc_std, noSB, vhot, h0, he1, h47, h48, h49, hlt, str2_addr0, str2_load0, vlen_str T9, w1, T9, str_hi (show s.length - 1 ≤ s.length by omega), hdl]
        refine KD.ret (cut_does s.dropLast mI σ') ?_
        cases hp2 : isPre mI s.dropLast with
        | true =>
          have hcut : cutS s.dropLast mI = mid 5 s := by unfold cutS; rw [if_pos hp2]; rfl
          by_cases hcc : c = 125
          · have hb : decide ((c.toNat : Int) = 125) = true := by rw [c125]; exact decide_eq_true hcc
            have hcc' : (c = 125) = True := eq_true hcc
            simp only [k57_a, WK, vop, evAll, evOpt, evParts, vbuiltin, vun, vextract, Nat.reduceLT, Nat.reduceEqDiff, ↓reduceIte, reduceCtorEq, Nat.reduceAdd, Int.reduceLT, Int.reduceNeg, valloc_std, noSB, vhot, h0, he1, h49, vlen_str T9, w1, w2, str_at hc, hb, hcc', hcut, eq_self, if_true]
            refine KD.ret (ih (by omega) (mid 5 s) σ' (ln 5)) ?_
            simp only [k57_a, WK, vop, evAll, evOpt, evParts, vbuiltin, vun, vextract, Nat.reduceLT, Nat.reduceEqDiff, ↓reduceIte, reduceCtorEq, Nat.reduceAdd, Int.reduceLT, Int.reduceNeg, valloc_std, noSB, vhot, Option.isSome_map]
          · have hb : decide ((c.toNat : Int) = 125) = false := by rw [c125]; exact decide_eq_false hcc
            have hcc' : (c = 125) = False := eq_false hcc
            simp only [k57_a, WK, vop, evAll, evOpt, evParts, vbuiltin, vun, vextract, Nat.reduceLT, Nat.reduceEqDiff, ↓reduceIte, reduceCtorEq, Nat.reduceAdd, Int.reduceLT, Int.reduceNeg, valloc_std, noSB, vhot, h0, he1, h49, vlen_str T9, w1, w2, str_at hc, hb, hcc', hcut, if_true, if_false, Option.isSome_none]
        | false =>
          simp only [k57_a, WK, vop, evAll, evOpt, evParts, vbuiltin, vun, vextract, Nat.reduceLT, Nat.reduceEqDiff, ↓reduceIte, reduceCtorEq, Nat.reduceAdd, Int.reduceLT, Int.reduceNeg, valloc_std, noSB, vhot, h49, hwi]
          exact ⟨1, ⟨by simp [upd_some], by omega, fun _ => by first | exact hp2 | exact trivial, fun h => by omega⟩, by omega⟩
      · have hlt : ((1 : Nat) : Int) < 2 := by omega
        have hwi : IntKind.i64.wrap (((1 : Nat) : Int) + 1) = ((2 : Nat) : Int) := by rw [wrap_i64 (by omega) (by omega)]; omega
        have hp1 := hm1 (by omega)
        simp only [k57_a, WK, vop, evAll, evOpt, evParts, vbuiltin, vun, vextract, Nat.reduceLT, Nat.reduceEqDiff, ↓reduceIte, reduceCtorEq, Nat.reduceAdd, Int.reduceLT, Int.reduceNeg, valloc_std, noSB, vhot, h0, he1, h47, h48, h49, hlt, str2_addr1, str2_load1, vlen_str T9, w1, T9, str_hi (show s.length - 1 ≤ s.length by omega), hdl]
        refine KD.ret (cut_does s.dropLast mT σ') ?_
        simp only [hp1, Bool.false_eq_true, if_false]
        cases hp2 : isPre mT s.dropLast with
        | true =>
          have hcut : cutS s.dropLast mT = mid 6 s := by unfold cutS; rw [if_pos hp2]; rfl
          by_cases hcc : c = 125
          · have hb : decide ((c.toNat : Int) = 125) = true := by rw [c125]; exact decide_eq_true hcc
            have hcc' : (c = 125) = True := eq_true hcc
            simp only [k57_a, WK, vop, evAll, evOpt, evParts, vbuiltin, vun, vextract, Nat.reduceLT, Nat.reduceEqDiff, ↓reduceIte, reduceCtorEq, Nat.reduceAdd, Int.reduceLT, Int.reduceNeg, valloc_std, noSB, vhot, h0, he1, h49, vlen_str T9, w1, w2, str_at hc, hb, hcc', hcut, eq_self, if_true]
            refine KD.ret (ih (by omega) (mid 6 s) σ' (ln 6)) ?_
            simp only [k57_a, WK, vop, evAll, evOpt, evParts, vbuiltin, vun, vextract, Nat.reduceLT, Nat.reduceEqDiff, ↓reduceIte, reduceCtorEq, Nat.reduceAdd, Int.reduceLT, Int.reduceNeg, valloc_std, noSB, vhot, Option.isSome_map]
          · have hb : decide ((c.toNat : Int) = 125) = false := by rw [c125]; exact decide_eq_false hcc
            have hcc' : (c = 125) = False := eq_false hcc
            simp only [k57_a, WK, vop, evAll, evOpt, evParts, vbuiltin, vun, vextract, Nat.reduceLT, Nat.reduceEqDiff, ↓reduceIte, reduceCtorEq, Nat.reduceAdd, Int.reduceLT, Int.reduceNeg, valloc_std, noSB, vhot, h0, he1, h49, vlen_str T9, w1, w2, str_at hc, hb, hcc', hcut, if_true, if_false, Option.isSome_none]
        | false =>
          simp only [k57_a, WK, vop, evAll, evOpt, evParts, vbuiltin, vun, vextract, Nat.reduceLT, Nat.reduceEqDiff, ↓reduceIte, reduceCtorEq, Nat.reduceAdd, Int.reduceLT, Int.reduceNeg, valloc_std, noSB, vhot, h49, hwi]
          exact ⟨2, ⟨by simp [upd_some], by omega, fun _ => by first | exact hp1 | exact trivial, fun _ => by first | exact hp2 | exact trivial⟩, by omega⟩
      · have hlt : ¬ ((2 : Nat) : Int) < 2 := by omega
        have hp1 := hm1 (by omega)
        have hp2 := hm2 (by omega)
        simp only [k57_a, WK, vop, evAll, evOpt, evParts, vbuiltin, vun, vextract, Nat.reduceLT, Nat.reduceEqDiff, ↓reduceIte, reduceCtorEq, Nat.reduceAdd, Int.reduceLT, Int.reduceNeg, valloc_std, noSB, vhot, h47, h48, h49, hlt, hp1, hp2, Bool.false_eq_true, if_false, Option.isSome_none]
/-- The type that a text is. -/
def tyS (s : List UInt8) : Option Ty := tyOf 4 s
theorem type_does (s : List UInt8) (hl : s.length ≤ 4294967296) (σ : St) : Does Try.prog prims 39 [.str s] σ (.ret (.bool (tyS s).isSome)) σ := by
  apply k39_is.ret (by simp)
  simp only [k39_a, WK, vop, evAll, evOpt, evParts, vbuiltin, vun, vextract, Nat.reduceLT, Nat.reduceEqDiff, ↓reduceIte, reduceCtorEq, Nat.reduceAdd, Int.reduceLT, Int.reduceNeg, valloc_std, noSB, vhot, List.getD_cons_zero, List.getD_cons_succ]
  refine KD.ret (kind_does 3 (by omega) s σ hl) ?_
  simp only [k39_a, WK, vop, evAll, evOpt, evParts, vbuiltin, vun, vextract, Nat.reduceLT, Nat.reduceEqDiff, ↓reduceIte, reduceCtorEq, Nat.reduceAdd, Int.reduceLT, Int.reduceNeg, valloc_std, noSB, vhot]
  rfl
end Go.Proofs.Ytplhelapcpcncaa.Q

set_option linter.unusedVariables false
set_option linter.unusedSimpArgs false
namespace Go.Proofs.Ytplhelapcpcncaa.Q
open Go Go.RowKit Go.Proofs
def is1 (s : List UInt8) : Bool := decide (2 < s.length) && (decide (s[0]? = some 91) && decide (s.getLast? = some 93))
def isM (k : Nat) (m s : List UInt8) : Bool := decide (k < s.length) && (decide (s.take m.length = m) && decide (s.getLast? = some 125))
def innerS (s : List UInt8) : Option (List UInt8) := if is1 s then some (mid 1 s) else if isM 6 mI s then some (mid 5 s) else if isM 7 mT s then some (mid 6 s) else none
def depF : Nat → List UInt8 → Nat
  | 0, _ => 0
  | n + 1, s => if s = intB ∨ s = boolB ∨ s = textB then 1 else match innerS s with
    | none => 0
    | some t => if 200 < s.length then 0 else if depF n t = 0 then 0 else depF n t + 1
theorem last_of {s : List UInt8} (h : 0 < s.length) : ∃ c, s[s.length - 1]? = some c ∧ s.getLast? = some c := by
  refine ⟨_, List.getElem?_eq_getElem (by omega), ?_⟩
  rw [List.getLast?_eq_getElem?]
  exact List.getElem?_eq_getElem (by omega)
theorem wrap_len {s : List UInt8} (h : 0 < s.length) (hl : s.length ≤ 4294967296) : IntKind.i64.wrap ((s.length : Int) - 1) = ((s.length - 1 : Nat) : Int) := by rw [wrap_i64 (by omega) (by omega)]; omega
theorem some_u8 (c d : UInt8) : decide (some c = some d) = decide ((c.toNat : Int) = (d.toNat : Int)) := by rw [u8_eq, decide_eq_decide, Option.some.injEq]
theorem depth_r4 {s : List UInt8} (hl : s.length ≤ 4294967296) {e : Nat → V} {σ : St} (h0 : e 0 = .str s) : Ev Try.prog prims 87 (.region k63_r4) e σ (fun x e' σ' => x = .normal ∧ σ' = σ ∧ e' 30 = .bool (is1 s)) := by
  unfold is1
  by_cases h2 : (2 : Int) < s.length
  · have h2' : 2 < s.length := by omega
    obtain ⟨c, hc, hg⟩ := last_of (s := s) (by omega)
    obtain ⟨a, ha⟩ : ∃ a, s[0]? = some a := ⟨_, List.getElem?_eq_getElem (by omega)⟩
    have w1 := wrap_len (s := s) (by omega) hl
    have e91 : (91 : Int) = ((91 : UInt8).toNat : Int) := rfl
    have e93 : (93 : Int) = ((93 : UInt8).toNat : Int) := rfl
    have i0 : vindex Try.prog 9 (.str s) (.int .i64 0) = some (.int .u8 (a.toNat : Int)) := str_at (n := 0) ha
    rw [ha, hg, some_u8, some_u8, ← e91, ← e93]
    cases h3 : decide ((a.toNat : Int) = 91) with
    | true => simp only [(oE k63_r4.eq_1), WK, vop, evAll, evOpt, evParts, vbuiltin, vun, vextract, Nat.reduceLT, Nat.reduceEqDiff, ↓reduceIte, reduceCtorEq, Nat.reduceAdd, Int.reduceLT, Int.reduceNeg, valloc_std, noSB, vhot, h0, h2, h2', vlen_str T9, i0, h3, w1, str_at hc, Bool.true_and]
    | false => simp only [(oE k63_r4.eq_1), WK, vop, evAll, evOpt, evParts, vbuiltin, vun, vextract, Nat.reduceLT, Nat.reduceEqDiff, ↓reduceIte, reduceCtorEq, Nat.reduceAdd, Int.reduceLT, Int.reduceNeg, valloc_std, noSB, vhot, h0, h2, h2', vlen_str T9, i0, h3, Bool.true_and, Bool.false_and]
  · have h2' : ¬ 2 < s.length := by omega
    simp only [(oE k63_r4.eq_1), WK, vop, evAll, evOpt, evParts, vbuiltin, vun, vextract, Nat.reduceLT, Nat.reduceEqDiff, ↓reduceIte, reduceCtorEq, Nat.reduceAdd, Int.reduceLT, Int.reduceNeg, valloc_std, noSB, vhot, h0, h2, h2', vlen_str T9, Bool.false_and]
theorem depth_r6 {s : List UInt8} (hl : s.length ≤ 4294967296) {e : Nat → V} {σ : St} (h0 : e 0 = .str s) : Ev Try.prog prims 87 (.region k63_r6) e σ (fun x e' σ' => x = .normal ∧ σ' = σ ∧ e' 51 = .bool (isM 6 mI s)) := by
  unfold isM
  by_cases h2 : (6 : Int) < s.length
  · have h2' : 6 < s.length := by omega
    obtain ⟨c, hc, hg⟩ := last_of (s := s) (by omega)
    have w1 := wrap_len (s := s) (by omega) hl
    have e125 : (125 : Int) = ((125 : UInt8).toNat : Int) := rfl
    have i5 : vslice Try.prog 9 (.str s) none (some (.int .i64 5)) none = some (.str (s.take 5)) := str_hi (n := 5) (by omega)
    rw [hg, some_u8, ← e125]
    cases h3 : decide (s.take mI.length = mI) with
    | true =>
      have h3' : decide (s.take 5 = [123, 105, 110, 116, 58]) = true := h3
      simp only [(oE k63_r6.eq_1), WK, vop, evAll, evOpt, evParts, vbuiltin, vun, vextract, Nat.reduceLT, Nat.reduceEqDiff, ↓reduceIte, reduceCtorEq, Nat.reduceAdd, Int.reduceLT, Int.reduceNeg, valloc_std, noSB, vhot, h0, h2, h2', vlen_str T9, T9, i5, ofVal_str, strBin, h3', w1, str_at hc, Bool.true_and]
    | false =>
      have h3' : decide (s.take 5 = [123, 105, 110, 116, 58]) = false := h3
      simp only [(oE k63_r6.eq_1), WK, vop, evAll, evOpt, evParts, vbuiltin, vun, vextract, Nat.reduceLT, Nat.reduceEqDiff, ↓reduceIte, reduceCtorEq, Nat.reduceAdd, Int.reduceLT, Int.reduceNeg, valloc_std, noSB, vhot, h0, h2, h2', vlen_str T9, T9, i5, ofVal_str, strBin, h3', Bool.true_and, Bool.false_and]
  · have h2' : ¬ 6 < s.length := by omega
    simp only [(oE k63_r6.eq_1), WK, vop, evAll, evOpt, evParts, vbuiltin, vun, vextract, Nat.reduceLT, Nat.reduceEqDiff, ↓reduceIte, reduceCtorEq, Nat.reduceAdd, Int.reduceLT, Int.reduceNeg, valloc_std, noSB, vhot, h0, h2, h2', vlen_str T9, Bool.false_and]
theorem depth_r8 {s : List UInt8} (hl : s.length ≤ 4294967296) {e : Nat → V} {σ : St} (h0 : e 0 = .str s) : Ev Try.prog prims 87 (.region k63_r8) e σ (fun x e' σ' => x = .normal ∧ σ' = σ ∧ e' 72 = .bool (isM 7 mT s)) := by
  unfold isM
  by_cases h2 : (7 : Int) < s.length
  · have h2' : 7 < s.length := by omega
    obtain ⟨c, hc, hg⟩ := last_of (s := s) (by omega)
    have w1 := wrap_len (s := s) (by omega) hl
    have e125 : (125 : Int) = ((125 : UInt8).toNat : Int) := rfl
    have i5 : vslice Try.prog 9 (.str s) none (some (.int .i64 6)) none = some (.str (s.take 6)) := str_hi (n := 6) (by omega)
    rw [hg, some_u8, ← e125]
    cases h3 : decide (s.take mT.length = mT) with
    | true =>
      have h3' : decide (s.take 6 = [123, 116, 101, 120, 116, 58]) = true := h3
      simp only [(oE k63_r8.eq_1), WK, vop, evAll, evOpt, evParts, vbuiltin, vun, vextract, Nat.reduceLT, Nat.reduceEqDiff, ↓reduceIte, reduceCtorEq, Nat.reduceAdd, Int.reduceLT, Int.reduceNeg, valloc_std, noSB, vhot, h0, h2, h2', vlen_str T9, T9, i5, ofVal_str, strBin, h3', w1, str_at hc, Bool.true_and]
    | false =>
      have h3' : decide (s.take 6 = [123, 116, 101, 120, 116, 58]) = false := h3
      simp only [(oE k63_r8.eq_1), WK, vop, evAll, evOpt, evParts, vbuiltin, vun, vextract, Nat.reduceLT, Nat.reduceEqDiff, ↓reduceIte, reduceCtorEq, Nat.reduceAdd, Int.reduceLT, Int.reduceNeg, valloc_std, noSB, vhot, h0, h2, h2', vlen_str T9, T9, i5, ofVal_str, strBin, h3', Bool.true_and, Bool.false_and]
  · have h2' : ¬ 7 < s.length := by omega
    simp only [(oE k63_r8.eq_1), WK, vop, evAll, evOpt, evParts, vbuiltin, vun, vextract, Nat.reduceLT, Nat.reduceEqDiff, ↓reduceIte, reduceCtorEq, Nat.reduceAdd, Int.reduceLT, Int.reduceNeg, valloc_std, noSB, vhot, h0, h2, h2', vlen_str T9, Bool.false_and]
theorem mid_len {s : List UInt8} {k : Nat} (h : 0 < s.length) : (mid k s).length < s.length := by
  unfold mid; rw [List.length_drop, List.length_dropLast]; omega
theorem mid_slice {s : List UInt8} {k : Nat} (h : k ≤ s.length - 1) : vslice Try.prog 9 (.str s) (some (.int .i64 (k : Int))) (some (.int .i64 ((s.length - 1 : Nat) : Int))) none = some (.str (mid k s)) := by
  rw [str_lohi h (by omega)]
  unfold mid
  rw [List.dropLast_eq_take]
theorem depF_le : ∀ (n : Nat) (s : List UInt8), depF n s ≤ s.length + 1
  | 0, s => by simp [depF]
  | n + 1, s => by
    rw [depF]
    split
    · omega
    · split
      · omega
      · rename_i t ht
        have hlt : t.length < s.length := by
          unfold innerS at ht
          split at ht
          · rename_i h; injection ht with ht; subst ht
            simp only [is1, Bool.and_eq_true, decide_eq_true_eq] at h
            exact mid_len (by omega)
          split at ht
          · rename_i h; injection ht with ht; subst ht
            simp only [isM, Bool.and_eq_true, decide_eq_true_eq] at h
            exact mid_len (by omega)
          split at ht
          · rename_i h; injection ht with ht; subst ht
            simp only [isM, Bool.and_eq_true, decide_eq_true_eq] at h
            exact mid_len (by omega)
          · cases ht
        have := depF_le n t
        split
        · omega
        · split <;> omega
set_option maxRecDepth 100000 in
theorem depth_does : ∀ (n : Nat) (s : List UInt8) (σ : St), s.length < n → s.length ≤ 4294967296 → Does Try.prog prims 63 [.str s] σ (.ret (.int .i64 (depF n s : Nat))) σ := by
  intro n
  induction n with
  | zero => intro s σ h; omega
  | succ n ih =>
    intro s σ hn hl
    apply k63_is.ret (by simp)
    rw [depF]
    by_cases h1 : s = [105, 110, 116]
    · rw [if_pos (.inl h1)]
      have b1 : decide (s = [105, 110, 116]) = true := decide_eq_true h1
      simp only [(vE k63.eq_1), (oE k63_r0.eq_1), (oE k63_r1.eq_1), (oE k63_r2.eq_1), (oE k63_r3.eq_1), (oE k63_r5.eq_1), (oE k63_r7.eq_1), (oE k63_r9.eq_1), (oE k63_r10.eq_1), (oE k63_r11.eq_1), (oE k63_r12.eq_1), (oE k63_r13.eq_1), (oE k63_r14.eq_1), (oE k63_r15.eq_1), (oE k63_r16.eq_1), WK, vop, evAll, evOpt, evParts, vbuiltin, vun, vextract, Nat.reduceLT, Nat.reduceEqDiff, ↓reduceIte, reduceCtorEq, Nat.reduceAdd, Int.reduceLT, Int.reduceNeg, valloc_std, noSB, vhot, List.getD_cons_zero, ofVal_str, strBin, b1]
      rfl
    have b1 : decide (s = [105, 110, 116]) = false := decide_eq_false h1
    by_cases h2 : s = [98, 111, 111, 108]
    · rw [if_pos (.inr (.inl h2))]
      have b2 : decide (s = [98, 111, 111, 108]) = true := decide_eq_true h2
      simp only [(vE k63.eq_1), (oE k63_r0.eq_1), (oE k63_r1.eq_1), (oE k63_r2.eq_1), (oE k63_r3.eq_1), (oE k63_r5.eq_1), (oE k63_r7.eq_1), (oE k63_r9.eq_1), (oE k63_r10.eq_1), (oE k63_r11.eq_1), (oE k63_r12.eq_1), (oE k63_r13.eq_1), (oE k63_r14.eq_1), (oE k63_r15.eq_1), (oE k63_r16.eq_1), WK, vop, evAll, evOpt, evParts, vbuiltin, vun, vextract, Nat.reduceLT, Nat.reduceEqDiff, ↓reduceIte, reduceCtorEq, Nat.reduceAdd, Int.reduceLT, Int.reduceNeg, valloc_std, noSB, vhot, List.getD_cons_zero, ofVal_str, strBin, b1, b2]
      rfl
    have b2 : decide (s = [98, 111, 111, 108]) = false := decide_eq_false h2
    by_cases h3 : s = [116, 101, 120, 116]
    · rw [if_pos (.inr (.inr h3))]
      have b3 : decide (s = [116, 101, 120, 116]) = true := decide_eq_true h3
      simp only [(vE k63.eq_1), (oE k63_r0.eq_1), (oE k63_r1.eq_1), (oE k63_r2.eq_1), (oE k63_r3.eq_1), (oE k63_r5.eq_1), (oE k63_r7.eq_1), (oE k63_r9.eq_1), (oE k63_r10.eq_1), (oE k63_r11.eq_1), (oE k63_r12.eq_1), (oE k63_r13.eq_1), (oE k63_r14.eq_1), (oE k63_r15.eq_1), (oE k63_r16.eq_1), WK, vop, evAll, evOpt, evParts, vbuiltin, vun, vextract, Nat.reduceLT, Nat.reduceEqDiff, ↓reduceIte, reduceCtorEq, Nat.reduceAdd, Int.reduceLT, Int.reduceNeg, valloc_std, noSB, vhot, List.getD_cons_zero, ofVal_str, strBin, b1, b2, b3]
      rfl
    have b3 : decide (s = [116, 101, 120, 116]) = false := decide_eq_false h3
    rw [if_neg (by rintro (h | h | h); exact h1 h; exact h2 h; exact h3 h)]
    simp only [(vE k63.eq_1), (oE k63_r0.eq_1), (oE k63_r1.eq_1), (oE k63_r2.eq_1), (oE k63_r3.eq_1), (oE k63_r5.eq_1), (oE k63_r7.eq_1), (oE k63_r9.eq_1), (oE k63_r10.eq_1), (oE k63_r11.eq_1), (oE k63_r12.eq_1), (oE k63_r13.eq_1), (oE k63_r14.eq_1), (oE k63_r15.eq_1), (oE k63_r16.eq_1), WK, vop, evAll, evOpt, evParts, vbuiltin, vun, vextract, Nat.reduceLT, Nat.reduceEqDiff, ↓reduceIte, reduceCtorEq, Nat.reduceAdd, Int.reduceLT, Int.reduceNeg, valloc_std, noSB, vhot, List.getD_cons_zero, ofVal_str, strBin, b1, b2, b3]
    rw [← Ev_region]
    refine Ev.cut (depth_r4 (s := s) hl (by simp [upd_some])) ?_
    rintro x e σ' ⟨rfl, rfl, h30⟩ hw
    have g0 : e 0 = .str s := (hw 0 (by decide)).trans (by simp [upd_some])
    clear hw
    have rest : ∀ (k : Nat) (e : Nat → V), e 0 = .str s → k < s.length → ∀ (Q : VX → (Nat → V) → St → Prop), (∀ e', e' 2 = .int .i64 ((if 200 < s.length then 0 else if depF n (mid k s) = 0 then 0 else depF n (mid k s) + 1 : Nat) : Int) → Q .ret e' σ') → e 3 = .str (mid k s) → Ev Try.prog prims 87 (.seq (.seq (.region k63_r11) (.cond (.tmp 80) (.seq (.region k63_r12) .ret) .skip)) (.seq (.region k63_r13) (.seq (.seq (.region k63_r14) (.cond (.tmp 84) (.seq (.region k63_r15) .ret) .skip)) (.seq (.region k63_r16) .ret)))) e σ' Q := by
      intro k e g0 hk Q hQ g3
      have hml := mid_len (s := s) (k := k) (by omega)
      by_cases h200 : (200 : Int) < s.length
      · simp only [(vE k63.eq_1), (oE k63_r0.eq_1), (oE k63_r1.eq_1), (oE k63_r2.eq_1), (oE k63_r3.eq_1), (oE k63_r5.eq_1), (oE k63_r7.eq_1), (oE k63_r9.eq_1), (oE k63_r10.eq_1), (oE k63_r11.eq_1), (oE k63_r12.eq_1), (oE k63_r13.eq_1), (oE k63_r14.eq_1), (oE k63_r15.eq_1), (oE k63_r16.eq_1), WK, vop, evAll, evOpt, evParts, vbuiltin, vun, vextract, Nat.reduceLT, Nat.reduceEqDiff, ↓reduceIte, reduceCtorEq, Nat.reduceAdd, Int.reduceLT, Int.reduceNeg, valloc_std, noSB, vhot, g0, g3, vlen_str T9, h200]
        refine hQ _ ?_
        rw [if_pos (by omega)]
        simp [upd_some]
      · simp only [(vE k63.eq_1), (oE k63_r0.eq_1), (oE k63_r1.eq_1), (oE k63_r2.eq_1), (oE k63_r3.eq_1), (oE k63_r5.eq_1), (oE k63_r7.eq_1), (oE k63_r9.eq_1), (oE k63_r10.eq_1), (oE k63_r11.eq_1), (oE k63_r12.eq_1), (oE k63_r13.eq_1), (oE k63_r14.eq_1), (oE k63_r15.eq_1), (oE k63_r16.eq_1), WK, vop, evAll, evOpt, evParts, vbuiltin, vun, vextract, Nat.reduceLT, Nat.reduceEqDiff, ↓reduceIte, reduceCtorEq, Nat.reduceAdd, Int.reduceLT, Int.reduceNeg, valloc_std, noSB, vhot, g0, g3, vlen_str T9, h200]
        refine KD.ret (ih (mid k s) σ' (by omega) (by omega)) ?_
        rw [if_neg (by omega)] at hQ
        have hle := depF_le n (mid k s)
        by_cases hz : depF n (mid k s) = 0
        · have hz' : ((depF n (mid k s) : Nat) : Int) = 0 := by omega
          rw [if_pos hz] at hQ
          simp only [(vE k63.eq_1), (oE k63_r0.eq_1), (oE k63_r1.eq_1), (oE k63_r2.eq_1), (oE k63_r3.eq_1), (oE k63_r5.eq_1), (oE k63_r7.eq_1), (oE k63_r9.eq_1), (oE k63_r10.eq_1), (oE k63_r11.eq_1), (oE k63_r12.eq_1), (oE k63_r13.eq_1), (oE k63_r14.eq_1), (oE k63_r15.eq_1), (oE k63_r16.eq_1), WK, vop, evAll, evOpt, evParts, vbuiltin, vun, vextract, Nat.reduceLT, Nat.reduceEqDiff, ↓reduceIte, reduceCtorEq, Nat.reduceAdd, Int.reduceLT, Int.reduceNeg, valloc_std, noSB, vhot, hz']
          exact hQ _ (by simp [upd_some])
        · have hz' : ¬ ((depF n (mid k s) : Nat) : Int) = 0 := by omega
          rw [if_neg hz] at hQ
          have w2 : IntKind.i64.wrap ((depF n (mid k s) : Nat) + 1 : Int) = ((depF n (mid k s) + 1 : Nat) : Int) := by rw [wrap_i64 (by omega) (by omega)]; omega
          simp only [(vE k63.eq_1), (oE k63_r0.eq_1), (oE k63_r1.eq_1), (oE k63_r2.eq_1), (oE k63_r3.eq_1), (oE k63_r5.eq_1), (oE k63_r7.eq_1), (oE k63_r9.eq_1), (oE k63_r10.eq_1), (oE k63_r11.eq_1), (oE k63_r12.eq_1), (oE k63_r13.eq_1), (oE k63_r14.eq_1), (oE k63_r15.eq_1), (oE k63_r16.eq_1), WK, vop, evAll, evOpt, evParts, vbuiltin, vun, vextract, Nat.reduceLT, Nat.reduceEqDiff, ↓reduceIte, reduceCtorEq, Nat.reduceAdd, Int.reduceLT, Int.reduceNeg, valloc_std, noSB, vhot, hz', w2]
          exact hQ _ (by simp [upd_some])
    simp only [WK, vop, evAll, evOpt, evParts, vbuiltin, vun, vextract, Nat.reduceLT, Nat.reduceEqDiff, ↓reduceIte, reduceCtorEq, Nat.reduceAdd, Int.reduceLT, Int.reduceNeg, valloc_std, noSB, vhot] at rest
    unfold innerS
    cases hi1 : is1 s with
    | true =>
      have hlen : 2 < s.length := by simp only [is1, Bool.and_eq_true, decide_eq_true_eq] at hi1; exact hi1.1
      have w1 := wrap_len (s := s) (by omega) hl
      have ms : vslice Try.prog 9 (.str s) (some (.int .i64 1)) (some (.int .i64 ((s.length - 1 : Nat) : Int))) none = some (.str (mid 1 s)) := mid_slice (k := 1) (by omega)
      rw [hi1] at h30
      simp only [(oE k63_r5.eq_1), WK, vop, evAll, evOpt, evParts, vbuiltin, vun, vextract, Nat.reduceLT, Nat.reduceEqDiff, ↓reduceIte, reduceCtorEq, Nat.reduceAdd, Int.reduceLT, Int.reduceNeg, valloc_std, noSB, vhot, h30, g0, vlen_str T9, T9, w1, ms, if_true]
      refine rest 1 _ (by simp [upd_some, g0]) (by omega) _ ?_ (by simp [upd_some])
      intro e' g2
      simp only [WK, vop, evAll, evOpt, evParts, vbuiltin, vun, vextract, Nat.reduceLT, Nat.reduceEqDiff, ↓reduceIte, reduceCtorEq, Nat.reduceAdd, Int.reduceLT, Int.reduceNeg, valloc_std, noSB, vhot, g2]
    | false =>
      rw [hi1] at h30
      simp only [WK, vop, evAll, evOpt, evParts, vbuiltin, vun, vextract, Nat.reduceLT, Nat.reduceEqDiff, ↓reduceIte, reduceCtorEq, Nat.reduceAdd, Int.reduceLT, Int.reduceNeg, valloc_std, noSB, vhot, h30, Bool.false_eq_true, if_false]
      rw [← Ev_region]
      refine Ev.cut (depth_r6 hl g0) ?_
      rintro x e2 σ2 ⟨rfl, rfl, h51⟩ hw
      have f0 : e2 0 = .str s := (hw 0 (by decide)).trans g0
      clear hw
      cases hi2 : isM 6 mI s with
      | true =>
        have hlen : 6 < s.length := by simp only [isM, Bool.and_eq_true, decide_eq_true_eq] at hi2; exact hi2.1
        have w1 := wrap_len (s := s) (by omega) hl
        have ms : vslice Try.prog 9 (.str s) (some (.int .i64 5)) (some (.int .i64 ((s.length - 1 : Nat) : Int))) none = some (.str (mid 5 s)) := mid_slice (k := 5) (by omega)
        rw [hi2] at h51
        simp only [(oE k63_r7.eq_1), WK, vop, evAll, evOpt, evParts, vbuiltin, vun, vextract, Nat.reduceLT, Nat.reduceEqDiff, ↓reduceIte, reduceCtorEq, Nat.reduceAdd, Int.reduceLT, Int.reduceNeg, valloc_std, noSB, vhot, h51, f0, vlen_str T9, T9, w1, ms, if_true]
        refine rest 5 _ (by simp [upd_some, f0]) (by omega) _ ?_ (by simp [upd_some])
        intro e' g2
        simp only [WK, vop, evAll, evOpt, evParts, vbuiltin, vun, vextract, Nat.reduceLT, Nat.reduceEqDiff, ↓reduceIte, reduceCtorEq, Nat.reduceAdd, Int.reduceLT, Int.reduceNeg, valloc_std, noSB, vhot, g2]
      | false =>
        rw [hi2] at h51
        simp only [WK, vop, evAll, evOpt, evParts, vbuiltin, vun, vextract, Nat.reduceLT, Nat.reduceEqDiff, ↓reduceIte, reduceCtorEq, Nat.reduceAdd, Int.reduceLT, Int.reduceNeg, valloc_std, noSB, vhot, h51, Bool.false_eq_true, if_false]
        rw [← Ev_region]
        refine Ev.cut (depth_r8 hl f0) ?_
        rintro x e3 σ3 ⟨rfl, rfl, h72⟩ hw
        have f3 : e3 0 = .str s := (hw 0 (by decide)).trans f0
        clear hw
        cases hi3 : isM 7 mT s with
        | true =>
          have hlen : 7 < s.length := by simp only [isM, Bool.and_eq_true, decide_eq_true_eq] at hi3; exact hi3.1
          have w1 := wrap_len (s := s) (by omega) hl
          have ms : vslice Try.prog 9 (.str s) (some (.int .i64 6)) (some (.int .i64 ((s.length - 1 : Nat) : Int))) none = some (.str (mid 6 s)) := mid_slice (k := 6) (by omega)
          rw [hi3] at h72
          simp only [(oE k63_r9.eq_1), WK, vop, evAll, evOpt, evParts, vbuiltin, vun, vextract, Nat.reduceLT, Nat.reduceEqDiff, ↓reduceIte, reduceCtorEq, Nat.reduceAdd, Int.reduceLT, Int.reduceNeg, valloc_std, noSB, vhot, h72, f3, vlen_str T9, T9, w1, ms, if_true]
          refine rest 6 _ (by simp [upd_some, f3]) (by omega) _ ?_ (by simp [upd_some])
          intro e' g2
          simp only [WK, vop, evAll, evOpt, evParts, vbuiltin, vun, vextract, Nat.reduceLT, Nat.reduceEqDiff, ↓reduceIte, reduceCtorEq, Nat.reduceAdd, Int.reduceLT, Int.reduceNeg, valloc_std, noSB, vhot, g2]
        | false =>
          rw [hi3] at h72
          simp only [(oE k63_r10.eq_1), WK, vop, evAll, evOpt, evParts, vbuiltin, vun, vextract, Nat.reduceLT, Nat.reduceEqDiff, ↓reduceIte, reduceCtorEq, Nat.reduceAdd, Int.reduceLT, Int.reduceNeg, valloc_std, noSB, vhot, h72, Bool.false_eq_true, if_false]
          rfl
end Go.Proofs.Ytplhelapcpcncaa.Q

