/- A law's row out of an abstract run that answers true. -/
import Derived.Test.YtmcadfejkcpblaaQj
set_option linter.unusedVariables false
set_option linter.unusedSimpArgs false
namespace Go.Proofs.Ytmcadfejkcpblaa.Q
open Go Go.RowKit Go.ChangeShapes Go.WideShapes Go.ChangeAt

/-- An argument of a type. -/
def ArgT (P : Program) (t : TypeId) (x : V) : Prop :=
  match P.underlying t with
  | some (.struct _) | some (.array _ _) => ∃ k vs, x = .agg vs ∧ VT P k t vs
  | _ => ∃ k, VT P k t [x]

def ArgsT (P : Program) : List TypeId → List V → Prop
  | [], [] => True
  | t :: ts, x :: xs => ArgT P t x ∧ ArgsT P ts xs
  | _, _ => False

section
variable {H : Type} {enc : TypeId × Value → H} {P : Program} {W : World}

theorem cells_notAgg {v : Value} (h : ∀ cs, v ≠ .agg cs) : v.cells = #[v] := by
  cases v <;> first | rfl | exact absurd rfl (h _)

theorem arg_V (hl : laidOutB P = true) {S : List TypeId} (hS : plainS P S = true) {t : TypeId} (ht : t ∈ S) {v : Value} {d : DataW H} {ps : List MemPlace} {r : Reach} {b : Nat} (hval : Value.okWide P W r b t v) (hd : DataW.Trod enc P W 0 (fun _ => true) true t v d ps) :
    ∃ x, VR (gh0 W) [] W x v ∧ ArgT P t x ∧ vbulk x ≤ Rows.uptoBulk d + 1 := by
  obtain ⟨fuel, hf⟩ := hd
  obtain ⟨vs, h1, h2, h3, h4⟩ := trod_V hl hS fuel ht hf
  simp only at h3
  cases hu : P.underlying t with
  | none =>
    have hPt := List.all_eq_true.1 hS t ht
    rw [hu] at hPt
    simp at hPt
  | some dd =>
    have agg : (∃ cs, v = .agg cs) → ∃ x, VR (gh0 W) [] W x v ∧ (∃ k vs, x = .agg vs ∧ VT P k t vs) ∧ vbulk x ≤ Rows.uptoBulk d + 1 := by
      rintro ⟨cs, rfl⟩
      refine ⟨.agg vs, ?_, ⟨fuel, vs, rfl, h2⟩, by simp only [vbulk]; omega⟩
      simp only [VR]
      exact ⟨cs.toList, by simp, by simpa [Value.cells] using h1⟩
    have one : (∀ cs, v ≠ .agg cs) → ∃ x, VR (gh0 W) [] W x v ∧ (∃ k, VT P k t [x]) ∧ vbulk x ≤ Rows.uptoBulk d + 1 := by
      intro hne
      rw [cells_notAgg hne] at h1
      have hl := h1.length
      match vs, h1, h2, h3, hl with
      | [x], h1, h2, h3, _ =>
        simp only [VRs] at h1
        obtain ⟨u, us, e, hr, _⟩ := h1
        simp at e
        obtain ⟨rfl, _⟩ := e
        exact ⟨x, hr, ⟨fuel, h2⟩, by simp only [vbulks] at h3; omega⟩
    unfold ArgT
    rw [hu]
    unfold Value.okWide at hval
    rw [hu] at hval
    have hcell : ∀ cs, Cell.okWide P W r b t (.agg cs) → (∀ fs, dd ≠ .struct fs) → (∀ n e, dd ≠ .array n e) → False := by
      intro cs hc h5 h6
      have hPt := List.all_eq_true.1 hS t ht
      rw [hu] at hPt
      cases dd <;> simp_all [Cell.okWide, Cell.ok]
    cases dd <;> simp only at hval ⊢ <;> first
      | (obtain ⟨cs, h9, _⟩ := hval; exact agg ⟨cs, h9⟩)
      | (exact one (fun cs e => by subst e; exact hcell cs hval (fun _ h => by cases h) (fun _ _ h => by cases h)))

theorem args_V (hl : laidOutB P = true) {S : List TypeId} (hS : plainS P S = true) {r : Reach} {b : Nat} : ∀ {ts : List TypeId} {vs : List Value} {ds : List (DataW H)} {ps : List MemPlace}, (∀ t, t ∈ ts → t ∈ S) →
    (∀ (j : Nat) t v, ts[j]? = some t → vs[j]? = some v → Value.okWide P W r b t v) → DataW.TrodAll enc P W 0 (fun _ => true) true ts vs ds ps → ∃ xs, VRs (gh0 W) [] W xs vs ∧ ArgsT P ts xs ∧ vbulks xs ≤ Rows.uptoBulkAll ds + ts.length
  | [], [], [], ps, _, _, _ => ⟨[], by simp [VRs], trivial, by simp [vbulks]⟩
  | t :: ts, v :: vs, d :: ds, ps, hin, hval, h => by
    obtain ⟨p, q, h1, h2, _⟩ := h
    obtain ⟨x, hx, ha, hb⟩ := arg_V hl hS (hin t (List.mem_cons_self ..)) (hval 0 t v rfl rfl) h1
    obtain ⟨xs, hxs, has, hbs⟩ := args_V hl hS (fun t' ht' => hin t' (List.mem_cons_of_mem _ ht')) (fun j t' v' hj hv => hval (j + 1) t' v' hj hv) h2
    exact ⟨x :: xs, by simp only [VRs]; exact ⟨v, vs, rfl, hx, hxs⟩, ⟨ha, has⟩, by simp only [vbulks, Rows.uptoBulkAll, List.length_cons]; omega⟩
  | [], [], _ :: _, _, _, _, h => h.elim
  | [], _ :: _, _, _, _, _, h => h.elim
  | _ :: _, [], _, _, _, _, h => h.elim
  | _ :: _, _ :: _, [], _, _, _, h => h.elim

theorem trodAll_below (hl : laidOutB P = true) {W' : World} (hb : Below W.heap.size W W') : ∀ {ts : List TypeId} {vs : List Value} {ds : List (DataW H)} {ps : List MemPlace}, (ts.all fun t => P.readableRec t && decide (t < P.types.size)) = true →
    DataW.TrodAll enc P W 0 (fun _ => true) true ts vs ds ps → DataW.TrodAll enc P W' 0 (fun b => decide (b < W.heap.size)) true ts vs ds ps
  | [], [], [], ps, _, h => h
  | t :: ts, v :: vs, d :: ds, ps, hin, h => by
    obtain ⟨p, q, h1, h2, h3⟩ := h
    simp only [List.all_cons, Bool.and_eq_true, decide_eq_true_eq] at hin
    refine ⟨p, q, ?_, trodAll_below hl hb (by simpa using hin.2) h2, h3⟩
    have hlt : ∀ x ∈ p, x.block < W.heap.size := by obtain ⟨m, hm⟩ := h1; exact DataW.trod_lt m _ _ _ hm
    exact Below.trod hl hin.1.1 hin.1.2 h1 hb hlt
  | [], [], _ :: _, _, _, h => h.elim
  | [], _ :: _, _, _, _, h => h.elim
  | _ :: _, [], _, _, _, h => h.elim
  | _ :: _, _ :: _, [], _, _, h => h.elim

/-- What a law's abstract run has to answer. -/
def LawTrue (P : Program) (pr : Prim) (F : FuncId) (ts : List TypeId) : Prop := ∀ xs, ArgsT P ts xs → vbulks xs ≤ 1048600 → ∃ n σ', vcall P pr n F xs st0 = some (.ret (.bool true), σ')

theorem law_calls {pr : Prim} (hp : ∀ (base : Nat) (w0 : World), PrimOk P pr base w0) (hl : laidOutB P = true) {S : List TypeId} (hS : plainS P S = true) {F : FuncId} {ts : List TypeId} (hts : ∀ t, t ∈ ts → t ∈ S) (h20 : ts.length ≤ 20) (hT : LawTrue P pr F ts) {r : Reach} {b : Nat} {args : Array Value} {ds : List (DataW H)} {ps : List MemPlace}
    (hval : ∀ (j : Nat) t v, ts[j]? = some t → args.toList[j]? = some v → Value.okWide P W r b t v) (hA : DataW.TrodAll enc P W 0 (fun _ => true) true ts args.toList ds ps) (hk : Rows.uptoBulkAll ds ≤ 1048576) :
    Calls P F args W fun e W' => e = .returned (.bool true) ∧ Below W.heap.size W W' := by
  obtain ⟨xs, h1, h2, h3⟩ := args_V hl hS hts hval hA
  obtain ⟨n, σ', hn⟩ := hT xs h2 (by omega)
  have := vcall_sound (hp W.heap.size W) hn (gh0 W) W args.toList (rel0 W) h1
  rw [Array.toArray_toList] at this
  refine this.mono fun e W' ⟨g', hE, hR, u, he, hV⟩ => ?_
  simp only [VR] at hV
  subst hV
  exact ⟨he, hR.below⟩

theorem law_post (hl : laidOutB P = true) {f : Func} {tb : TypeId} (hres : f.resultTypes = #[tb]) (htb : P.underlying tb = some .bool) (hpar : (f.params.toList.all fun t => P.readableRec t && decide (t < P.types.size)) = true) {s : ChangeSpec} (hvars : s.vars = []) {args : Array Value} {ds gs : List (DataW H)} {before : List MemPlace}
    (hW : DataW.Whole enc P f.params.toList s.vars false W args.toList ds gs before) (hs : (s.fn H (ds ++ gs)).results = [.lit (.bool true)] ∧ (s.fn H (ds ++ gs)).args = ds ∧ (s.fn H (ds ++ gs)).vars = []) {W' : World} (hb : Below W.heap.size W W') :
    ∃ v, Ending.returned (.bool true) = .returned v ∧ s.post enc P f false true false false W args v W' := by
  have hW2 := hW
  obtain ⟨p, q, hA, hV, rfl, hfz, hnd⟩ := hW
  refine ⟨_, rfl, ds, gs, p ++ q, [], p, [], hW2, ?_, ?_, ?_, hb.frame _, fun h => by cases h⟩
  · rw [hs.1, hres]
    exact trodAll_mk1 (shut_bool htb _)
  · rw [hs.2.1]
    exact trodAll_below hl hb hpar hA
  · rw [hs.2.2, hvars]
    exact rfl
end

theorem trodAll_len {H : Type} {enc : TypeId × Value → H} {P : Program} {W : World} {c : Nat} {f : Nat → Bool} {b : Bool} : ∀ {ts : List TypeId} {vs : List Value} {ds : List (DataW H)} {ps : List MemPlace}, DataW.TrodAll enc P W c f b ts vs ds ps → ds.length = ts.length
  | [], [], [], ps, h => rfl
  | t :: ts, v :: vs, d :: ds, ps, h => by
    obtain ⟨p, q, _, h2, _⟩ := h
    simp [trodAll_len h2]
  | [], [], _ :: _, _, h => h.elim
  | [], _ :: _, _, _, h => h.elim
  | _ :: _, [], _, _, h => h.elim
  | _ :: _, _ :: _, [], _, h => h.elim

/-- No function is told by hand. -/
def noPrim : Prim := ⟨fun _ => false, fun _ _ _ => none, fun _ => false⟩
theorem noPrim_ok (P : Program) (base : Nat) (w0 : World) : PrimOk P noPrim base w0 := fun f vs σ v σ' h => by simp [noPrim] at h
end Go.Proofs.Ytmcadfejkcpblaa.Q
