/- Operations that make or change memory: variables, rows, stores, appends. -/
import Derived.Test.YtmcadfejkcpblaaQe
import Derived.Laws.Tables
import Derived.Laws.CopyRow
set_option linter.unusedVariables false
set_option linter.unusedSimpArgs false
namespace Go.Proofs.Ytmcadfejkcpblaa.Q
open Go Go.RowKit

section
variable {P : Program} {base : Nat} {w0 : World} {g : Gh} {σ : St} {w : World}

/-- The operation answers what is said; memory behind it is the new state's. -/
def MOk (P : Program) (base : Nat) (w0 : World) (g : Gh) (σ : St) (w : World) (m : Sem Value) (v : V) (σ' : St) : Prop :=
  ∃ u w' g', m.run P w = .ok u w' ∧ Ext g σ.toks w g' σ'.toks w' ∧ Rel base w0 g' σ' w' ∧ VR g' σ'.toks w' v u

/-! ### Filling -/
def setAll : List V → Nat → List V → List V
  | cs, _, [] => cs
  | cs, off, v :: vs => setAll (cs.set off v) (off + 1) vs

def vfill (place : Nat → Option (Nat × Nat)) (cells : List V) : List (Nat × V) → Option (List V)
  | [] => some cells
  | (i, v) :: rest =>
    match place i with
    | none => none
    | some (off, size) =>
      if (vcells v).length ≠ size || off + (vcells v).length > cells.length then none
      else vfill place (setAll cells off (vcells v)) rest

theorem length_setAll : ∀ (vs : List V) (cs : List V) (off : Nat), (setAll cs off vs).length = cs.length
  | [], cs, off => rfl
  | v :: vs, cs, off => by simp [setAll, length_setAll vs]

theorem setAll_ok {toks : List Bool} : ∀ {vs : List V} {us : List Value} {cs : List V} {xs : Array Value} (off k : Nat), VRs g toks w vs us → VRs g toks w cs xs.toList →
    VRs g toks w (setAll cs (off + k) vs) ((us.zipIdx k).foldl (fun c (p : Value × Nat) => c.setIfInBounds (off + p.2) p.1) xs).toList
  | [], us, cs, xs, off, k, hv, hc => by simp only [VRs] at hv; subst hv; simpa [setAll] using hc
  | v :: vs, us, cs, xs, off, k, hv, hc => by
    simp only [VRs] at hv
    obtain ⟨u, us', rfl, h1, h2⟩ := hv
    simp only [setAll, List.zipIdx_cons, List.foldl_cons]
    exact setAll_ok off (k + 1) h2 (by simpa using VRs.set hc (off + k) h1)

def PartsR (g : Gh) (toks : List Bool) (w : World) : List (Nat × V) → List (Nat × Value) → Prop
  | [], us => us = []
  | (i, v) :: vs, us => ∃ u us', us = (i, u) :: us' ∧ VR g toks w v u ∧ PartsR g toks w vs us'

theorem vfill_ok {toks : List Bool} {place place' : Nat → Option (Nat × Nat)} (hp : ∀ i, place i = place' i) : ∀ {parts : List (Nat × V)} {parts' : List (Nat × Value)} {cs cs' : List V} {xs : Array Value},
    PartsR g toks w parts parts' → VRs g toks w cs xs.toList → vfill place cs parts = some cs' → ∃ xs', Instr.fill place' xs parts' = some xs' ∧ VRs g toks w cs' xs'.toList
  | [], parts', cs, cs', xs, hr, hc, h => by
    simp only [PartsR] at hr; subst hr
    simp only [vfill] at h; injection h with h; subst h
    exact ⟨xs, rfl, hc⟩
  | (i, v) :: parts, parts', cs, cs', xs, hr, hc, h => by
    simp only [PartsR] at hr
    obtain ⟨u, us', rfl, h1, h2⟩ := hr
    simp only [vfill] at h
    split at h
    · cases h
    · rename_i off size hpl
      split at h
      · cases h
      · rename_i hne
        have hl := (vcells_ok h1).length
        have hl2 := hc.length
        have hsz : u.cells.size = (vcells v).length := by rw [hl]; simp
        have hxs : xs.size = cs.length := by rw [hl2]; simp
        obtain ⟨xs', hf, hr'⟩ := vfill_ok hp h2 (xs := (u.cells.toList.zipIdx 0).foldl (fun c (p : Value × Nat) => c.setIfInBounds (off + p.2) p.1) xs) (by simpa using setAll_ok off 0 (vcells_ok h1) hc) h
        refine ⟨xs', ?_, hr'⟩
        simp only [Instr.fill, ← hp, hpl, hsz, hxs]
        rw [if_neg hne]
        rw [← hf]
        congr 1
        rw [← Array.foldl_toList]
        simp

/-! ### Structs by value -/
def vbuild (P : Program) (t : TypeId) (parts : List (Nat × V)) : Option V :=
  match zeroT P t, P.underlying t with
  | some z, some (.struct fields) => match fields.toList.mapM (fun f => (P.info? f.type).map fun i => (f.offset, i.size)) with
    | some places => (vfill (places[·]?) (vcells z) parts).map .agg
    | none => none
  | some z, some (.array _ e) => match sizeT P e with
    | some sz => (vfill (fun i => some (i * sz, sz)) (vcells z) parts).map .agg
    | none => none
  | _, _ => none

theorem zeroT_parts {t : TypeId} {z : V} (h : zeroT P t = some z) : ∃ i u, P.info? t = some i ∧ i.zero = some u ∧ ofVal u = some z := by
  unfold zeroT at h
  rw [Option.bind_eq_some_iff] at h
  obtain ⟨u, hu, hz⟩ := h
  rw [Option.bind_eq_some_iff] at hu
  obtain ⟨i, hi, hu⟩ := hu
  exact ⟨i, u, hi, hu, hz⟩

theorem vbuild_ok {toks : List Bool} {t : TypeId} {parts : List (Nat × V)} {parts' : Array (Nat × Value)} {v : V} (hp : PartsR g toks w parts parts'.toList) (h : vbuild P t parts = some v) : POk P g toks w (Instr.build t parts') v := by
  unfold vbuild at h
  split at h
  · rename_i z fields hz hu
    obtain ⟨it, u, hit, hzu, ho⟩ := zeroT_parts hz
    split at h
    · rename_i places hpl
      rw [Option.map_eq_some_iff] at h
      obtain ⟨cs, hf, rfl⟩ := h
      obtain ⟨xs, hx, hr⟩ := vfill_ok (place' := (places.toArray[·]?)) (fun i => by simp) hp (vcells_ok (ofVal_ok ho)) hf
      refine ⟨.agg xs, run_build w t parts' xs ?_, by simp only [VR]; exact ⟨xs.toList, by simp, hr⟩⟩
      simp only [Program.built, hit, hu, hzu, hpl]
      exact hx
    · cases h
  · rename_i z n e hz hu
    obtain ⟨it, u, hit, hzu, ho⟩ := zeroT_parts hz
    split at h
    · rename_i sz hsz
      unfold sizeT at hsz
      rw [Option.map_eq_some_iff] at hsz
      obtain ⟨ie, hie, rfl⟩ := hsz
      rw [Option.map_eq_some_iff] at h
      obtain ⟨cs, hf, rfl⟩ := h
      obtain ⟨xs, hx, hr⟩ := vfill_ok (fun i => rfl) hp (vcells_ok (ofVal_ok ho)) hf
      refine ⟨.agg xs, run_build w t parts' xs ?_, by simp only [VR]; exact ⟨xs.toList, by simp, hr⟩⟩
      simp only [Program.built, hit, hu, hzu, hie]
      exact hx
    · cases h
  · cases h

/-! ### New variables -/
def vbox (σ : St) (v : V) : V × St := (.optr σ.objs.length 0, ⟨σ.objs ++ [.cells (vcells v)], σ.toks⟩)

theorem vbox_ok (h : Rel base w0 g σ w) {v : V} {u : Value} (hv : VR g σ.toks w v u) (t : TypeId) : ∃ a w' g', (newVar t u).run P w = .ok a w' ∧ Ext g σ.toks w g' (vbox σ v).2.toks w' ∧ Rel base w0 g' (vbox σ v).2 w' ∧ VR g' (vbox σ v).2.toks w' (vbox σ v).1 (.pointer (some a)) := by
  refine ⟨⟨w.heap.size, 0, none⟩, w.alloc (.cells u.cells t), g.obj w.heap.size, by simp [newVar, newRow, newObj, Sem.run], Ext.obj h _, h.newObj u.cells t (vcells v) (vcells_ok hv), ?_⟩
  simp only [vbox, VR]
  simp [Gh.obj, h.n, Gh.has]

/-- A new variable of a type that is kept in mind. -/
def vboxT (σ : St) (t : TypeId) (v : V) : V × St := (.optr σ.objs.length 0, ⟨σ.objs ++ [.tcells t (vcells v)], σ.toks⟩)
theorem vboxT_ok (h : Rel base w0 g σ w) {v : V} {u : Value} (hv : VR g σ.toks w v u) (t : TypeId) : ∃ a w' g', (newVar t u).run P w = .ok a w' ∧ Ext g σ.toks w g' (vboxT σ t v).2.toks w' ∧ Rel base w0 g' (vboxT σ t v).2 w' ∧ VR g' (vboxT σ t v).2.toks w' (vboxT σ t v).1 (.pointer (some a)) := by
  refine ⟨⟨w.heap.size, 0, none⟩, w.alloc (.cells u.cells t), g.obj w.heap.size, by simp [newVar, newRow, newObj, Sem.run], Ext.obj h _, h.newT u.cells t (vcells v) (vcells_ok hv), ?_⟩
  simp only [vboxT, VR]
  simp [Gh.obj, h.n, Gh.has]
/-- A struct of two fields, a pointer to itself and bytes: strings.Builder. -/
def isSB (P : Program) (e : TypeId) : Bool := match P.underlying e with
  | some (.struct fs) => match fs.toList.map (·.type) with
    | [a, b] => match P.underlying a, P.underlying b with
      | some (.pointer e'), some (.slice u) => decide (e' = e) && isU8 P u
      | _, _ => false
    | _ => false
  | _ => false
def valloc (P : Program) (σ : St) (e : TypeId) : Option (V × St) := if isSB P e = true then (zeroT P e).map (vboxT σ e) else (zeroT P e).map (vbox σ)
theorem valloc_std {P : Program} {σ : St} {e : TypeId} (h : isSB P e = false) : valloc P σ e = (zeroT P e).map (vbox σ) := by unfold valloc; rw [if_neg (by rw [h]; decide)]
theorem valloc_sb {P : Program} {σ : St} {e : TypeId} (h : isSB P e = true) : valloc P σ e = (zeroT P e).map (vboxT σ e) := by unfold valloc; rw [if_pos h]

/-! ### Stores -/
def vstore (P : Program) (σ : St) (t : TypeId) (x v : V) : Option St :=
  match x with
  | .optr r off => match σ.objs[r]? with
    | some (.cells cs) =>
      if sizeT P t = some (vcells v).length ∧ off + (vcells v).length ≤ cs.length ∧ (vcells v).all one = true then
        some ⟨σ.objs.set r (.cells (setAll cs off (vcells v))), σ.toks⟩
      else none
    | some (.tcells ty cs) =>
      if sizeT P t = some (vcells v).length ∧ off + (vcells v).length ≤ cs.length ∧ (vcells v).all one = true then
        some ⟨σ.objs.set r (.tcells ty (setAll cs off (vcells v))), σ.toks⟩
      else none
    | _ => none
  | _ => none

theorem storeCells_ok {m : Option TypeId} : ∀ (vs : List V) {us : List Value} {σ : St} {w : World} {r : Nat} {cs : List V} (off k : Nat), Rel base w0 g σ w → VRs g σ.toks w vs us → σ.objs[r]? = some (Ob.of m cs) → off + k + vs.length ≤ cs.length → vs.all one = true →
    ∃ w', (storeCells ⟨g.ρ r, g.ob r + off, none⟩ us k).run P w = .ok () w' ∧ Ext g σ.toks w g σ.toks w' ∧ Rel base w0 g ⟨σ.objs.set r (Ob.of m (setAll cs (off + k) vs)), σ.toks⟩ w'
  | [], us, σ, w, r, cs, off, k, h, hv, hr, hl, h1 => by
    simp only [VRs] at hv; subst hv
    refine ⟨w, by simp [storeCells], Ext.refl _ _ _, ?_⟩
    simp only [setAll]
    have : σ.objs.set r (Ob.of m cs) = σ.objs := by
      apply List.ext_getElem?
      intro i
      rw [List.getElem?_set]
      split
      · rename_i e; subst e; rw [if_pos (List.getElem?_eq_some_iff.1 hr).1]; exact hr.symm
      · rfl
    rw [this]
    exact h
  | v :: vs, us, σ, w, r, cs, off, k, h, hv, hr, hl, h1 => by
    simp only [VRs] at hv
    obtain ⟨u, us', rfl, hv1, hv2⟩ := hv
    simp only [List.all_cons, Bool.and_eq_true] at h1
    simp only [List.length_cons] at hl
    have hoff : off + k < cs.length := by omega
    have hR := h.setOf hr (off + k) hoff hv1
    have hone := one_ok hv1 h1.1
    obtain ⟨hb, hL, c, ty, us0, hh, hus, hlen, hcells⟩ := h.cellsOf hr
    have hul := hus.length
    have hcell : ∃ y, w.cell? ⟨g.ρ r, g.ob r + (off + k), none⟩ = some y := by
      simp only [World.cell?, hh]
      simp
      exact ⟨_, Array.getElem?_eq_getElem (by omega)⟩
    obtain ⟨y, hy⟩ := hcell
    have hfr : w.frozen? ⟨g.ρ r, g.ob r + (off + k), none⟩ = false := by simp [World.frozen?, hh]
    have E : Ext g σ.toks w g σ.toks (w.setCell ⟨g.ρ r, g.ob r + (off + k), none⟩ u) := Ext.setCell σ.toks _ _ u hL
    obtain ⟨w', hrun, hE, hR'⟩ := storeCells_ok (m := m) vs (σ := ⟨σ.objs.set r (Ob.of m (cs.set (off + k) v)), σ.toks⟩) (r := r) (cs := cs.set (off + k) v) off (k + 1) hR (VRs.ext E vs hv2)
      (by simp [(List.getElem?_eq_some_iff.1 hr).1]) (by simp; omega) h1.2
    refine ⟨w', ?_, E.trans hE, by simpa [setAll, Nat.add_assoc] using hR'⟩
    have hst : (store ⟨g.ρ r, g.ob r + (off + k), none⟩ u).run P w = .ok () (w.setCell ⟨g.ρ r, g.ob r + (off + k), none⟩ u) := by
      unfold store
      cases u <;> simp [Value.oneCell'] at hone <;> simp [Sem.run, hy, hfr]
    simp only [storeCells, Addr.add_lit, Sem.run_bind, Nat.add_assoc, hst, Result.andThen_ok]
    exact hrun

theorem vstore_ok (h : Rel base w0 g σ w) {t : TypeId} {x v : V} {a u : Value} {σ' : St} (hx : VR g σ.toks w x a) (hv : VR g σ.toks w v u) (hs : vstore P σ t x v = some σ') :
    ∃ w', (Instr.storeAt t a u).run P w = .ok () w' ∧ Ext g σ.toks w g σ'.toks w' ∧ Rel base w0 g σ' w' := by
  unfold vstore at hs
  split at hs
  · rename_i r off
    split at hs
    · rename_i cs hr
      split at hs
      · rename_i hc
        injection hs with hs; subst hs
        simp only [VR] at hx
        obtain ⟨_, rfl⟩ := hx
        have hc2 := vcells_ok hv
        obtain ⟨w', h1, h2, h3⟩ := storeCells_ok (P := P) (m := none) (vcells v) off 0 h hc2 hr (by omega) hc.2.2
        refine ⟨w', ?_, h2, by simpa [Ob.of] using h3⟩
        have hl := hc2.length
        simp only [Array.length_toList] at hl
        simp [Instr.storeAt, Instr.sureAddr, storeVar, run_sizeT hc.1, hl, h1]
      · cases hs
    · rename_i ty cs hr
      split at hs
      · rename_i hc
        injection hs with hs; subst hs
        simp only [VR] at hx
        obtain ⟨_, rfl⟩ := hx
        have hc2 := vcells_ok hv
        obtain ⟨w', h1, h2, h3⟩ := storeCells_ok (P := P) (m := some ty) (vcells v) off 0 h hc2 hr (by omega) hc.2.2
        refine ⟨w', ?_, h2, by simpa [Ob.of] using h3⟩
        have hl := hc2.length
        simp only [Array.length_toList] at hl
        simp [Instr.storeAt, Instr.sureAddr, storeVar, run_sizeT hc.1, hl, h1]
      · cases hs
    · cases hs
  · cases hs

/-! ### Rows by literals -/
def zeroCellsV (z : List V) (n : Nat) : List V := (List.range n).map fun i => z.getD (i % z.length) (.tuple [])

theorem zeroCellsV_ok {toks : List Bool} {z : List V} {u : Array Value} (h : VRs g toks w z u.toList) (hz : 0 < z.length) (n : Nat) : VRs g toks w (zeroCellsV z n) ((Array.range n).map (u[· % u.size]!)).toList := by
  have hl : z.length = u.size := by have := h.length; simpa using this
  refine VRs.of_get (by simp [zeroCellsV]) fun i v x hv hx => ?_
  have hi : i < n := by
    have := (List.getElem?_eq_some_iff.1 hv).1
    simpa [zeroCellsV] using this
  simp [zeroCellsV, hi] at hv
  simp [hi] at hx
  subst hv hx
  have hm : i % u.size < u.size := Nat.mod_lt _ (by omega)
  obtain ⟨y, hy, hr⟩ := VRs.get (i % z.length) h (List.getElem?_eq_getElem (by rw [hl]; exact hm))
  rw [hl] at hy
  rw [Array.getElem?_toList, Array.getElem?_eq_getElem hm] at hy
  injection hy with hy
  rw [getElem!_pos u (i % u.size) hm, hy]
  rw [List.getElem?_eq_getElem (by rw [hl]; exact hm)]
  simpa using hr

def vbuildSlice (P : Program) (t : TypeId) (len : Nat) (parts : List (Nat × V)) : Option V :=
  match P.underlying t with
  | some (.slice e) => match sizeT P e, zeroT P e with
    | some sz, some z =>
      if len * sz ≤ 16777216 ∧ (vcells z).length = sz ∧ 0 < sz then
        (vfill (fun i => some (i * sz, sz)) (zeroCellsV (vcells z) (len * sz)) parts).map fun cs => .slice .exact sz cs len
      else none
    | _, _ => none
  | _ => none

theorem length_vfill {place : Nat → Option (Nat × Nat)} : ∀ {parts : List (Nat × V)} {cs cs' : List V}, vfill place cs parts = some cs' → cs'.length = cs.length
  | [], cs, cs', h => by simp only [vfill] at h; injection h with h; subst h; rfl
  | (i, v) :: parts, cs, cs', h => by
    simp only [vfill] at h
    split at h
    · cases h
    · split at h
      · cases h
      · rw [length_vfill h, length_setAll]

theorem vbuildSlice_ok (h : Rel base w0 g σ w) {t : TypeId} {len : Nat} {parts : List (Nat × V)} {parts' : Array (Nat × Value)} {v : V} (hp : PartsR g σ.toks w parts parts'.toList) (hb : vbuildSlice P t len parts = some v) :
    MOk P base w0 g σ w (Instr.buildSlice t len parts') v σ := by
  unfold vbuildSlice at hb
  split at hb
  · rename_i e hu
    split at hb
    · rename_i sz z hsz hz
      obtain ⟨it, uz, hit, hzu, ho⟩ := zeroT_parts hz
      split at hb
      · rename_i hc
        obtain ⟨hc1, hc2, hc3⟩ := hc
        rw [Option.map_eq_some_iff] at hb
        obtain ⟨cs, hf, rfl⟩ := hb
        have hzr := vcells_ok (ofVal_ok (g := g) (s := σ.toks) (w := w) ho)
        have hlen := length_vfill hf
        have hlz : (zeroCellsV (vcells z) (len * sz)).length = len * sz := by simp [zeroCellsV]
        have hrz : (zeroValue e).run P w = .ok uz w := by simp [zeroValue, typeInfo, hit, hzu]
        have hrow : VRs g σ.toks w (zeroCellsV (vcells z) (len * sz)) ((Array.range (len * sz)).map (uz.cells[· % uz.cells.size]!)).toList := zeroCellsV_ok hzr (by omega) _
        obtain ⟨xs, hx, hr⟩ := vfill_ok (place' := fun i => some (i * sz, sz)) (fun i => rfl) hp hrow hf
        have hxl : xs.size = len * sz := by have h9 : cs.length = xs.size := (by have := hr.length; simpa using this); omega
        have E := Ext.row h (.cells xs e) (len * sz)
        refine ⟨.slice (some ⟨w.heap.size, 0, none⟩) len len, w.alloc (.cells xs e), g.row w.heap.size (len * sz), ?_, E, h.row _ _, ?_⟩
        · have n1 : ¬ (len * sz > 2 ^ 24) := by omega
          by_cases h0 : len * sz = 0
          · have e0 : ((Array.range (len * sz)).map (uz.cells[· % uz.cells.size]!)) = #[] := by rw [h0]; simp
            rw [e0] at hx
            have h0' : len = 0 ∨ sz = 0 := by rw [← Nat.mul_eq_zero]; exact h0
            have e1 : Array.map (fun _ => (default : Value)) (Array.range 0) = #[] := by apply Array.ext'; simp
            simp [Instr.buildSlice, run_underlying hu, run_sizeT hsz, h0', h0, hx, newRow, newObj, Sem.run, e1]
          · have h0' : ¬ (len = 0 ∨ sz = 0) := by rw [← Nat.mul_eq_zero]; exact h0
            have n2 : len * sz ≠ 0 := h0
            simp [Instr.buildSlice, run_underlying hu, run_sizeT hsz, h0', hrz, hx, newRow, newObj, Sem.run, show ¬ (16777216 < len * sz) from by omega]
            intro h9
            exact absurd h9 n2
        · simp only [VR]
          refine ⟨⟨w.heap.size, 0, none⟩, len, xs.toList, rfl, by omega, Nat.le_refl _, ?_, fun _ => ⟨rfl, by simp [Gh.row, hxl], fun i u hi => ?_⟩, VRs.ext E cs hr, rfl⟩
          · have : len ≤ len * sz := Nat.le_mul_of_pos_right _ hc3
            unfold maxLen
            omega
          · rw [Nat.zero_add]
            simp only [World.cell?, heap_alloc_eq]
            simpa using hi
      · cases hb
    · cases hb
  · cases hb

/-! ### make([]T, l, c) -/
def vmakeSlice (P : Program) (σ : St) (t : TypeId) (l c : V) : Option (V × St) :=
  match P.underlying t, l, c with
  | some (.slice e), .int _ l, .int _ c => match (P.info? e).map (·.bytes), sizeT P e, zeroT P e with
    | some by_, some sz, some z =>
      if 0 ≤ l ∧ l ≤ c ∧ by_ * c.toNat ≤ 140737488355328 ∧ c ≤ 140737488355328 ∧ (vcells z).length = sz ∧ 0 < sz then
        some (.slice (.tok σ.toks.length e) sz (zeroCellsV (vcells z) (l.toNat * sz)) l.toNat, ⟨σ.objs, σ.toks ++ [true]⟩)
      else none
    | _, _, _ => none
  | _, _, _ => none

/-- A new row that has room behind it, and the token for it. -/
theorem newRow_ok (h : Rel base w0 g σ w) (xs : Array Value) (e : TypeId) (cs : List V) (us : List Value) (hv : VRs g σ.toks w cs us) (hpre : xs.toList.take us.length = us) (len cap sz : Nat) (hl : cs.length = len * sz) (hc : len ≤ cap) (hm : cap ≤ maxLen) (hx : xs.size = cap * sz) :
    Ext g σ.toks w ((g.row w.heap.size (len * sz)).token σ.toks.length w.heap.size) (σ.toks ++ [true]) (w.alloc (.cells xs e)) ∧
    Rel base w0 ((g.row w.heap.size (len * sz)).token σ.toks.length w.heap.size) ⟨σ.objs, σ.toks ++ [true]⟩ (w.alloc (.cells xs e)) ∧
    VR ((g.row w.heap.size (len * sz)).token σ.toks.length w.heap.size) (σ.toks ++ [true]) (w.alloc (.cells xs e)) (.slice (.tok σ.toks.length e) sz cs len) (.slice (some ⟨w.heap.size, 0, none⟩) len cap) := by
  have E1 := Ext.row h (.cells xs e) (len * sz)
  have R1 := h.row (.cells xs e) (len * sz)
  have E2 : Ext (g.row w.heap.size (len * sz)) σ.toks (w.alloc (.cells xs e)) ((g.row w.heap.size (len * sz)).token σ.toks.length w.heap.size) (σ.toks ++ [true]) (w.alloc (.cells xs e)) := Ext.token _ _ _
  have E := E1.trans E2
  refine ⟨E, R1.token w.heap.size h.bs (by simp) (fun r hr => ?_) (fun t ht => ?_), ?_⟩
  · have := h.alive_block hr
    show g.ρ r ≠ _
    omega
  · have := (h.tok t ht).2.1
    show g.tk t ≠ _
    omega
  · have hul := hv.length
    simp only [VR]
    refine ⟨⟨w.heap.size, 0, none⟩, cap, us, rfl, hl, hc, hm, fun _ => ⟨rfl, by simp [Gh.token, Gh.row]; omega, fun i u hi => ?_⟩, VRs.ext E cs hv, ⟨by simp, fun _ => ⟨by simp [Gh.token], by simp [Gh.token, Gh.row], xs, by simp only [Gh.token, if_pos]; exact heap_alloc_eq _ _, hx⟩⟩⟩
    rw [Nat.zero_add]
    simp only [World.cell?, heap_alloc_eq]
    have hil : i < us.length := (List.getElem?_eq_some_iff.1 hi).1
    rw [← hpre, List.getElem?_take_of_lt hil] at hi
    simpa using hi

theorem toList_range_map_take (u : Array Value) (m n : Nat) (h : m ≤ n) : (((Array.range n).map (u[· % u.size]!)).toList).take m = ((Array.range m).map (u[· % u.size]!)).toList := by
  apply List.ext_getElem?
  intro i
  rw [List.getElem?_take]
  by_cases hi : i < m
  · rw [if_pos hi]
    simp [hi, show i < n from by omega]
  · rw [if_neg hi]
    simp [hi]

theorem vmakeSlice_ok (h : Rel base w0 g σ w) {t : TypeId} {l c : V} {a b : Value} {v : V} {σ' : St} (hl : VR g σ.toks w l a) (hc : VR g σ.toks w c b) (hb : vmakeSlice P σ t l c = some (v, σ')) :
    MOk P base w0 g σ w (Instr.makeSlice t a b) v σ' := by
  unfold vmakeSlice at hb
  split at hb
  · rename_i e k1 l k2 c hu
    simp only [VR] at hl hc; subst hl hc
    split at hb
    · rename_i by_ sz z hby hsz hz
      obtain ⟨it, uz, hit, hzu, ho⟩ := zeroT_parts hz
      split at hb
      · rename_i hcond
        obtain ⟨h0, h1, h2, h3, h4, h5⟩ := hcond
        injection hb with hb
        injection hb with hv hs
        subst hv hs
        have hby' : it.bytes = by_ := by rw [hit] at hby; simpa using hby
        have hsz' : it.size = sz := by unfold sizeT at hsz; rw [hit] at hsz; simpa using hsz
        have hbound : (it.bytes : Int) * c ≤ 281474976710656 := by
          rw [hby']
          have e1 : (by_ : Int) * c = ((by_ * c.toNat : Nat) : Int) := by rw [Int.natCast_mul]; congr 1; omega
          rw [e1]
          omega
        have hrun := run_make (P := P) w t e it uz hu hit hzu k1 k2 l c h0 h1 hbound (by omega)
        have hzr := vcells_ok (ofVal_ok (g := g) (s := σ.toks) (w := w) ho)
        have hrow : VRs g σ.toks w (zeroCellsV (vcells z) (l.toNat * sz)) ((Array.range (l.toNat * sz)).map (uz.cells[· % uz.cells.size]!)).toList := zeroCellsV_ok hzr (by omega) _
        have hN := newRow_ok h (madeCells uz.cells (c.toNat * it.size)) e _ _ hrow (by
            have := toList_range_map_take uz.cells (l.toNat * sz) (c.toNat * it.size) (by rw [hsz']; exact Nat.mul_le_mul_right _ (by omega))
            simp only [madeCells]
            rw [Array.length_toList, Array.size_map, Array.size_range]
            exact this) l.toNat c.toNat sz (by simp [zeroCellsV]) (by omega) (by unfold maxLen; omega) (by rw [size_madeCells, hsz'])
        exact ⟨_, _, _, hrun, hN.1, hN.2.1, hN.2.2⟩
      · cases hb
    · cases hb
  · cases hb

end
end Go.Proofs.Ytmcadfejkcpblaa.Q
