/- One operation of an abstract run, and that the model's operation does just that. -/
import Derived.Test.YtmcadfejkcpblaaQgm
set_option linter.unusedVariables false
set_option linter.unusedSimpArgs false
namespace Go.Proofs.Ytmcadfejkcpblaa.Q
open Go Go.RowKit

section
variable {P : Program} {base : Nat} {w0 : World} {g : Gh} {σ : St} {w : World}

/-! ### []byte(s) -/
theorem bytesWorld_alloc (w : World) (e : TypeId) (s : ByteArray) : Lib.bytesWorld w e s = w.drew.alloc (.cells (Lib.bytesCells w e s) e ((Lib.bytesCells w e s).size, (Lib.bytesCells w e s).size + 1)) := by
  have hh : (Lib.bytesWorld w e s).heap = (w.drew.alloc (.cells (Lib.bytesCells w e s) e ((Lib.bytesCells w e s).size, (Lib.bytesCells w e s).size + 1))).heap := by
    apply Array.ext_getElem?
    intro i
    rcases Nat.lt_trichotomy i w.heap.size with h | h | h
    · rw [Lib.bytesWorld_at_old w e s i h, heap_alloc_lt w.drew _ i h]; rfl
    · subst h
      rw [Lib.bytesWorld_at_new]
      exact (heap_alloc_eq w.drew _).symm
    · rw [Array.getElem?_eq_none (by rw [Lib.bytesWorld_size]; omega), Array.getElem?_eq_none (by rw [World.size_alloc]; show w.heap.size + 1 ≤ i; omega)]
  have hrest : Lib.bytesWorld w e s = { (w.drew.alloc (.cells (Lib.bytesCells w e s) e ((Lib.bytesCells w e s).size, (Lib.bytesCells w e s).size + 1))) with heap := (Lib.bytesWorld w e s).heap } := by
    unfold Lib.bytesWorld World.freeze
    split <;> rfl
  rw [hrest, hh]

def vbytes (P : Program) (src dst : TypeId) (x : V) : Option V :=
  match P.underlying src, P.underlying dst, x with
  | some _, some (.slice e), .str l => if isU8 P e then some (.slice .ro 1 (l.map byteV) l.length) else none
  | _, _, _ => none

theorem vbytes_ok (h : Rel base w0 g σ w) {src dst : TypeId} {x v : V} {a : Value} (hx : VR g σ.toks w x a) (hb : vbytes P src dst x = some v) (hlen : ∀ l, x = .str l → l.length ≤ 140737488355328) : MOk P base w0 g σ w (convert src dst a) v σ := by
  unfold vbytes at hb
  split at hb
  · rename_i u e l hs hd
    split at hb
    · rename_i he
      injection hb with hb; subst hb
      simp only [VR] at hx; subst hx
      have hl := hlen l rfl
      have hrun := Lib.run_convert_string_bytes (P := P) w src dst e ⟨l.toArray⟩ hs hd (isU8_eq he)
      rw [bytesWorld_alloc, size_mk] at hrun
      have E := (Ext.drew g σ.toks w).trans (Ext.row h.drew (.cells (Lib.bytesCells w e ⟨l.toArray⟩) e ((Lib.bytesCells w e ⟨l.toArray⟩).size, (Lib.bytesCells w e ⟨l.toArray⟩).size + 1)) l.length)
      refine ⟨_, _, _, hrun, E, h.drew.row _ _, ?_⟩
      simp only [VR]
      have hge := grownCap_ge w l.length 0 e
      refine ⟨⟨w.heap.size, 0, none⟩, grownCap w l.length 0 e, l.map fun b => Value.int .u8 (b.toNat : Int), rfl, by simp, hge, grownCap_le_maxLen w _ _ e (by unfold maxLen; omega), fun _ => ⟨rfl, by simp [Gh.row], fun i u hi => ?_⟩, ?_, trivial⟩
      · rw [Nat.zero_add]
        have hc := heap_alloc_eq w.drew (.cells (Lib.bytesCells w e ⟨l.toArray⟩) e ((Lib.bytesCells w e ⟨l.toArray⟩).size, (Lib.bytesCells w e ⟨l.toArray⟩).size + 1))
        have hc' : (w.drew.alloc (.cells (Lib.bytesCells w e ⟨l.toArray⟩) e ((Lib.bytesCells w e ⟨l.toArray⟩).size, (Lib.bytesCells w e ⟨l.toArray⟩).size + 1))).heap[w.heap.size]? = some (.cells (Lib.bytesCells w e ⟨l.toArray⟩) e ((Lib.bytesCells w e ⟨l.toArray⟩).size, (Lib.bytesCells w e ⟨l.toArray⟩).size + 1)) := hc
        simp only [World.cell?, hc']
        have hil : i < l.length := by have := (List.getElem?_eq_some_iff.1 hi).1; simpa using this
        simp only [Option.isSome_none, Bool.false_eq_true, if_false]
        simp only [Lib.bytesCells]
        rw [Array.getElem?_append_left (by simpa using hil)]
        simpa using hi
      · refine VRs.of_get (by simp) fun i v u hv hu => ?_
        rw [List.getElem?_map] at hv hu
        cases hbb : l[i]? with
        | none => rw [hbb] at hv; cases hv
        | some b =>
          rw [hbb] at hv hu
          simp at hv hu
          subst hv hu
          simp [VR, byteV]
    · cases hb
  · cases hb

/-! ### One operation -/
def evAll (tmps : List V) : List Operand → Option (List V)
  | [] => some []
  | x :: xs => match evs tmps x, evAll tmps xs with
    | some v, some vs => some (v :: vs)
    | _, _ => none

def evParts (tmps : List V) : List (Nat × Operand) → Option (List (Nat × V))
  | [] => some []
  | (i, x) :: xs => match evs tmps x, evParts tmps xs with
    | some v, some vs => some ((i, v) :: vs)
    | _, _ => none

def evOpt (tmps : List V) : Option Operand → Option (Option V)
  | none => some none
  | some x => (evs tmps x).map some

theorem evAll_ok {a : Act} {tmps : List V} {toks : List Bool} (h : VRs g toks w tmps a.tmps.toList) : ∀ {xs : List Operand} {vs : List V}, evAll tmps xs = some vs → VRs g toks w vs (xs.map a.eval)
  | [], vs, hv => by simp only [evAll] at hv; injection hv with hv; subst hv; simp [VRs]
  | x :: xs, vs, hv => by
    simp only [evAll] at hv
    split at hv
    · rename_i v vs' h1 h2
      injection hv with hv; subst hv
      simp only [List.map_cons, VRs]
      exact ⟨_, _, rfl, evs_ok h h1, evAll_ok h h2⟩
    · cases hv

theorem evParts_ok {a : Act} {tmps : List V} {toks : List Bool} (h : VRs g toks w tmps a.tmps.toList) : ∀ {xs : List (Nat × Operand)} {vs : List (Nat × V)}, evParts tmps xs = some vs → PartsR g toks w vs (xs.map fun p => (p.1, a.eval p.2))
  | [], vs, hv => by simp only [evParts] at hv; injection hv with hv; subst hv; simp [PartsR]
  | (i, x) :: xs, vs, hv => by
    simp only [evParts] at hv
    split at hv
    · rename_i v vs' h1 h2
      injection hv with hv; subst hv
      simp only [List.map_cons, PartsR]
      exact ⟨_, _, rfl, evs_ok h h1, evParts_ok h h2⟩
    · cases hv

theorem evOpt_ok {a : Act} {tmps : List V} {toks : List Bool} (h : VRs g toks w tmps a.tmps.toList) {x : Option Operand} {v : Option V} (hv : evOpt tmps x = some v) : OR (VR g toks w) v (x.map a.eval) := by
  cases x with
  | none => simp only [evOpt] at hv; injection hv with hv; subst hv; exact OR.none
  | some x =>
    simp only [evOpt] at hv
    rw [Option.map_eq_some_iff] at hv
    obtain ⟨y, hy, rfl⟩ := hv
    exact OR.some (evs_ok h hy)

def vbuiltin (P : Program) (σ : St) (b : Builtin) (ts : List TypeId) (vs : List V) : Option (V × St) :=
  match b, ts, vs with
  | .len, [t], [x] => (vlen P t x).map (·, σ)
  | .append, [t, t2], [s, x] => vappend P σ t t2 s x
  | .max, _, [x, y] => (vmm true x y).map (·, σ)
  | .min, _, [x, y] => (vmm false x y).map (·, σ)
  | .min, _, [x, y, z, u] => (vmm4 false x y z u).map (·, σ)
  | _, _, _ => none

def strShort : V → Bool
  | .str l => decide (l.length ≤ 140737488355328)
  | _ => true

def vop (P : Program) (tmps : List V) (σ : St) (o : Op) : Option (V × St) :=
  match o with
  | .move x => (evs tmps x).map (·, σ)
  | .assign x => (evs tmps x).map (·, σ)
  | .pick c a b => match evs tmps c with
    | some (.bool t) => (evs tmps (if t then a else b)).map (·, σ)
    | _ => none
  | .alloc e => valloc P σ e
  | .box _ x => (evs tmps x).map (vbox σ)
  | .build t parts => match evParts tmps parts.toList with
    | some ps => (vbuild P t ps).map (·, σ)
    | none => none
  | .buildSlice t len parts => match evParts tmps parts.toList with
    | some ps => (vbuildSlice P t len ps).map (·, σ)
    | none => none
  | .load t x => match evs tmps x with
    | some a => (vload P σ.objs t a).map (·, σ)
    | none => none
  | .store t x y => match evs tmps x, evs tmps y with
    | some a, some v => (vstore P σ t a v).map (.tuple [], ·)
    | _, _ => none
  | .nilCheck x => match evs tmps x with
    | some a => (vnil a).map (·, σ)
    | none => none
  | .binOp op t x y _ => match evs tmps x, evs tmps y with
    | some a, some b => (vbin P op t x y a b).map (·, σ)
    | _, _ => none
  | .unOp op _ x => match evs tmps x with
    | some a => (vun op a).map (·, σ)
    | none => none
  | .convert s d x => match evs tmps x with
    | some a => match vconv P s d a with
      | some v => some (v, σ)
      | none => if strShort a then (vbytes P s d a).map (·, σ) else none
    | none => none
  | .makeInterface t x => match evs tmps x with
    | some a => (vmakeIface P t a).map (·, σ)
    | none => none
  | .makeFunc (.func f) first caps => if first = #[] then (evAll tmps caps.toList).map fun vs => (.func f vs, σ) else none
  | .makeSlice t l c => match evs tmps l, evs tmps c with
    | some a, some b => vmakeSlice P σ t a b
    | _, _ => none
  | .slice t x lo hi mx => match P.underlying t with
    | some (.array _ _) => none
    | _ => match evs tmps x, evOpt tmps lo, evOpt tmps hi, evOpt tmps mx with
      | some a, some l, some h, some m => (vslice P t a l h m).map (·, σ)
      | _, _, _, _ => none
  | .fieldAddr t x f => match evs tmps x with
    | some a => (vfieldAddr P t a f).map (·, σ)
    | none => none
  | .field t x f => match evs tmps x with
    | some a => (vfield P t a f).map (·, σ)
    | none => none
  | .indexAddr t x i => match evs tmps x, evs tmps i with
    | some a, some b => (vindexAddr P t a b).map (·, σ)
    | _, _ => none
  | .index t x i => match evs tmps x, evs tmps i with
    | some a, some b => (vindex P t a b).map (·, σ)
    | _, _ => none
  | .extract x i => match evs tmps x with
    | some a => (vextract a i).map (·, σ)
    | none => none
  | .typeAssert x xt at_ ok => match evs tmps x with
    | some a => (vtypeAssert P a xt at_ ok).map (·, σ)
    | none => none
  | .call { callee := .builtin b, args, argTypes } => match evAll tmps args.toList with
    | some vs => vbuiltin P σ b argTypes.toList vs
    | none => none
  | .makeMap _ none => some (vmakeMap σ)
  | .insert t m k x => match evs tmps m, evs tmps k, evs tmps x with
    | some a, some b, some c => (vmapSet P σ t a b c).map (.tuple [], ·)
    | _, _, _ => none
  | .mapUpdate t m k x => match evs tmps m, evs tmps k, evs tmps x with
    | some a, some b, some c => (vmapSet P σ t a b c).map (.tuple [], ·)
    | _, _, _ => none
  | .lookup t x i ok => match evs tmps x, evs tmps i with
    | some a, some b => (vlookup P σ.objs t a b ok).map (·, σ)
    | _, _ => none
  | _ => none

/-- The model's operation answers what is said. -/
def OOk (P : Program) (base : Nat) (w0 : World) (g : Gh) (σ : St) (w : World) (m : Sem Next) (v : V) (σ' : St) : Prop :=
  ∃ n u w' g', m.run P w = .ok n w' ∧ (n = .value u ∨ (n = .skip ∧ u = undef)) ∧ Ext g σ.toks w g' σ'.toks w' ∧ Rel base w0 g' σ' w' ∧ VR g' σ'.toks w' v u

theorem OOk.of_pure (h : Rel base w0 g σ w) {m : Sem Value} {v : V} (hp : POk P g σ.toks w m v) : OOk P base w0 g σ w (do pure (.value (← m))) v σ := by
  obtain ⟨u, hu, hr⟩ := hp
  exact ⟨.value u, u, w, g, by simp [hu], .inl rfl, Ext.refl _ _ _, h, hr⟩

theorem OOk.of_mem {m : Sem Value} {v : V} {σ' : St} (hp : MOk P base w0 g σ w m v σ') : OOk P base w0 g σ w (do pure (.value (← m))) v σ' := by
  obtain ⟨u, w', g', hu, hE, hR, hr⟩ := hp
  exact ⟨.value u, u, w', g', by simp [hu], .inl rfl, hE, hR, hr⟩

theorem vmm_ok {mx : Bool} {x y v : V} {a b : Value} (hx : VR g σ.toks w x a) (hy : VR g σ.toks w y b) (h : vmm mx x y = some v) (ts : Array TypeId) (t : TypeId) : POk P g σ.toks w (if mx then Builtin.max_ ts t #[a, b] else Builtin.min_ ts t #[a, b]) v := by
  unfold vmm at h
  split at h
  · simp only [VR] at hx hy
    subst hx hy
    injection h with h; subst h
    cases mx
    · exact ⟨_, by simp [Builtin.min_, Builtin.min2]; rfl, by simp [VR]⟩
    · exact ⟨_, by simp [Builtin.max_, Builtin.max2]; rfl, by simp [VR]⟩
  · cases h

theorem vmm4_ok {x y z q v : V} {a b c d : Value} (hx : VR g σ.toks w x a) (hy : VR g σ.toks w y b) (hz : VR g σ.toks w z c) (hq : VR g σ.toks w q d) (h : vmm4 false x y z q = some v) (ts : Array TypeId) (t : TypeId) : POk P g σ.toks w (Builtin.min_ ts t #[a, b, c, d]) v := by
  unfold vmm4 at h
  split at h
  · simp only [VR] at hx hy hz hq
    subst hx hy hz hq
    injection h with h; subst h
    exact ⟨_, by simp [Builtin.min_, Builtin.min2]; rfl, by simp [VR, mm]⟩
  · cases h

theorem vop_ok (h : Rel base w0 g σ w) {a : Act} {tmps : List V} (ht : VRs g σ.toks w tmps a.tmps.toList) {o : Oper} {v : V} {σ' : St} (hv : vop P tmps σ o.op = some (v, σ')) : OOk P base w0 g σ w (execOp a.eval o) v σ' := by
  unfold vop at hv
  unfold execOp
  split at hv
  · rename_i x ho
    rw [Option.map_eq_some_iff] at hv
    obtain ⟨y, hy, e⟩ := hv
    injection e with e1 e2
    subst e1 e2
    rw [ho]
    exact ⟨_, _, w, g, by simp, .inl rfl, Ext.refl _ _ _, h, evs_ok ht hy⟩
  · rename_i x ho
    rw [Option.map_eq_some_iff] at hv
    obtain ⟨y, hy, e⟩ := hv
    injection e with e1 e2
    subst e1 e2
    rw [ho]
    exact ⟨_, _, w, g, by simp, .inl rfl, Ext.refl _ _ _, h, evs_ok ht hy⟩
  · rename_i c x y ho
    split at hv
    · rename_i t hc
      rw [Option.map_eq_some_iff] at hv
      obtain ⟨z, hz, e⟩ := hv
      injection e with e1 e2
      subst e1 e2
      rw [ho]
      have h1 := evs_ok ht hc
      simp only [VR] at h1
      have h2 := evs_ok ht hz
      refine ⟨.value (if t then a.eval x else a.eval y), _, w, g, by simp [h1, asBool], .inl rfl, Ext.refl _ _ _, h, ?_⟩
      cases t <;> exact h2
    · cases hv
  · rename_i e ho
    unfold valloc at hv
    split at hv
    · rw [Option.map_eq_some_iff] at hv
      obtain ⟨z, hz, e1⟩ := hv
      obtain ⟨u, hu, hou⟩ := run_zeroT hz
      obtain ⟨ad, w', g', hr, hE, hR, hV⟩ := vboxT_ok (P := P) h (ofVal_ok (g := g) (s := σ.toks) (w := w) hou) e
      rw [ho]
      rw [e1] at hE hR hV
      exact ⟨_, _, w', g', by simp [Instr.alloc, hu, hr], .inl rfl, hE, hR, hV⟩
    · rw [Option.map_eq_some_iff] at hv
      obtain ⟨z, hz, e1⟩ := hv
      obtain ⟨u, hu, hou⟩ := run_zeroT hz
      obtain ⟨ad, w', g', hr, hE, hR, hV⟩ := vbox_ok (P := P) h (ofVal_ok (g := g) (s := σ.toks) (w := w) hou) e
      rw [ho]
      rw [e1] at hE hR hV
      exact ⟨_, _, w', g', by simp [Instr.alloc, hu, hr], .inl rfl, hE, hR, hV⟩
  · rename_i e x ho
    rw [Option.map_eq_some_iff] at hv
    obtain ⟨z, hz, e1⟩ := hv
    obtain ⟨ad, w', g', hr, hE, hR, hV⟩ := vbox_ok (P := P) h (evs_ok ht hz) e
    rw [ho]
    rw [e1] at hE hR hV
    exact ⟨_, _, w', g', by simp [Instr.box, hr], .inl rfl, hE, hR, hV⟩
  · rename_i t parts ho
    split at hv
    · rename_i ps hps
      rw [Option.map_eq_some_iff] at hv
      obtain ⟨z, hz, e⟩ := hv
      injection e with e1 e2
      subst e1 e2
      rw [ho]
      exact OOk.of_pure h (vbuild_ok (by simpa using evParts_ok ht hps) hz)
    · cases hv
  · rename_i t len parts ho
    split at hv
    · rename_i ps hps
      rw [Option.map_eq_some_iff] at hv
      obtain ⟨z, hz, e⟩ := hv
      injection e with e1 e2
      subst e1 e2
      rw [ho]
      exact OOk.of_mem (vbuildSlice_ok h (by simpa using evParts_ok ht hps) hz)
    · cases hv
  · rename_i t x ho
    split at hv
    · rename_i y hy
      rw [Option.map_eq_some_iff] at hv
      obtain ⟨z, hz, e⟩ := hv
      injection e with e1 e2
      subst e1 e2
      rw [ho]
      exact OOk.of_pure h (vload_ok h (evs_ok ht hy) hz)
    · cases hv
  · rename_i t x y ho
    split at hv
    · rename_i xa ya hx hy
      rw [Option.map_eq_some_iff] at hv
      obtain ⟨z, hz, e⟩ := hv
      injection e with e1 e2
      subst e1 e2
      rw [ho]
      obtain ⟨w', hr, hE, hR⟩ := vstore_ok (P := P) h (evs_ok ht hx) (evs_ok ht hy) hz
      exact ⟨.skip, undef, w', g, by simp [hr], .inr ⟨rfl, rfl⟩, hE, hR, undef_ok⟩
    · cases hv
  · rename_i x ho
    split at hv
    · rename_i y hy
      rw [Option.map_eq_some_iff] at hv
      obtain ⟨z, hz, e⟩ := hv
      injection e with e1 e2
      subst e1 e2
      rw [ho]
      have hV := evs_ok ht hy
      unfold vnil at hz
      split at hz
      · injection hz with hz; subst hz
        have hV2 := hV
        simp only [VR] at hV2
        obtain ⟨_, hV2⟩ := hV2
        exact ⟨_, _, w, g, by simp [hV2]; rfl, .inl rfl, Ext.refl _ _ _, h, by rw [hV2] at hV; exact hV⟩
      · injection hz with hz; subst hz
        have hV2 := hV
        simp only [VR] at hV2
        obtain ⟨_, _, _, hV2, _⟩ := hV2
        exact ⟨_, _, w, g, by simp [hV2]; rfl, .inl rfl, Ext.refl _ _ _, h, by rw [hV2] at hV; exact hV⟩
      · injection hz with hz; subst hz
        have hV2 := hV
        simp only [VR] at hV2
        obtain ⟨_, hV2, _⟩ := hV2
        exact ⟨_, _, w, g, by simp [hV2]; rfl, .inl rfl, Ext.refl _ _ _, h, by rw [hV2] at hV; exact hV⟩
      · injection hz with hz; subst hz
        have hV2 := hV
        simp only [VR] at hV2
        obtain ⟨_, hV2, _⟩ := hV2
        exact ⟨_, _, w, g, by simp [hV2]; rfl, .inl rfl, Ext.refl _ _ _, h, by rw [hV2] at hV; exact hV⟩
      · cases hz
    · cases hv
  · rename_i op t x y yt ho
    split at hv
    · rename_i xa ya hx hy
      rw [Option.map_eq_some_iff] at hv
      obtain ⟨z, hz, e⟩ := hv
      injection e with e1 e2
      subst e1 e2
      rw [ho]
      exact OOk.of_pure h (vbin_ok (evs_ok ht hx) (evs_ok ht hy) hz)
    · cases hv
  · rename_i op t x ho
    split at hv
    · rename_i xa hx
      rw [Option.map_eq_some_iff] at hv
      obtain ⟨z, hz, e⟩ := hv
      injection e with e1 e2
      subst e1 e2
      rw [ho]
      exact OOk.of_pure h (vun_ok (evs_ok ht hx) hz)
    · cases hv
  · rename_i s d x ho
    split at hv
    · rename_i xa hx
      rw [ho]
      split at hv
      · rename_i z hz
        injection hv with hv
        injection hv with e1 e2
        subst e1 e2
        exact OOk.of_pure h (vconv_ok (evs_ok ht hx) hz)
      · split at hv
        · rename_i hsh
          rw [Option.map_eq_some_iff] at hv
          obtain ⟨z, hz, e⟩ := hv
          injection e with e1 e2
          subst e1 e2
          exact OOk.of_mem (vbytes_ok h (evs_ok ht hx) hz (fun l hl => by rw [hl] at hsh; simpa [strShort] using hsh))
        · cases hv
    · cases hv
  · rename_i t x ho
    split at hv
    · rename_i xa hx
      rw [Option.map_eq_some_iff] at hv
      obtain ⟨z, hz, e⟩ := hv
      injection e with e1 e2
      subst e1 e2
      rw [ho]
      exact OOk.of_pure h (vmakeIface_ok (evs_ok ht hx) hz)
    · cases hv
  · rename_i f first caps ho
    split at hv
    · rename_i hf
      rw [Option.map_eq_some_iff] at hv
      obtain ⟨z, hz, e⟩ := hv
      injection e with e1 e2
      subst e1 e2
      rw [ho]
      refine ⟨.value (.func (.func f) #[] (caps.map a.eval)), _, w, g, by simp [Instr.makeFunc, hf], .inl rfl, Ext.refl _ _ _, h, ?_⟩
      simp only [VR]
      exact ⟨caps.toList.map a.eval, by congr 1; apply Array.ext'; simp, evAll_ok ht hz⟩
    · cases hv
  · rename_i t l c ho
    split at hv
    · rename_i xa ya hx hy
      rw [ho]
      exact OOk.of_mem (vmakeSlice_ok h (evs_ok ht hx) (evs_ok ht hy) hv)
    · cases hv
  · rename_i t x lo hi mx ho
    split at hv
    · cases hv
    · split at hv
      · rename_i xa la ha ma hx hl hh hm
        rw [Option.map_eq_some_iff] at hv
        obtain ⟨z, hz, e⟩ := hv
        injection e with e1 e2
        subst e1 e2
        rw [ho]
        exact OOk.of_pure h (vslice_ok (evs_ok ht hx) (evOpt_ok ht hl) (evOpt_ok ht hh) (evOpt_ok ht hm) hz)
      · cases hv
  · rename_i t x f ho
    split at hv
    · rename_i xa hx
      rw [Option.map_eq_some_iff] at hv
      obtain ⟨z, hz, e⟩ := hv
      injection e with e1 e2
      subst e1 e2
      rw [ho]
      exact OOk.of_pure h (vfieldAddr_ok (evs_ok ht hx) hz)
    · cases hv
  · rename_i t x f ho
    split at hv
    · rename_i xa hx
      rw [Option.map_eq_some_iff] at hv
      obtain ⟨z, hz, e⟩ := hv
      injection e with e1 e2
      subst e1 e2
      rw [ho]
      exact OOk.of_pure h (vfield_ok (evs_ok ht hx) hz)
    · cases hv
  · rename_i t x i ho
    split at hv
    · rename_i xa ya hx hy
      rw [Option.map_eq_some_iff] at hv
      obtain ⟨z, hz, e⟩ := hv
      injection e with e1 e2
      subst e1 e2
      rw [ho]
      exact OOk.of_pure h (vindexAddr_ok (evs_ok ht hx) (evs_ok ht hy) hz)
    · cases hv
  · rename_i t x i ho
    split at hv
    · rename_i xa ya hx hy
      rw [Option.map_eq_some_iff] at hv
      obtain ⟨z, hz, e⟩ := hv
      injection e with e1 e2
      subst e1 e2
      rw [ho]
      exact OOk.of_pure h (vindex_ok (evs_ok ht hx) (evs_ok ht hy) hz)
    · cases hv
  · rename_i x i ho
    split at hv
    · rename_i xa hx
      rw [Option.map_eq_some_iff] at hv
      obtain ⟨z, hz, e⟩ := hv
      injection e with e1 e2
      subst e1 e2
      rw [ho]
      exact OOk.of_pure h (vextract_ok (evs_ok ht hx) hz)
    · cases hv
  · rename_i x xt at_ ok ho
    split at hv
    · rename_i xa hx
      rw [Option.map_eq_some_iff] at hv
      obtain ⟨z, hz, e⟩ := hv
      injection e with e1 e2
      subst e1 e2
      rw [ho]
      exact OOk.of_pure h (vtypeAssert_ok (evs_ok ht hx) hz)
    · cases hv
  · rename_i b args argTypes ho
    split at hv
    · rename_i vs hvs
      rw [ho]
      have hA := evAll_ok ht hvs
      unfold vbuiltin at hv
      split at hv
      · rename_i t x hts
        rw [Option.map_eq_some_iff] at hv
        obtain ⟨z, hz, e⟩ := hv
        injection e with e1 e2
        subst e1 e2
        simp only [VRs] at hA
        obtain ⟨u, us', hus, hxu, hnil⟩ := hA
        have hargs : args.map a.eval = #[u] := by apply Array.ext'; simp [hus, hnil]
        have hT : argTypes[0]? = some t := by rw [← Array.getElem?_toList, hts]; rfl
        obtain ⟨r, hr, hV⟩ := vlen_ok (P := P) hxu hz o.type argTypes hT #[u] rfl
        exact ⟨.value r, r, w, g, by simp [resolve, invoke, builtin, hargs, hr], .inl rfl, Ext.refl _ _ _, h, hV⟩
      · rename_i t t2 s x hts
        simp only [VRs] at hA
        obtain ⟨u, us', hus, hxu, u2, us2, hus2, hxu2, hnil⟩ := hA
        have hargs : args.map a.eval = #[u, u2] := by apply Array.ext'; simp [hus, hus2, hnil]
        have hT : argTypes = #[t, t2] := by apply Array.ext'; simpa using hts
        obtain ⟨r, w', g', hr, hE, hR, hV⟩ := vappend_ok (ty := o.type) h hxu hxu2 hv
        exact ⟨.value r, r, w', g', by simp [resolve, invoke, builtin, hargs, hT, hr], .inl rfl, hE, hR, hV⟩
      · rename_i x y
        rw [Option.map_eq_some_iff] at hv
        obtain ⟨z, hz, e⟩ := hv
        injection e with e1 e2
        subst e1 e2
        simp only [VRs] at hA
        obtain ⟨u, us', hus, hxu, u2, us2, hus2, hxu2, hnil⟩ := hA
        have hargs : args.map a.eval = #[u, u2] := by apply Array.ext'; simp [hus, hus2, hnil]
        obtain ⟨r, hr, hV⟩ := vmm_ok (P := P) hxu hxu2 hz argTypes o.type
        simp only [if_true] at hr
        exact ⟨.value r, r, w, g, by simp [resolve, invoke, builtin, hargs, hr], .inl rfl, Ext.refl _ _ _, h, hV⟩
      · rename_i x y
        rw [Option.map_eq_some_iff] at hv
        obtain ⟨z, hz, e⟩ := hv
        injection e with e1 e2
        subst e1 e2
        simp only [VRs] at hA
        obtain ⟨u, us', hus, hxu, u2, us2, hus2, hxu2, hnil⟩ := hA
        have hargs : args.map a.eval = #[u, u2] := by apply Array.ext'; simp [hus, hus2, hnil]
        obtain ⟨r, hr, hV⟩ := vmm_ok (P := P) hxu hxu2 hz argTypes o.type
        simp only [Bool.false_eq_true, if_false] at hr
        exact ⟨.value r, r, w, g, by simp [resolve, invoke, builtin, hargs, hr], .inl rfl, Ext.refl _ _ _, h, hV⟩
      · rename_i x y z q
        rw [Option.map_eq_some_iff] at hv
        obtain ⟨z', hz, e⟩ := hv
        injection e with e1 e2
        subst e1 e2
        simp only [VRs] at hA
        obtain ⟨u, us', hus, hxu, u2, us2, hus2, hxu2, u3, us3, hus3, hxu3, u4, us4, hus4, hxu4, hnil⟩ := hA
        have hargs : args.map a.eval = #[u, u2, u3, u4] := by apply Array.ext'; simp [hus, hus2, hus3, hus4, hnil]
        obtain ⟨r, hr, hV⟩ := vmm4_ok (P := P) hxu hxu2 hxu3 hxu4 hz argTypes o.type
        exact ⟨.value r, r, w, g, by simp [resolve, invoke, builtin, hargs, hr], .inl rfl, Ext.refl _ _ _, h, hV⟩
      · cases hv
    · cases hv
  · rename_i t ho
    injection hv with hv
    rw [ho]
    obtain ⟨u, w', g', hr, hE, hR, hV⟩ := vmakeMap_ok (P := P) h t
    have e1 : v = (vmakeMap σ).1 := by rw [hv]
    have e2 : σ' = (vmakeMap σ).2 := by rw [hv]
    subst e1 e2
    exact ⟨.value u, u, w', g', by simp [hr], .inl rfl, hE, hR, hV⟩
  · rename_i t m k x ho
    split at hv
    · rename_i xa ya za hx hy hz0
      rw [Option.map_eq_some_iff] at hv
      obtain ⟨z, hz, e⟩ := hv
      injection e with e1 e2
      subst e1 e2
      rw [ho]
      obtain ⟨w', hr, hE, hR⟩ := vmapSet_ok (P := P) h (evs_ok ht hx) (evs_ok ht hy) (evs_ok ht hz0) hz
      exact ⟨.skip, undef, w', g, by simp [hr], .inr ⟨rfl, rfl⟩, hE, hR, undef_ok⟩
    · cases hv
  · rename_i t m k x ho
    split at hv
    · rename_i xa ya za hx hy hz0
      rw [Option.map_eq_some_iff] at hv
      obtain ⟨z, hz, e⟩ := hv
      injection e with e1 e2
      subst e1 e2
      rw [ho]
      obtain ⟨w', hr, hE, hR⟩ := vmapSet_ok (P := P) h (evs_ok ht hx) (evs_ok ht hy) (evs_ok ht hz0) hz
      exact ⟨.skip, undef, w', g, by simp [hr], .inr ⟨rfl, rfl⟩, hE, hR, undef_ok⟩
    · cases hv
  · rename_i t x i ok ho
    split at hv
    · rename_i xa ya hx hy
      rw [Option.map_eq_some_iff] at hv
      obtain ⟨z, hz, e⟩ := hv
      injection e with e1 e2
      subst e1 e2
      rw [ho]
      exact OOk.of_pure h (vlookup_ok h (evs_ok ht hx) (evs_ok ht hy) hz)
    · cases hv
  · cases hv
end
end Go.Proofs.Ytmcadfejkcpblaa.Q
